/- Part 2 of the texts on which the proof rests. Conditions: none. -/
import Derived.ScopeJumps
import Derived.Below
import Derived.Maps.RangeRun
import Derived.Test.YtnncijcapdnlgaaGreatProg
import Derived.Shelf.SlIterI.Nil
import Derived.Shelf.SortM.Plain
import Derived.Shelf.SortM.SortNone
import Derived.WideKeyRuns
import Derived.Test.YtnncijcapdnlgaaGreatZA1
set_option linter.unusedVariables false
set_option linter.unusedSimpArgs false
set_option linter.unusedSectionVars false
namespace Go.Nm
open Go
def cMemI {κ:Type} [DecidableEq κ] (kenc:κ->Value) (b:Nat) (F:κ->M Int):Chunk where
  D k:=k=b
  ex:=true
  ok w:=∃ f:κ->Option Int,(cMap kenc I b f).ok w/\∀ k v,f k=some v->(F k).Ends v
  st w w' h hs k:=by
    obtain ⟨f,h1,h2⟩:=h
    exact ⟨f,(cMap kenc I b f).st w w' h1 hs k,h2⟩
  bd w k h e:=by
    obtain ⟨f,h1,h2⟩:=h
    exact (cMap kenc I b f).bd w k h1 e
section
variable {κ:Type} [DecidableEq κ] {kenc:κ->Value} {b:Nat} {F:κ->M Int} {P:Program} {w w0:World} {L L' R:List Chunk}
variable {all rest:List Oper} {Q:Post} {σ:Env} {d:Nat} {ty:TypeId} {pos:String} {af:Array Edge}
theorem t_mkmemI {t':TypeId} (kenc:κ->Value) (F:κ->M Int) (H:St w0 w L R) (k:∀ b w',St w0 w' (cMemI kenc b F :: L) R->SL P all Q rest (upd σ d (.map (some b))) w'):SL P all Q (⟨some d,.makeMap t' none,ty,pos,af,none⟩ :: rest) σ w :=
  s_mkmap fun b w' hn=>k b w' (H.push (c:=cMemI kenc b F) hn.ext
    ⟨fun _=>none,⟨_,_,hn.same,MapR.nil kenc I 0⟩,fun k v h=>by cases h⟩ (fun j hj=>by rw [show j=b from hj]; exact hn.ge))
/-- The map by itself. -/
theorem St.memOpenI {i:Nat} (H:St w0 w L R) (hk:L[i]?=some (cMemI kenc b F)):∃ f:κ->Option Int,St w0 w (L.set i (cMap kenc I b f)) R/\∀ k v,f k=some v->(F k).Ends v:=by
  obtain ⟨f,h1,h2⟩:=H.get hk
  exact ⟨f,H.set (c':=cMap kenc I b f) hk rfl (Keep.refl w) (fun _ _ _=>rfl) (fun b hb=>.inl hb) h1 rfl,h2⟩
theorem St.memShutI {i:Nat} {f:κ->Option Int} (H:St w0 w L R) (hk:L[i]?=some (cMap kenc I b f)) (hF:∀ k v,f k=some v->(F k).Ends v):St w0 w (L.set i (cMemI kenc b F)) R :=
  H.set (c':=cMemI kenc b F) hk rfl (Keep.refl w) (fun _ _ _=>rfl) (fun b hb=>.inl hb) ⟨f,H.get hk,hF⟩ rfl
theorem memIput {f:κ->Option Int} {k:κ} {v:Int} (hF:∀ k v,f k=some v->(F k).Ends v) (hE:(F k).Ends v):∀ k' v',updF f k v k'=some v'->(F k').Ends v':=fun k' v' h=>by
  unfold updF at h
  split at h
  · rename_i e
    subst e
    obtain rfl:=Option.some.inj h
    exact hE
  · exact hF k' v' h
end
end Go.Nm
namespace Go.Nm
open Go
/-- A map of slices, with the rows to which they lead (they are read on only). -/
def cMem {κ α:Type} [DecidableEq κ] [Flat α] (kenc:κ->Value) (b:Nat) (B:Base) (F:κ->M (List α)):Chunk where
  D k:=k=b∨(B.D k/\k<B.w.heap.size)
  ex:=true
  ok w:=(∃ f:κ->Option Value,(cMap kenc id b f).ok w/\∀ k v,f k=some v->∃ l,(F k).Ends l/\Sl B.cells v l)/\(cRo B).ok w/\¬ (B.D b/\b<B.w.heap.size)
  st w w' h hs k:=by
    obtain ⟨⟨f,h1,h2⟩,h3,h4⟩:=h
    exact ⟨⟨f,(cMap kenc id b f).st w w' h1 hs fun j hj=>k j (.inl hj),h2⟩,(cRo B).st w w' h3 hs fun j hj=>k j (.inr hj),h4⟩
  bd w k h e:=by
    obtain ⟨⟨f,h1,h2⟩,h3,h4⟩:=h
    rcases e with e | e
    · exact (cMap kenc id b f).bd w k h1 e
    · exact (cRo B).bd w k h3 e
/-- A base that nothing else knows. -/
def cRx (B:Base):Chunk where
  D b:=B.D b/\b<B.w.heap.size
  ex:=true
  ok w:=(cRo B).ok w
  st w w' h hs k:=(cRo B).st w w' h hs k
  bd w b h hb:=(cRo B).bd w b h hb
section
variable {κ α:Type} [DecidableEq κ] [Flat α] {kenc:κ->Value} {b:Nat} {B:Base} {F:κ->M (List α)} {P:Program} {w w0:World} {L L' R:List Chunk} {kt et t:TypeId}
variable {all rest:List Oper} {Q:Post} {σ:Env} {d:Nat} {ty:TypeId} {pos:String} {af:Array Edge}
theorem memLe:∀ w,(cMem kenc b B F).ok w->B.cells.Le w.cell?:=fun w h=>roLe w h.2.1
/-- A new one. -/
theorem t_mkmem {t':TypeId} (kenc:κ->Value) (F:κ->M (List α)) (H:St w0 w L R) (k:∀ b B w',St w0 w' (cMem kenc b B F :: L) R->SL P all Q rest (upd σ d (.map (some b))) w'):SL P all Q (⟨some d,.makeMap t' none,ty,pos,af,none⟩ :: rest) σ w :=
  s_mkmap fun b w' hn=>k b ⟨w',fun _=>False⟩ w' (H.push (c:=cMem kenc b ⟨w',fun _=>False⟩ F) hn.ext
    ⟨⟨fun _=>none,⟨_,_,hn.same,MapR.nil kenc id 0⟩,fun k v h=>by cases h⟩,⟨Nat.le_refl _,fun _ h=>h.elim⟩,fun h=>h.1.elim⟩ (fun j hj=>by
      rcases hj with hj | hj
      · rw [hj]; exact hn.ge
      · exact hj.1.elim))
/-- The map by itself, the rows beside it. -/
theorem St.memOpen {i:Nat} (H:St w0 w L R) (hk:L[i]?=some (cMem kenc b B F)):∃ f:κ->Option Value,St w0 w (cMap kenc id b f :: cRx B :: L.eraseIdx i) R/\∀ k v,f k=some v->∃ l,(F k).Ends l/\Sl B.cells v l:=by
  have hlt:=(List.getElem?_eq_some_iff.1 hk).1
  have hp:(cMem kenc b B F :: L.eraseIdx i).Perm L:=by
    have e:L.take i++cMem kenc b B F :: L.drop (i+1)=L:=by
      rw [← (List.getElem?_eq_some_iff.1 hk).2,← List.drop_eq_getElem_cons hlt,List.take_append_drop]
    rw [List.eraseIdx_eq_take_drop_succ]
    exact List.Perm.trans List.perm_middle.symm (by rw [e])
  have hS:Sep w (cMem kenc b B F :: (L.eraseIdx i++R)):=H.sep.perm (by rw [← List.cons_append]; exact hp.append_right R)
  obtain ⟨⟨⟨f,h1,h2⟩,h3,h4⟩,ha,hr⟩:=hS
  refine ⟨f,⟨H.kp,h1,?_,h3,?_,hr⟩,h2⟩
  · intro c hc _ j hj hj'
    rcases List.mem_cons.1 hc with rfl | hc
    · rw [show j=b from hj] at hj'
      exact h4 hj'
    · exact ha c hc (by simp [cMem]) j (.inl hj) hj'
  · intro c hc _ j hj hj'
    exact ha c hc (by simp [cMem]) j (.inr hj) hj'
theorem St.memShut {f:κ->Option Value} (H:St w0 w (cMap kenc id b f :: cRx B :: L) R) (hF:∀ k v,f k=some v->∃ l,(F k).Ends l/\Sl B.cells v l):St w0 w (cMem kenc b B F :: L) R:=by
  obtain ⟨h1,ha,h3,hb,hr⟩:=H.sep
  refine ⟨H.kp,⟨⟨f,h1,hF⟩,h3,fun h=>ha (cRx B) (by simp) (by simp [cMap]) b rfl h⟩,fun c hc _ j hj hj'=>?_,hr⟩
  rcases hj with hj | hj
  · exact ha c (List.mem_cons_of_mem _ hc) (by simp [cMap]) j hj hj'
  · exact hb c hc (by simp [cRx]) j hj hj'
theorem St.memShut1 {f:κ->Option Value} {k:κ} {e:TypeId} {v:Value} {l:List α} (H:St w0 w (cMap kenc id b (updF f k v) :: cRx B :: cOwn (α:=α) e v l :: L) R) (hF:∀ k v,f k=some v->∃ l,(F k).Ends l/\Sl B.cells v l) (hE:(F k).Ends l) :
    ∃ B',B.cells.Le B'.cells/\Sl B'.cells v l/\St w0 w (cMem kenc b B' F :: L) R:=by
  have hS:=H.sep
  obtain ⟨h1,ha,h3,hb,hown,hc,hr⟩:=hS
  have hlt:∀ j,B.D j/\j<B.w.heap.size->(cRo B).D j:=fun j hj=>hj
  have hBB:B.cells.Le (Base.cells ⟨w,fun j=>(B.D j/\j<B.w.heap.size)∨v.ownBlock=some j⟩):=fun a c hc=>by
    have hd:B.D a.block:=by
      unfold Base.cells at hc
      split at hc
      · assumption
      · cases hc
    have hlt:a.block<B.w.heap.size:=by
      unfold Base.cells at hc
      rw [if_pos hd] at hc
      exact World.block_lt_of_cell? B.w a hc
    unfold Base.cells
    rw [if_pos (show (B.D a.block/\a.block<B.w.heap.size)∨v.ownBlock=some a.block from .inl ⟨hd,hlt⟩)]
    exact roLe w h3 a c hc
  have hvl:Sl (Base.cells ⟨w,fun j=>(B.D j/\j<B.w.heap.size)∨v.ownBlock=some j⟩) v l:=(ownSl hown).mono fun a c hc=>by
    have h1:=ownLe w hown a c hc
    unfold Base.cells
    rw [if_pos (Or.inr ?_)]
    · exact h1
    · unfold rowC at hc
      split at hc
      · rename_i p _ _
        split at hc
        · rename_i ha
          rw [ha]; rfl
        · cases hc
      · cases hc
  refine ⟨⟨w,fun j=>(B.D j/\j<B.w.heap.size)∨v.ownBlock=some j⟩,hBB,hvl,H.kp,⟨⟨updF f k v,h1,fun k' v' hk'=>?_⟩,⟨Nat.le_refl _,fun _ _ _=>rfl⟩,fun h=>?_⟩,fun c hc' _ j hj hj'=>?_,hr⟩
  · unfold updF at hk'
    split at hk'
    · rename_i ek
      subst ek
      obtain rfl:=Option.some.inj hk'
      exact ⟨l,hE,hvl⟩
    · obtain ⟨l',e1,e2⟩:=hF k' v' hk'
      exact ⟨l',e1,e2.mono hBB⟩
  · rcases h.1 with h | h
    · exact ha (cRx B) (by simp) (by simp [cMap]) b rfl h
    · exact ha (cOwn (α:=α) e v l) (by simp) (by simp [cMap]) b rfl h
  · rcases hj with hj | ⟨hj | hj,_⟩
    · exact ha c (List.mem_cons_of_mem _ (List.mem_cons_of_mem _ hc')) (by simp [cMap]) j hj hj'
    · exact hb c (List.mem_cons_of_mem _ hc') (by simp [cRx]) j hj hj'
    · exact hc c hc' (by simp [cOwn]) j hj hj'
end
end Go.Nm
namespace Go.Nm
open Go
section
variable {P:Program} {all rest:List Oper} {Q:Post} {σ:Env} {w:World} {ty:TypeId} {pos:String} {af:Array Edge}
/-- Which function a method's name means at a type. -/
def MethodIs (P:Program) (t:TypeId) (name:String) (f:FuncId):Prop:=∀ (v:Value) (w:World),(method (P.types.size+Made.depth) t v name).run P w = .ok (f,v) w
theorem s_calli {t:TypeId} {v:Value} {name:String} {f:FuncId} {dst:Option Nat} {x:Operand} {ops:Array Operand} {ts:Array TypeId} {R:Value->World->Prop} (hx:ev σ x = .iface t v)
    (hm:MethodIs P t name f) (hcf:CF P f) (args:List Value) (ha:ops.toList.map (ev σ)=args)
    (hc:Ret P f (v :: args).toArray w R) (k:∀ v w',R v w'->SL P all Q rest (updo σ dst v) w') :
    SL P all Q (⟨dst,.call ⟨.invoke x name,ops,ts⟩,ty,pos,af,none⟩ :: rest) σ w:=by
  have h:(execOp (ev σ) ⟨dst,.call ⟨.invoke x name,ops,ts⟩,ty,pos,af,none⟩).run P w = .ok (.enter f (v :: args).toArray) w:=by
    subst ha
    have h1:=hm v w
    simp [execOp,resolve,hx,invoke,callMethod,run_program,h1,run_callFunc hcf,amap]
    exact List.take_of_length_le (by simp)
  simp only [SL,opW,h]
  exact Calls.mono hc fun e w' ⟨v,he,hr⟩=>⟨v,he,k v w' hr⟩
/-- A quotient without rest, of any sign. -/
theorem x_quoD {t yt:TypeId} {d:Nat} {x y:Operand} {a b:Int} {g:Option (Nat × Bool)} (hx:ev σ x = .int .i64 a) (hy:ev σ y = .int .i64 b) (h:-9223372036854775808<=a/\a<=9223372036854775807/\0<b/\a % b=0) :
    (execOp (ev σ) ⟨some d,.binOp .quo t x y yt,ty,pos,af,g⟩).run P w = .ok (.value (.int .i64 (a / b))) w:=by
  obtain ⟨h1,h2,h3,h4⟩:=h
  have hd:b ∣ a:=Int.dvd_of_emod_eq_zero h4
  have e1:a.tdiv b=a / b:=Int.tdiv_eq_ediv_of_dvd hd
  have e2:b*(a / b)=a:=Int.mul_ediv_cancel' hd
  have h5:b ≠ 0:=by omega
  have lo:-9223372036854775808<=a / b:=by
    by_cases hq:a / b<=0
    · have:b*(a / b)<=1*(a / b):=Int.mul_le_mul_of_nonpos_right (by omega) hq
      omega
    · omega
  have hi:a / b<=9223372036854775807:=by
    by_cases hq:0<=a / b
    · have:1*(a / b)<=b*(a / b):=Int.mul_le_mul_of_nonneg_right (by omega) hq
      omega
    · omega
  simp [execOp,hx,hy,eqGuard,binOp,Op.intDiv,e1,h5,wrap64 (a:=a / b) (by omega)]
end
end Go.Nm
namespace Go.Nm
open Go
/-- A row of elements each of which leads to a row, all the call's own. -/
def dpL {α β:Type} [Flat α] [Flat β] (iv:β->Value) (e1 e2:TypeId) (v:Value) (us:List β) (T:List (List α)):List Chunk:=cOwn e1 v us :: (us.zip T).map fun p=>cOwn e2 (iv p.1) p.2
def cDp {α β:Type} [Flat α] [Flat β] (iv:β->Value) (e1 e2:TypeId) (v:Value) (us:List β) (T:List (List α)):Chunk:=cAll (dpL iv e1 e2 v us T)
section
set_option linter.unusedSectionVars false
variable {α β:Type} [Flat α] [Flat β] [Inhabited β] {iv:β->Value} {e1 e2:TypeId} {v:Value} {us:List β} {T:List (List α)} {w0 w:World} {L L' R:List Chunk}
theorem dpGet (hl:us.length=T.length) {i:Nat} (hi:i<T.length):(dpL iv e1 e2 v us T)[i+1]?=some (cOwn e2 (iv (us.getD i default)) (T.getD i [])):=by
  have h1:i<us.length:=by omega
  simp only [dpL,List.getElem?_cons_succ,List.getElem?_map]
  rw [List.getElem?_zip_eq_some (z:=(us.getD i default,T.getD i [])) |>.2 ⟨getD_some us h1 _,getD_some T hi _⟩]
  rfl
variable {P:Program} {all rest:List Oper} {Q:Post} {σ:Env} {d:Nat} {ty:TypeId} {pos:String} {af:Array Edge}
end
end Go.Nm
namespace Go.Nm
open Go
def ivO (r:Raw 0):Value:=r.cs.getD 0 (.bool false)
def OldM (r:Raw 0) (_:List Int):Prop:=r.cs=[ivO r]
def psd (dl:List (List Int)):List (List Int):=dl
def cDO (e1 e2:TypeId) (v:Value) (us:List (Raw 0)) (dl:List (List Int)):Chunk where
  D b:=(cDp ivO e1 e2 v us (psd dl)).D b
  ex:=true
  ok w:=(cDp ivO e1 e2 v us (psd dl)).ok w/\us.length=dl.length/\∀ i,i<dl.length->OldM (us.getD i default) (dl.getD i default)
  st w w' h hs k:=⟨(cDp ivO e1 e2 v us (psd dl)).st w w' h.1 hs k,h.2⟩
  bd w b h hb:=(cDp ivO e1 e2 v us (psd dl)).bd w b h.1 hb
section
variable {e1 e2:TypeId} {v:Value} {us:List (Raw 0)} {dl:List (List Int)} {w0 w:World} {L L' R:List Chunk}
variable {P:Program} {all rest:List Oper} {Q:Post} {σ:Env} {d:Nat} {ty:TypeId} {pos:String} {af:Array Edge}
/-- A row that has grown, or shrunk, and is not yet stored. -/
def cDG (e1 e2:TypeId) (v:Value) (us:List (Raw 0)) (dl:List (List Int)) (i:Nat) (v':Value) (row:List Int):Chunk where
  D b:=(cAll ((dpL ivO e1 e2 v us (psd dl)).set (i+1) (cOwn e2 v' row))).D b
  ex:=true
  ok w:=(cAll ((dpL ivO e1 e2 v us (psd dl)).set (i+1) (cOwn e2 v' row))).ok w/\us.length=dl.length
  st w w' h hs k:=⟨(cAll ((dpL ivO e1 e2 v us (psd dl)).set (i+1) (cOwn e2 v' row))).st w w' h.1 hs k,h.2⟩
  bd w b h hb:=(cAll ((dpL ivO e1 e2 v us (psd dl)).set (i+1) (cOwn e2 v' row))).bd w b h.1 hb
theorem St.inner {k:Nat} (H:St w0 w L R) (hk:L[k]?=some (cDO e1 e2 v us dl)) {i:Nat} (hi:i<dl.length) {v':Value} {row:List Int} {w':World} (ho:OwnF 0 e2 w' v' row) (hg:Grow 0 (ivO (us.getD i default)) w w') (hne:∀ b,b<w.heap.size->(ivO (us.getD i default)).ownBlock ≠ some b->v'.ownBlock ≠ some b):St w0 w' (L.set k (cDG e1 e2 v us dl i v' row)) R:=by
  have hok:=H.get hk
  have hl:=hok.2.1
  have hc:(dpL ivO e1 e2 v us (psd dl))[i+1]?=some (cOwn e2 (ivO (us.getD i default)) (dl.getD i default)):=dpGet hl hi
  have new:∀ b,(cOwn e2 v' row).D b->(cOwn e2 (ivO (us.getD i default)) (dl.getD i default)).D b∨w.heap.size<=b:=fun b hb=>by
    by_cases h:b<w.heap.size
    · by_cases h2:(ivO (us.getD i default)).ownBlock=some b
      · exact .inl h2
      · exact absurd hb (hne b h h2)
    · exact .inr (by omega)
  refine H.set (c':=cDG e1 e2 v us dl i v' row) hk rfl hg.keep (fun b hb hn=>hg.blk b hb (fun hc'=>hn ⟨_,List.mem_of_getElem? hc,hc'⟩)) (fun b hb=>?_) ⟨?_,hl⟩ rfl
  · obtain ⟨c,hc',hd⟩:=hb
    rcases List.mem_or_eq_of_mem_set hc' with hc' | rfl
    · exact .inl ⟨c,hc',hd⟩
    · rcases new b hd with q | q
      · exact .inl ⟨_,List.mem_of_getElem? hc,q⟩
      · exact .inr q
  · exact Sep.set (c:=cOwn e2 (ivO (us.getD i default)) (dl.getD i default)) (c':=cOwn e2 v' row) rfl hg.size (fun b hb hn=>hg.blk b hb hn) new ho (i+1) _ hok.1 hc
end
section
variable {P:Program} {w:World}
end
section
variable {e1 e2:TypeId} {v:Value} {us:List (Raw 0)} {dl:List (List Int)} {w0 w:World} {L L' R:List Chunk} {P:Program} {all rest:List Oper} {Q:Post} {σ:Env} {d:Nat} {ty:TypeId} {pos:String} {af:Array Edge}
end
end Go.Nm
namespace Go.Nm
open Go
section
variable {P:Program} {ops:Array Oper} {md:Region.Mode} {C:World->Prop} {zs:List Nat}
def onOf (md:Region.Mode) (ops:Array Oper) (j:Nat):List Nat:=match ops[j]? with
  | some o=>(o.after.toList.filter (Region.binds md)).map (·.on)
  | none=>[]
def downs (md:Region.Mode) (ops:Array Oper) (z:Nat):List Nat:=(List.range ops.size).reverse.foldl (fun acc j=>bif acc.contains j then onOf md ops j++acc else acc) (onOf md ops z)
/-- What an operation that is listed comes behind is listed, too. -/
def ClosedL (md:Region.Mode) (ops:Array Oper) (listed:Array Bool):Prop:=∀ j,listed.getD j false=true->∀ i∈onOf md ops j,listed.getD i false=true
theorem onOf_ready {listed:Array Bool} {j:Nat} (hj:j∈Region.ready md ops listed):∀ i∈onOf md ops j,listed.getD i false=true:=by
  obtain ⟨_,o,ho,hall⟩:=mem_ready.1 hj
  intro i hi
  unfold onOf at hi
  simp only [ho] at hi
  obtain ⟨e,he,rfl⟩:=List.mem_map.1 hi
  rw [List.mem_filter] at he
  exact hall e (by simpa using he.1) he.2
theorem ClosedL.set {listed:Array Bool} {j:Nat} (h:ClosedL md ops listed) (hj:j∈Region.ready md ops listed):ClosedL md ops (listed.setIfInBounds j true):=fun k hk i hi=>by
  refine getD_set_true ?_
  by_cases e:j=k
  · subst e
    exact onOf_ready hj i hi
  · rw [getD_set_ne false e] at hk
    exact h k hk i hi
theorem downs_listed {listed:Array Bool} {z:Nat} (h:ClosedL md ops listed) (hz:z∈Region.ready md ops listed):∀ i∈downs md ops z,listed.getD i false=true:=by
  unfold downs
  generalize hacc:onOf md ops z=acc
  have h0:∀ i∈acc,listed.getD i false=true:=fun i hi=>onOf_ready hz i (by rw [hacc]; exact hi)
  clear hacc
  generalize (List.range ops.size).reverse=l
  induction l generalizing acc with
  | nil=>exact h0
  | cons j r ih =>
    rw [List.foldl_cons]
    refine ih _ fun i hi=>?_
    cases hc:acc.contains j with
    | false=>rw [hc] at hi; exact h0 i hi
    | true =>
      rw [hc] at hi
      rcases List.mem_append.1 hi with hi | hi
      · exact h j (h0 j (by simpa using hc)) i hi
      · exact h0 i hi
def wpAnyS (P:Program) (md:Region.Mode) (ops:Array Oper) (C:World->Prop) (zs:List Nat) (Q:Act->World->Prop):Nat->Array Bool->Act->World->Prop
  | 0,listed,a,w=>Region.ready md ops listed=[]/\Q a w
  | fuel+1,listed,a,w =>
    (Region.ready md ops listed=[]->Q a w) ∧
    ∀ i∈Region.ready md ops listed,lOp P ops i (fun a' w'=>(i ∉ zs->C w')/\wpAnyS P md ops C zs Q fuel (listed.setIfInBounds i true) a' w') a w
theorem wpAny_of_S {r:Option Nat} {Q:Act->World->Prop} {Q':Exit->Act->World->Prop} (hQ:∀ a w,Q a w->Q' .normal a w):∀ (fuel:Nat) (listed:Array Bool) (a:Act) (w:World),
    wpAnyS P md ops C zs Q fuel listed a w->wpAnyIn (FR r) 0 P md ops Q' fuel listed a w
  | 0,_,_,_,h=>⟨h.1,hQ _ _ h.2⟩
  | fuel+1,_,_,_,h=>⟨fun h0=>hQ _ _ (h.1 h0),fun i hi=>lOp_wpOp (lOp_mono (fun a' w' hh=>wpAny_of_S hQ fuel _ a' w' hh.2) (h.2 i hi))⟩
theorem wpAnyS_first {Q:Act->World->Prop} {i:Nat} {oi:Oper} {v:Value} (hi:ops[i]?=some oi) (hz:i ∉ zs) (hb:∀ z∈zs,i∈downs md ops z) (hsel:∀ (j:Nat) (o:Oper) cs b,ops[j]?=some o->o.op ≠ .select cs b) :
    ∀ (fuel:Nat) (listed:Array Bool) (a:Act) (w:World),C w->ClosedL md ops listed →
      (∀ j oj,ops[j]?=some oj->j ≠ i->listed.getD j true=false->(∀ e∈oj.after,Region.binds md e=true->e.on ≠ i)->oi.apart ops oj=true) →
      i∈Region.ready md ops listed->YV P ops C oi v a →
      wpAnyS P md ops C zs Q fuel (listed.setIfInBounds i true) (a.put oi.dst v) w->wpAnyS P md ops C zs Q (fuel+1) listed a w:=by
  intro fuel
  induction fuel with
  | zero =>
    intro listed a w hC _ _ hr hy H
    refine ⟨fun h=>(by rw [h] at hr; cases hr),fun j hj=>?_⟩
    by_cases hji:j=i
    · subst hji; exact hy.lOp hi hC ⟨fun _=>hC,H⟩
    · have:=ready_mono hj hji
      rw [H.1] at this
      cases this
  | succ fuel ih =>
    intro listed a w hC hcl hfree hr hy H
    refine ⟨fun h=>(by rw [h] at hr; cases hr),fun j hj=>?_⟩
    by_cases hji:j=i
    · subst hji; exact hy.lOp hi hC ⟨fun _=>hC,H⟩
    · have h1:=H.2 j (ready_mono hj hji)
      obtain ⟨hjun,oj,hoj,hall⟩:=mem_ready.1 hj
      have hno:¬ listed.getD i false=true:=fun h1=>by
        have h0:=(mem_ready.1 hr).1
        rcases Nat.lt_or_ge i listed.size with h' | h'
        · simp [h'] at h0 h1; rw [h0] at h1; cases h1
        · simp [Array.getElem?_eq_none h'] at h1
      have hnot:∀ e∈oj.after,Region.binds md e=true->e.on ≠ i:=fun e he hb heq=>by
        have h1:=hall e he hb
        rw [heq] at h1
        exact hno h1
      have hjz:j ∉ zs:=fun e=>hno (downs_listed hcl hj i (hb j e))
      have h2:=lOp_put hoj (hfree j oj hoj hji hjun hnot) (fun cs b=>hsel i oi cs b hi) (fun cs b=>hsel j oj cs b hoj) hy h1
      have hfree':∀ k ok,ops[k]?=some ok->k ≠ i->(listed.setIfInBounds j true).getD k true=false →
          (∀ e∈ok.after,Region.binds md e=true->e.on ≠ i)->oi.apart ops ok=true:=fun k ok hk hki hun hno=>by
        refine hfree k ok hk hki ?_ hno
        by_cases hjk:j=k
        · subst hjk; exact hjun
        · rw [getD_set_ne true hjk] at hun; exact hun
      refine lOp_mono (fun a' w' h3=>⟨fun _=>h3.2.1 hjz,ih (listed.setIfInBounds j true) a' w' (h3.2.1 hjz) (hcl.set hj) hfree' (ready_mono hr (Ne.symm hji)) h3.1 ?_⟩) h2
      rw [Array.setIfInBounds_comm _ _ hji]
      exact h3.2.2
def canonRow (md:Region.Mode) (ops:Array Oper):List Nat->Array Bool->Bool
  | [],listed=>(Region.ready md ops listed).isEmpty
  | z :: r,listed=>(Region.ready md ops listed==[z])&&canonRow md ops r (listed.setIfInBounds z true)
def canonTS (md:Region.Mode) (ops:Array Oper) (zs:List Nat):Ord->Nat->Array Bool->Bool
  | .nil,0,listed=>canonRow md ops zs listed
  | .q k r,n+1,listed=>(Region.ready md ops listed).contains k&&Region.free md ops listed k&&!zs.contains k&&zs.all (fun z=>(downs md ops z).contains k)&&canonTS md ops zs r n (listed.setIfInBounds k true)
  | .l k r,n+1,listed=>(Region.ready md ops listed==[k])&&!zs.contains k&&canonTS md ops zs r n (listed.setIfInBounds k true)
  | .l2 k1 r1 k2 r2,n+1,listed=>(Region.ready md ops listed==[k1,k2])&&!zs.contains k1&&!zs.contains k2&&canonTS md ops zs r1 n (listed.setIfInBounds k1 true)&&canonTS md ops zs r2 n (listed.setIfInBounds k2 true)
  | .l3 k1 r1 k2 r2 k3 r3,n+1,listed=>(Region.ready md ops listed==[k1,k2,k3])&&canonTS md ops zs r1 n (listed.setIfInBounds k1 true)&&canonTS md ops zs r2 n (listed.setIfInBounds k2 true)&&canonTS md ops zs r3 n (listed.setIfInBounds k3 true)
  | _,_,_=>false
def runRow (P:Program) (ops:Array Oper) (Q:Act->World->Prop):List Nat->Act->World->Prop
  | [],a,w=>Q a w
  | z :: r,a,w=>lOp P ops z (fun a' w'=>runRow P ops Q r a' w') a w
def runTS (P:Program) (ops:Array Oper) (C:World->Prop) (zs:List Nat) (Q:Act->World->Prop):Ord->Act->World->Prop
  | .nil,a,w=>runRow P ops Q zs a w
  | .q k r,a,w=>∃ o v,ops[k]?=some o/\YV P ops C o v a/\runTS P ops C zs Q r (a.put o.dst v) w
  | .l k r,a,w=>lOp P ops k (fun a' w'=>C w'/\runTS P ops C zs Q r a' w') a w
  | .l2 k1 r1 k2 r2,a,w=>lOp P ops k1 (fun a' w'=>C w'/\runTS P ops C zs Q r1 a' w') a w/\lOp P ops k2 (fun a' w'=>C w'/\runTS P ops C zs Q r2 a' w') a w
  | .l3 k1 r1 k2 r2 k3 r3,a,w=>lOp P ops k1 (fun a' w'=>C w'/\runTS P ops C zs Q r1 a' w') a w/\lOp P ops k2 (fun a' w'=>C w'/\runTS P ops C zs Q r2 a' w') a w/\lOp P ops k3 (fun a' w'=>C w'/\runTS P ops C zs Q r3 a' w') a w
theorem wpAnyS_row {Q:Act->World->Prop}:∀ (l:List Nat),(∀ z∈l,z∈zs)->∀ (listed:Array Bool) (a:Act) (w:World),canonRow md ops l listed=true->runRow P ops Q l a w->wpAnyS P md ops C zs Q l.length listed a w
  | [],_,_,_,_,hB,h=>⟨by simpa [canonRow] using hB,h⟩
  | z :: r,hz,listed,a,w,hB,h=>by
    simp only [canonRow,Bool.and_eq_true,beq_iff_eq] at hB
    obtain ⟨hr,hB'⟩:=hB
    refine ⟨fun h0=>by rw [hr] at h0; simp at h0,fun i hi=>?_⟩
    rw [hr] at hi
    obtain rfl:i=z:=by simpa using hi
    exact lOp_mono (fun a' w' hh=>⟨fun h=>absurd (hz i (by simp)) h,wpAnyS_row r (fun y hy=>hz y (by simp [hy])) _ _ _ hB' hh⟩) h
theorem wpAnyS_canonT {Q:Act->World->Prop} (hs:Region.noSelect ops=true):∀ (l:Ord) (n:Nat) (listed:Array Bool) (a:Act) (w:World),C w->ClosedL md ops listed →
    canonTS md ops zs l n listed=true->runTS P ops C zs Q l a w->wpAnyS P md ops C zs Q (n+zs.length) listed a w
  | .nil,0,listed,a,w,_,_,hB,h=>by
    rw [Nat.zero_add]
    exact wpAnyS_row zs (fun _ h=>h) _ _ _ (by simpa only [canonTS] using hB) h
  | .q k r,n+1,listed,a,w,hC,hcl,hB,h=>by
    simp only [canonTS,Bool.and_eq_true,Bool.not_eq_true',List.all_eq_true] at hB
    obtain ⟨⟨⟨⟨hr,hf⟩,hz⟩,hb⟩,hB'⟩:=hB
    obtain ⟨o,v,h0,hy,hK⟩:=h
    have hr':k∈Region.ready md ops listed:=by simpa using hr
    rw [Nat.succ_add]
    exact wpAnyS_first h0 (by simpa using hz) (fun z hz=>by simpa using hb z hz) (Region.noSelect_spec hs) (n+zs.length) listed a w hC hcl (Region.free_spec h0 hf) hr' hy (wpAnyS_canonT hs r n _ _ _ hC (hcl.set hr') hB' hK)
  | .l k r,n+1,listed,a,w,hC,hcl,hB,h=>by
    simp only [canonTS,Bool.and_eq_true,beq_iff_eq] at hB
    obtain ⟨⟨hr,_⟩,hB'⟩:=hB
    rw [Nat.succ_add]
    refine ⟨fun h0=>by rw [hr] at h0; simp at h0,fun i hi=>?_⟩
    have hc:=hcl.set hi
    rw [hr] at hi
    obtain rfl:i=k:=by simpa using hi
    exact lOp_mono (fun a' w' hh=>⟨fun _=>hh.1,wpAnyS_canonT hs r n _ _ _ hh.1 hc hB' hh.2⟩) h
  | .l2 k1 r1 k2 r2,n+1,listed,a,w,hC,hcl,hB,h=>by
    simp only [canonTS,Bool.and_eq_true,beq_iff_eq] at hB
    obtain ⟨⟨⟨⟨hr,_⟩,_⟩,hB1⟩,hB2⟩:=hB
    rw [Nat.succ_add]
    refine ⟨fun h0=>by rw [hr] at h0; simp at h0,fun i hi=>?_⟩
    have hc:=hcl.set hi
    rw [hr] at hi
    rcases List.mem_cons.1 hi with rfl | hi
    · exact lOp_mono (fun a' w' hh=>⟨fun _=>hh.1,wpAnyS_canonT hs r1 n _ _ _ hh.1 hc hB1 hh.2⟩) h.1
    · obtain rfl:i=k2:=by simpa using hi
      exact lOp_mono (fun a' w' hh=>⟨fun _=>hh.1,wpAnyS_canonT hs r2 n _ _ _ hh.1 hc hB2 hh.2⟩) h.2
  | .l3 k1 r1 k2 r2 k3 r3,n+1,listed,a,w,hC,hcl,hB,h=>by
    simp only [canonTS,Bool.and_eq_true,beq_iff_eq] at hB
    obtain ⟨⟨⟨hr,hB1⟩,hB2⟩,hB3⟩:=hB
    rw [Nat.succ_add]
    refine ⟨fun h0=>by rw [hr] at h0; simp at h0,fun i hi=>?_⟩
    have hc:=hcl.set hi
    rw [hr] at hi
    rcases List.mem_cons.1 hi with rfl | hi
    · exact lOp_mono (fun a' w' hh=>⟨fun _=>hh.1,wpAnyS_canonT hs r1 n _ _ _ hh.1 hc hB1 hh.2⟩) h.1
    · rcases List.mem_cons.1 hi with rfl | hi
      · exact lOp_mono (fun a' w' hh=>⟨fun _=>hh.1,wpAnyS_canonT hs r2 n _ _ _ hh.1 hc hB2 hh.2⟩) h.2.1
      · obtain rfl:i=k3:=by simpa using hi
        exact lOp_mono (fun a' w' hh=>⟨fun _=>hh.1,wpAnyS_canonT hs r3 n _ _ _ hh.1 hc hB3 hh.2⟩) h.2.2
  | .nil,_+1,_,_,_,_,_,hB,_=>by simp [canonTS] at hB
  | .q _ _,0,_,_,_,_,_,hB,_=>by simp [canonTS] at hB
  | .l _ _,0,_,_,_,_,_,hB,_=>by simp [canonTS] at hB
  | .l2 _ _ _ _,0,_,_,_,_,_,hB,_=>by simp [canonTS] at hB
  | .l3 _ _ _ _ _ _,0,_,_,_,_,_,hB,_=>by simp [canonTS] at hB
theorem ClosedL.none (n:Nat):ClosedL md ops (Array.replicate n false):=fun j h=>by
  rcases Nat.lt_or_ge j n with h' | h'
  · simp [h'] at h
  · simp [Array.getElem?_replicate,Nat.not_lt.2 h'] at h
end
def SLR (P:Program) (all:List Oper) (Q:Post):List Nat->Env->World->Prop
  | [],σ,w=>Q .normal σ w
  | z :: r,σ,w=>∃ o,all[z]?=some o/\SL P all (loudQ (fun _=>True) (SLR P all Q r)) [o] σ w
def SLTS (P:Program) (all:List Oper) (C:World->Prop) (zs:List Nat) (Q:Post):Ord->Env->World->Prop
  | .nil,σ,w=>SLR P all Q zs σ w
  | .q k r,σ,w=>∃ o v,all[k]?=some o/\(bif wantedE all o σ then ∀ w',C w'->(execOp (ev σ) o).run P w' = .ok (.value v) w' else v=undef)/\SLTS P all C zs Q r (updo σ o.dst v) w
  | .l k r,σ,w=>∃ o,all[k]?=some o/\SL P all (loudQ C (SLTS P all C zs Q r)) [o] σ w
  | .l2 k1 r1 k2 r2,σ,w=>(∃ o,all[k1]?=some o/\SL P all (loudQ C (SLTS P all C zs Q r1)) [o] σ w)/\∃ o,all[k2]?=some o/\SL P all (loudQ C (SLTS P all C zs Q r2)) [o] σ w
  | .l3 k1 r1 k2 r2 k3 r3,σ,w=>(∃ o,all[k1]?=some o/\SL P all (loudQ C (SLTS P all C zs Q r1)) [o] σ w)/\(∃ o,all[k2]?=some o/\SL P all (loudQ C (SLTS P all C zs Q r2)) [o] σ w)/\∃ o,all[k3]?=some o/\SL P all (loudQ C (SLTS P all C zs Q r3)) [o] σ w
theorem SLR_run {P:Program} {ds:List Deferred} {n:Nat} {Q:Post} (all:List Oper) (hok:∀ o∈all,∀ d,o.dst=some d->d<n):∀ (l:List Nat) (σ:Env) (w:World) (a:Act),Fr ds n σ a →
    SLR P all Q l σ w->runRow P all.toArray (fun a' w'=>∃ σ',Fr ds n σ' a'/\Q .normal σ' w') l a w
  | [],σ,_,_,ha,h=>⟨σ,ha,h⟩
  | _ :: r,_,_,_,ha,⟨_,ho,h⟩=>lOp_mono (fun _ _ hh=>hh.2) (SL_lOp all hok (fun σ' w' a' ha' h'=>SLR_run all hok r σ' w' a' ha' h') ho ha h)
theorem SLTS_runTS {P:Program} {ds:List Deferred} {n:Nat} {C:World->Prop} {zs:List Nat} {Q:Post} (all:List Oper) (hok:∀ o∈all,∀ d,o.dst=some d->d<n):∀ (l:Ord) (σ:Env) (w:World) (a:Act),Fr ds n σ a →
    SLTS P all C zs Q l σ w->runTS P all.toArray C zs (fun a' w'=>∃ σ',Fr ds n σ' a'/\Q .normal σ' w') l a w
  | .nil,σ,w,a,ha,h=>SLR_run all hok zs σ w a ha h
  | .q k r,σ,w,a,ha,⟨o,v,ho,hv,hK⟩=>by
    have hmem:o∈all:=List.mem_of_getElem? ho
    refine ⟨o,v,by simpa using ho,?_,SLTS_runTS all hok r _ _ _ (ha.puto (hok o hmem) v) hK⟩
    unfold YV
    rw [wanted_eq ha all hok,ha.eval]
    cases hw:wantedE all o σ with
    | true=>rw [hw] at hv; exact .inl ⟨rfl,hv⟩
    | false=>rw [hw] at hv; exact .inr ⟨rfl,hv⟩
  | .l k r,σ,w,a,ha,⟨o,ho,h⟩=>SL_lOp all hok (fun σ' w' a' ha' h'=>SLTS_runTS all hok r σ' w' a' ha' h') ho ha h
  | .l2 k1 r1 k2 r2,σ,w,a,ha,⟨⟨o,ho,h⟩,⟨o',ho',h'⟩⟩ =>
    ⟨SL_lOp all hok (fun σ' w' a' ha' h'=>SLTS_runTS all hok r1 σ' w' a' ha' h') ho ha h,SL_lOp all hok (fun σ' w' a' ha' h'=>SLTS_runTS all hok r2 σ' w' a' ha' h') ho' ha h'⟩
  | .l3 k1 r1 k2 r2 k3 r3,σ,w,a,ha,⟨⟨o,ho,h⟩,⟨o',ho',h'⟩,⟨o'',ho'',h''⟩⟩ =>
    ⟨SL_lOp all hok (fun σ' w' a' ha' h'=>SLTS_runTS all hok r1 σ' w' a' ha' h') ho ha h,SL_lOp all hok (fun σ' w' a' ha' h'=>SLTS_runTS all hok r2 σ' w' a' ha' h') ho' ha h',SL_lOp all hok (fun σ' w' a' ha' h'=>SLTS_runTS all hok r3 σ' w' a' ha' h') ho'' ha h''⟩
theorem W.drawTS {r:Option Nat} {P:Program} {n:Nat} {Q:Post} {σ:Env} {w:World} {id:Nat} {l:List Oper} (C:World->Prop) (order:Ord) (m:Nat) (zs:List Nat) (hm:P.follows .mixedOrders=true)
    (hB:(Region.noSelect l.toArray&&Nat.beq (m+zs.length) l.length&&canonTS .any l.toArray zs order m (Array.replicate l.length false))=true)
    (hok:okDst n l=true) (h:∀ w1,Ext w w1->C w1/\SLTS P l C zs Q order σ w1):WR r P n (.region id l.toArray true) Q σ w:=by
  intro ds a ha
  simp only [Bool.and_eq_true] at hB
  obtain ⟨⟨hs,hl⟩,hB⟩:=hB
  have hl':=Nat.eq_of_beq_eq_true hl
  obtain ⟨hC,hS⟩:=h w.drew (.drew w)
  refine wpIn_region_any hm (wpAny_of_S (C:=C) (zs:=zs) (Q:=fun a' w'=>∃ σ',Fr ds n σ' a'/\Q .normal σ' w') (fun _ _ h=>h) _ _ _ _ ?_)
  have:=wpAnyS_canonT (P:=P) (md:=.any) (Q:=fun a' w'=>∃ σ',Fr ds n σ' a'/\Q .normal σ' w') hs order m (Array.replicate l.length false) a w.drew hC (ClosedL.none _) hB (SLTS_runTS l (okDst_spec hok) order σ w.drew a ha hS)
  rw [hl'] at this
  simpa using this
section
variable {P:Program} {all:List Oper} {C:World->Prop} {zs:List Nat} {z:Nat} {Q:Post} {r r2:Ord} {σ:Env} {w:World}
theorem ts_nil (h:SLR P all Q zs σ w):SLTS P all C zs Q .nil σ w:=h
theorem sr_l {o:Oper} (ho:all[z]?=some o) (h:SL P all (loudQ (fun _=>True) (SLR P all Q zs)) [o] σ w):SLR P all Q (z :: zs) σ w:=⟨o,ho,h⟩
theorem sr_nil (h:Q .normal σ w):SLR P all Q [] σ w:=h
theorem ts_q {k d:Nat} {op:Op} {ty:TypeId} {pos:String} {af:Array Edge} {v:Value} (ho:all[k]?=some ⟨some d,op,ty,pos,af,none⟩)
    (h:∀ w',C w'->(execOp (ev σ) ⟨some d,op,ty,pos,af,none⟩).run P w' = .ok (.value v) w') (hk:SLTS P all C zs Q r (upd σ d v) w):SLTS P all C zs Q (.q k r) σ w :=
  ⟨_,v,ho,h,hk⟩
theorem ts_l {k:Nat} {o:Oper} (ho:all[k]?=some o) (h:SL P all (loudQ C (SLTS P all C zs Q r)) [o] σ w):SLTS P all C zs Q (.l k r) σ w:=⟨o,ho,h⟩
theorem ts_l2 {k k2:Nat} {o o2:Oper} (ho:all[k]?=some o) (ho2:all[k2]?=some o2) (h:SL P all (loudQ C (SLTS P all C zs Q r)) [o] σ w) (h2:SL P all (loudQ C (SLTS P all C zs Q r2)) [o2] σ w) :
    SLTS P all C zs Q (.l2 k r k2 r2) σ w:=⟨⟨o,ho,h⟩,⟨o2,ho2,h2⟩⟩
end
end Go.Nm
namespace Go.Nm
open Go
section
variable {P:Program} {ops:Array Oper} {md:Region.Mode} {C:World->Prop} {zs fr:List Nat}
/-- No store of the row has come. -/
def Unl (zs:List Nat) (listed:Array Bool):Prop:=∀ z∈zs,listed.getD z false=false
theorem Unl.of {listed:Array Bool} {i:Nat} (h:Unl zs (listed.setIfInBounds i true)):Unl zs listed:=fun z hz=>by
  cases q:listed.getD z false with
  | false=>rfl
  | true =>
    have:=h z hz
    rw [getD_set_true q] at this
    cases this
theorem Unl.set {listed:Array Bool} {i:Nat} (h:Unl zs listed) (hi:i ∉ zs):Unl zs (listed.setIfInBounds i true):=fun z hz=>by
  rw [getD_set_ne false (fun e:i=z=>hi (e ▸ hz))]
  exact h z hz
end
section
variable {P:Program} {all:List Oper} {C:World->Prop} {zs fr:List Nat} {Q:Post} {r r2:Ord} {σ:Env} {w:World}
end
end Go.Nm
namespace Go.Nm
open Go
theorem perm_sub {α:Type} [DecidableEq α]:∀ (a b:List α),a.Nodup->(∀ x∈a,x∈b)->b.length<=a.length->a.Perm b
  | [],b,_,_,h=>by
    have:b=[]:=List.length_eq_zero_iff.1 (by simpa using h)
    rw [this]
  | x :: a,b,hn,hs,h=>by
    rw [List.nodup_cons] at hn
    have hx:=hs x (by simp)
    refine List.Perm.trans (List.Perm.cons x (perm_sub a (b.erase x) hn.2 (fun y hy=>?_) ?_)) (List.perm_cons_erase hx).symm
    · exact (List.mem_erase_of_ne (fun e:y=x=>hn.1 (by rw [← e]; exact hy))).2 (hs y (by simp [hy]))
    · rw [List.length_erase_of_mem hx]
      rw [List.length_cons] at h
      omega
theorem inj_map {α β:Type} {f:α->β}:∀ {l:List α},(l.map f).Nodup->∀ {x y},x∈l->y∈l->f x=f y->x=y
  | [],_,_,_,h,_,_=>by cases h
  | z :: l,hn,x,y,hx,hy,e=>by
    rw [List.map_cons,List.nodup_cons] at hn
    rcases List.mem_cons.1 hx with hx | hx <;> rcases List.mem_cons.1 hy with hy | hy
    · rw [hx,hy]
    · exact absurd (List.mem_map.2 ⟨y,hy,by rw [← e,hx]⟩) hn.1
    · exact absurd (List.mem_map.2 ⟨x,hx,by rw [e,hy]⟩) hn.1
    · exact inj_map hn.2 hx hy e
theorem St.perm {w0 w:World} {L L' R:List Chunk} (h:St w0 w L R) (p:L.Perm L'):St w0 w L' R:=by
  refine ⟨h.kp,?_⟩
  have hS:=h.sep
  rw [Sep.iff] at hS ⊢
  have q:(L++R).Perm (L'++R):=p.append_right R
  exact ⟨fun c hc=>hS.1 c (q.mem_iff.2 hc),(q.pairwise_iff fun h=>Apart.symm h).1 hS.2⟩
/-- What is allocated: where its pointer goes, its type, its cells. -/
abbrev Alc:=Nat × TypeId × List Value
def mixE (ds:List Nat) (g:Nat->Value) (σ:Env):Env:=fun t=>bif ds.contains t then g t else σ t
theorem beqF {t d:Nat} (e:t ≠ d):Nat.beq t d=false:=by
  rw [← Bool.not_eq_true]
  exact fun hb=>e (Nat.eq_of_beq_eq_true hb)
theorem mix_upd {ds:List Nat} {g:Nat->Value} {σ:Env} {d:Nat} {v:Value} (h:ds.contains d=false):upd (mixE ds g σ) d v=mixE ds g (upd σ d v):=by
  funext t
  show (bif Nat.beq t d then v else bif ds.contains t then g t else σ t)=bif ds.contains t then g t else bif Nat.beq t d then v else σ t
  by_cases e:t=d
  · subst e
    rw [h,Nat.beq_refl]
    rfl
  · rw [beqF e]
    rfl
theorem mix_put {ds:List Nat} {g:Nat->Value} {σ:Env} {d:Nat} {v:Value} (h:ds.contains d=true):upd (mixE ds g σ) d v=mixE ds (fun t=>bif Nat.beq t d then v else g t) σ:=by
  funext t
  show (bif Nat.beq t d then v else bif ds.contains t then g t else σ t)=bif ds.contains t then (bif Nat.beq t d then v else g t) else σ t
  by_cases e:t=d
  · subst e
    rw [h,Nat.beq_refl]
    rfl
  · rw [beqF e]
    rfl
def ptrOf (b:Nat):Value:=.pointer (some ⟨b,0,none⟩)
/-- Behind all of them: each has its block. -/
def FinA:List Alc->List Chunk->Env->(List Chunk->Env->Prop)->Prop
  | [],acc,σ,K=>K acc σ
  | (d,t,z) :: r,acc,σ,K=>∀ b,FinA r (acc++[cBlk b z t]) (upd σ d (.pointer (some ⟨b,0,none⟩))) K
theorem FinA.go {K:List Chunk->Env->Prop} (b:Nat->Nat):∀ (sp:List Alc) (acc:List Chunk) (σ:Env),FinA sp acc σ K->K (acc++sp.map fun x=>cBlk (b x.1) x.2.2 x.2.1) (sp.foldl (fun σ x=>upd σ x.1 (ptrOf (b x.1))) σ)
  | [],acc,σ,h=>by simpa [FinA] using h
  | (d,t,z) :: r,acc,σ,h=>by
    have:=FinA.go b r _ _ (h (b d))
    rw [List.append_assoc] at this
    exact this
theorem fold_mix (b:Nat->Nat):∀ (sp:List Alc) (σ:Env),sp.foldl (fun σ x=>upd σ x.1 (ptrOf (b x.1))) σ=mixE (sp.map (·.1)) (fun t=>ptrOf (b t)) σ
  | [],σ=>rfl
  | (d,t,z) :: r,σ=>by
    rw [List.foldl_cons,fold_mix b r]
    funext k
    show (bif (r.map fun x:Alc=>x.1).contains k then ptrOf (b k) else bif Nat.beq k d then ptrOf (b d) else σ k)=bif (d :: r.map fun x:Alc=>x.1).contains k then ptrOf (b k) else σ k
    rw [List.contains_cons]
    by_cases e:k=d
    · subst e
      rw [Nat.beq_refl,beq_self_eq_true,Bool.true_or]
      cases (List.map (fun x:Alc=>x.1) r).contains k <;> rfl
    · have h2:(k==d)=false:=beq_eq_false_iff_ne.2 e
      rw [beqF e,h2,Bool.false_or]
      rfl
/-- The check: what may come at each time is the next one of the row, or a block. -/
def canonA (md:Region.Mode) (ops:Array Oper) (A:List Nat) (tail:Ord) (nt:Nat):Nat->List (Nat × Bool)->Array Bool->Bool
  | 0,[],listed=>canonT md ops tail nt listed
  | n+1,[],listed=>!(Region.ready md ops listed).isEmpty&&(Region.ready md ops listed).all fun i=>A.contains i&&canonA md ops A tail nt n [] (listed.setIfInBounds i true)
  | n+1,(k,true) :: r,listed=>(Region.ready md ops listed).contains k&&Region.free md ops listed k&&canonA md ops A tail nt n r (listed.setIfInBounds k true)
  | n+1,(k,false) :: r,listed=>!(Region.ready md ops listed).isEmpty&&(Region.ready md ops listed).all fun i=>(i==k&&canonA md ops A tail nt n r (listed.setIfInBounds k true))||(!(i==k)&&A.contains i&&canonA md ops A tail nt n ((k,false) :: r) (listed.setIfInBounds i true))
  | 0,_ :: _,_=>false
section
variable (P:Program) (all:List Oper) (C:World->Prop) (w0:World) (R:List Chunk) (ds:List Nat) (Fin:Env->List Chunk->Prop)
/-- The row, whatever blocks there are beside. -/
def SLA:List (Nat × Bool)->Env->List Chunk->Prop
  | [],σ,L=>(∀ Lx w,St w0 w (L++Lx) R->C w)/\Fin σ L
  | (k,true) :: r,σ,L=>(∀ Lx w,St w0 w (L++Lx) R->C w)/\∃ o d v,all[k]?=some o/\o.dst=some d/\o.guard=none/\ds.contains d=false/\(∀ g w',C w'->(execOp (ev (mixE ds g σ)) o).run P w' = .ok (.value v) w')/\SLA r (upd σ d v) L
  | (k,false) :: r,σ,L=>(∀ Lx w,St w0 w (L++Lx) R->C w)/\∃ o,all[k]?=some o/\∀ g Lx w,St w0 w (L++Lx) R->SL P all (loudQ C fun σ' w'=>∃ σ'' L',σ'=mixE ds g σ''/\St w0 w' (L'++Lx) R/\SLA r σ'' L') [o] (mixE ds g σ) w
end
theorem SLA.cl {P:Program} {all:List Oper} {C:World->Prop} {w0:World} {R:List Chunk} {ds:List Nat} {Fin:Env->List Chunk->Prop} {r:List (Nat × Bool)} {σ:Env} {L:List Chunk} (h:SLA P all C w0 R ds Fin r σ L):∀ Lx w,St w0 w (L++Lx) R->C w:=by
  match r,h with
  | [],h=>exact h.1
  | (k,true) :: r,h=>exact h.1
  | (k,false) :: r,h=>exact h.1
theorem listed_lt {md:Region.Mode} {ops:Array Oper} {listed:Array Bool} {i:Nat} (h:i∈Region.ready md ops listed):listed.getD i true=false:=(mem_ready.1 h).1
/-- How far the allocations are. -/
structure AlS (P:Program) (all:List Oper) (sp:List (Nat × Alc)) (done:List Alc) (g:Nat->Value) (Lx:List Chunk):Prop where
  ex:∃ b:Nat->Nat,(∀ x∈done,g x.1=ptrOf (b x.1))/\Lx.Perm (done.map fun x=>cBlk (b x.1) x.2.2 x.2.1)
theorem wpAnyC_A {P:Program} {ds:List Deferred} {n:Nat} {C:World->Prop} {Q:Post} {md:Region.Mode} (all:List Oper) (hok:∀ o∈all,∀ d,o.dst=some d->d<n) (hs:Region.noSelect all.toArray=true) (w0:World) (R:List Chunk) (sp:List (Nat × Alc)) (tail:Ord) (nt:Nat)
    (hal:∀ x∈sp,∃ ty pos af,all[x.1]?=some ⟨some x.2.1,.alloc x.2.2.1,ty,pos,af,none⟩/\∃ z,(P.info? x.2.2.1).map (·.zero)=some (some z)/\z.cells=x.2.2.2.toArray) (hnd:(sp.map fun x=>x.2.1).Nodup) (hnd1:(sp.map fun x=>x.1).Nodup) :
    ∀ (m:Nat) (r:List (Nat × Bool)) (listed:Array Bool) (a:Act) (w:World) (σ:Env) (g:Nat->Value) (L Lx:List Chunk) (done:List (Nat × Alc)) (b:Nat->Nat),
      (∀ x∈done,x∈sp/\listed.getD x.1 true=true)->done.Nodup->(∀ x∈done,g x.2.1=ptrOf (b x.2.1))->Lx.Perm (done.map fun x=>cBlk (b x.2.1) x.2.2.2 x.2.2.1) →
      m+done.length=(r.length+sp.length) →
      Fr ds n (mixE (sp.map fun x=>x.2.1) g σ) a->St w0 w (L++Lx) R →
      canonA md all.toArray (sp.map fun x=>x.1) tail nt m r listed=true →
      SLA P all C w0 R (sp.map fun x=>x.2.1) (fun σ L=>FinA (sp.map fun x=>x.2) [] σ fun acc σ=>∀ w,St w0 w (L++acc) R->SLT P all C Q tail σ w) r σ L →
      wpAnyC P md all.toArray C (fun a' w'=>∃ σ',Fr ds n σ' a'/\Q .normal σ' w') (m+nt) listed a w:=by
  intro m
  induction m with
  | zero =>
    intro r listed a w σ g L Lx done b hd hdn hg hp hm ha H hB hS
    cases r with
    | cons x r=>simp [canonA] at hB
    | nil =>
      simp only [canonA] at hB
      obtain ⟨hcl,hF⟩:=hS
      have hF:=FinA.go b _ _ _ hF
      -- all of them are done
      have hperm:done.Perm sp:=by
        classical
        exact perm_sub done sp hdn (fun x hx=>(hd x hx).1) (by simp at hm; omega)
      have hL:Lx.Perm ((sp.map fun x=>x.2).map fun x:Alc=>cBlk (b x.1) x.2.2 x.2.1):=by
        rw [List.map_map]
        exact hp.trans (hperm.map _)
      have hσ:mixE (sp.map fun x=>x.2.1) g σ=(sp.map fun x=>x.2).foldl (fun σ x=>upd σ x.1 (ptrOf (b x.1))) σ:=by
        rw [fold_mix,List.map_map]
        funext t
        unfold mixE
        by_cases e:(sp.map fun x=>x.2.1).contains t=true
        · have e':(List.map ((fun x:Alc=>x.1) ∘ fun x:Nat × Alc=>x.2) sp).contains t=true:=e
          rw [e,e']
          obtain ⟨x,hx,rfl⟩:=List.mem_map.1 (List.contains_iff_mem.1 e)
          exact hg x (hperm.mem_iff.2 hx)
        · have e1:(sp.map fun x=>x.2.1).contains t=false:=by simpa using e
          have e':(List.map ((fun x:Alc=>x.1) ∘ fun x:Nat × Alc=>x.2) sp).contains t=false:=e1
          rw [e1,e']
          rfl
      rw [hσ] at ha
      rw [List.nil_append] at hF
      have H2:=H.perm (hL.append_left L)
      rw [Nat.zero_add]
      exact wpAnyC_canonT hs tail nt listed a w (hcl _ _ H) hB (SLT_runT all hok tail _ w a ha (hF w H2))
  | succ m ih =>
    intro r listed a w σ g L Lx done b hd hdn hg hp hm ha H hB hS
    have hC:=hS.cl _ _ H
    rw [show m+1+nt=(m+nt)+1 by omega]
    -- a block
    have alc:∀ i,i∈Region.ready md all.toArray listed->(sp.map fun x=>x.1).contains i=true->canonA md all.toArray (sp.map fun x=>x.1) tail nt m r (listed.setIfInBounds i true)=true →
        lOp P all.toArray i (fun a' w'=>C w'/\wpAnyC P md all.toArray C (fun a' w'=>∃ σ',Fr ds n σ' a'/\Q .normal σ' w') (m+nt) (listed.setIfInBounds i true) a' w') a w:=by
      intro i hi hiA hB'
      obtain ⟨⟨i',d,t,zs⟩,hx,e0⟩:=List.mem_map.1 (List.contains_iff_mem.1 hiA)
      dsimp only at e0
      subst e0
      obtain ⟨ty,pos,af,ho,z,hz,hzc⟩:=hal _ hx
      dsimp only at ho hz hzc
      have hnew:(i',d,t,zs) ∉ done:=fun hh=>by
        have h1:=(hd _ hh).2
        have h2:=listed_lt hi
        dsimp only at h1
        rw [h2] at h1
        cases h1
      have hdx:(sp.map fun x=>x.2.1).contains d=true:=List.contains_iff_mem.2 (List.mem_map.2 ⟨_,hx,rfl⟩)
      refine SL_lOp (C:=C) (K:=fun σ' w'=>∃ b',σ'=upd (mixE (sp.map fun x=>x.2.1) g σ) d (ptrOf b')/\St w0 w' (cBlk b' zs t :: (L++Lx)) R) (K':=fun a' w'=>wpAnyC P md all.toArray C (fun a' w'=>∃ σ',Fr ds n σ' a'/\Q .normal σ' w') (m+nt) (listed.setIfInBounds i' true) a' w') all hok ?_ ho ha ?_
      · rintro σ' w' a' ha' ⟨b',rfl,H'⟩
        rw [mix_put hdx] at ha'
        have hsz:i'<listed.size:=by
          have h2:=listed_lt hi
          rcases Nat.lt_or_ge i' listed.size with h' | h'
          · exact h'
          · rw [Array.getD_eq_getD_getElem?,Array.getElem?_eq_none h'] at h2
            cases h2
        have hne:∀ x∈done,x.2.1 ≠ d:=fun x hxd e=>by
          have h1:=(hd x hxd).1
          have:x=(i',d,t,zs):=inj_map hnd h1 hx e
          rw [this] at hxd
          exact hnew hxd
        refine ih r _ a' w' σ _ L (cBlk b' zs t :: Lx) ((i',d,t,zs) :: done) (fun k=>if k=d then b' else b k) ?_ (List.nodup_cons.2 ⟨hnew,hdn⟩) ?_ ?_ (by rw [List.length_cons]; omega) ha' (H'.perm List.perm_middle.symm) hB' hS
        · intro x hx'
          rcases List.mem_cons.1 hx' with rfl | hx'
          · refine ⟨hx,?_⟩
            dsimp only
            rw [Array.getD_eq_getD_getElem?,Array.getElem?_setIfInBounds_self_of_lt hsz]
            rfl
          · refine ⟨(hd x hx').1,?_⟩
            by_cases e:i'=x.1
            · rw [← e,Array.getD_eq_getD_getElem?,Array.getElem?_setIfInBounds_self_of_lt hsz]
              rfl
            · rw [getD_set_ne true e]
              exact (hd x hx').2
        · intro x hx'
          rcases List.mem_cons.1 hx' with rfl | hx'
          · dsimp only
            rw [Nat.beq_refl,if_pos rfl]
            rfl
          · have e:=hne x hx'
            rw [beqF e,if_neg e]
            exact hg x hx'
        · rw [List.map_cons,if_pos rfl]
          refine List.Perm.cons _ (hp.trans (List.Perm.of_eq (List.map_congr_left fun x hx'=>?_)))
          rw [if_neg (hne x hx')]
      · exact t_alloc (cs:=zs) H hz hzc fun b' w' H'=>⟨hS.cl _ _ (H'.perm List.perm_middle.symm),b',rfl,H'⟩
    match r,hS,hB,hm,ih,alc with
    | [],hS,hB,hm,ih,alc =>
      simp only [canonA,Bool.and_eq_true,Bool.not_eq_true',List.isEmpty_eq_false_iff,List.all_eq_true] at hB
      exact ⟨fun h0=>absurd h0 hB.1,fun i hi=>alc i hi (hB.2 i hi).1 (hB.2 i hi).2⟩
    | (k, true) :: r, ⟨_, o, d, v, ho, hdst, hgd, hdd, hv, hK⟩, hB, hm, ih, alc =>
      simp only [canonA,Bool.and_eq_true] at hB
      obtain ⟨⟨hr,hf⟩,hB'⟩:=hB
      have hmem:o∈all:=List.mem_of_getElem? ho
      have ho':all.toArray[k]?=some o:=by simpa using ho
      refine wpAnyC_first ho' (Region.noSelect_spec hs) (m+nt) listed a w hC (Region.free_spec ho' hf) (by simpa using hr) (v:=v) ?_ ?_
      · unfold YV
        rw [wanted_eq ha all hok,ha.eval]
        unfold wantedE
        rw [hgd]
        exact .inl ⟨rfl,fun w' hw'=>hv g w' hw'⟩
      · rw [hdst]
        have ha2:=ha.put (hok o hmem d hdst) v
        rw [mix_upd hdd] at ha2
        refine ih r _ _ w _ g L Lx done b (fun x hx=>⟨(hd x hx).1,?_⟩) hdn hg hp (by rw [List.length_cons] at hm; omega) ha2 H hB' hK
        by_cases e:k=x.1
        · have:=listed_lt (md:=md) (ops:=all.toArray) (listed:=listed) (i:=k) (by simpa using hr)
          rw [e,(hd x hx).2] at this
          cases this
        · rw [getD_set_ne true e]
          exact (hd x hx).2
    | (k, false) :: r, ⟨hcl, o, ho, hK⟩, hB, hm, ih, alc =>
      simp only [canonA,Bool.and_eq_true,Bool.not_eq_true',List.isEmpty_eq_false_iff,List.all_eq_true] at hB
      refine ⟨fun h0=>absurd h0 hB.1,fun i hi=>?_⟩
      have hBi:=hB.2 i hi
      by_cases e:i=k
      · subst e
        have hB':canonA md all.toArray (sp.map fun x=>x.1) tail nt m r (listed.setIfInBounds i true)=true:=by
          simpa using hBi
        refine (SL_lOp (C:=C) (K':=fun a' w'=>wpAnyC P md all.toArray C (fun a' w'=>∃ σ',Fr ds n σ' a'/\Q .normal σ' w') (m+nt) (listed.setIfInBounds i true) a' w') all hok ?_ ho ha (hK g Lx w H))
        rintro σ' w' a' ha' ⟨σ'',L',rfl,H',hS'⟩
        refine ih r _ a' w' σ'' g L' Lx done b (fun x hx=>⟨(hd x hx).1,?_⟩) hdn hg hp (by rw [List.length_cons] at hm; omega) ha' H' hB' hS'
        by_cases e:i=x.1
        · have:=listed_lt hi
          rw [e,(hd x hx).2] at this
          cases this
        · rw [getD_set_ne true e]
          exact (hd x hx).2
      · have h2:(i==k)=false:=beq_eq_false_iff_ne.2 e
        rw [h2] at hBi
        simp only [Bool.false_and,Bool.not_false,Bool.true_and,Bool.false_or,Bool.and_eq_true] at hBi
        exact alc i hi hBi.1 hBi.2
theorem W.drawA {r:Option Nat} {P:Program} {n:Nat} {Q:Post} {σ:Env} {w w0:World} {id:Nat} {l:List Oper} {L R:List Chunk} (C:World->Prop) (row:List (Nat × Bool)) (sp:List (Nat × Alc)) (tail:Ord) (nt:Nat) (hm:P.follows .mixedOrders=true)
    (hB:(Region.noSelect l.toArray&&Nat.beq (row.length+sp.length+nt) l.length&&canonA .any l.toArray (sp.map fun x=>x.1) tail nt (row.length+sp.length) row (Array.replicate l.length false))=true)
    (hok:okDst n l=true) (hal:∀ x∈sp,∃ ty pos af,l[x.1]?=some ⟨some x.2.1,.alloc x.2.2.1,ty,pos,af,none⟩/\∃ z,(P.info? x.2.2.1).map (·.zero)=some (some z)/\z.cells=x.2.2.2.toArray) (hnd:(sp.map fun x=>x.2.1).Nodup) (hnd1:(sp.map fun x=>x.1).Nodup)
    (H:St w0 w L R) (h:SLA P l C w0 R (sp.map fun x=>x.2.1) (fun σ L=>FinA (sp.map fun x=>x.2) [] σ fun acc σ=>∀ w,St w0 w (L++acc) R->SLT P l C Q tail σ w) row σ L):WR r P n (.region id l.toArray true) Q σ w:=by
  intro ds a ha
  simp only [Bool.and_eq_true] at hB
  obtain ⟨⟨hs,hl⟩,hB⟩:=hB
  have hl':=Nat.eq_of_beq_eq_true hl
  refine wpIn_region_any hm (wpAny_of_C (C:=C) (Q:=fun a' w'=>∃ σ',Fr ds n σ' a'/\Q .normal σ' w') (fun _ _ h=>h) _ _ _ _ ?_)
  have hself:mixE (sp.map fun x=>x.2.1) σ σ=σ:=by
    funext t
    unfold mixE
    cases (sp.map fun x=>x.2.1).contains t <;> rfl
  have:=wpAnyC_A (P:=P) (md:=.any) (Q:=Q) (C:=C) (ds:=ds) (n:=n) l (okDst_spec hok) hs w0 R sp tail nt hal hnd hnd1 (row.length+sp.length) row (Array.replicate l.length false) a w.drew σ σ L [] [] (fun _=>0) (by simp) List.nodup_nil (by simp) List.Perm.nil (by simp) (by rw [hself]; exact ha) (by rw [List.append_nil]; exact H.ext (.drew w)) hB h
  rw [hl'] at this
  simpa using this
section
variable {P:Program} {all:List Oper} {C:World->Prop} {w0:World} {R:List Chunk} {ds:List Nat} {Fin:Env->List Chunk->Prop} {r:List (Nat × Bool)} {σ:Env} {L:List Chunk}
theorem sa_nil (h1:∀ Lx w,St w0 w (L++Lx) R->C w) (h:Fin σ L):SLA P all C w0 R ds Fin [] σ L:=⟨h1,h⟩
theorem sa_q {k d:Nat} {op:Op} {ty:TypeId} {pos:String} {af:Array Edge} {v:Value} (h1:∀ Lx w,St w0 w (L++Lx) R->C w) (ho:all[k]?=some ⟨some d,op,ty,pos,af,none⟩) (hd:ds.contains d=false)
    (h:∀ g w',C w'->(execOp (ev (mixE ds g σ)) ⟨some d,op,ty,pos,af,none⟩).run P w' = .ok (.value v) w') (hk:SLA P all C w0 R ds Fin r (upd σ d v) L):SLA P all C w0 R ds Fin ((k,true) :: r) σ L :=
  ⟨h1,_,d,v,ho,rfl,rfl,hd,h,hk⟩
theorem sa_l {k:Nat} {o:Oper} (h1:∀ Lx w,St w0 w (L++Lx) R->C w) (ho:all[k]?=some o) (h:∀ g Lx w,St w0 w (L++Lx) R->SL P all (loudQ C fun σ' w'=>∃ σ'' L',σ'=mixE ds g σ''/\St w0 w' (L'++Lx) R/\SLA P all C w0 R ds Fin r σ'' L') [o] (mixE ds g σ) w) :
    SLA P all C w0 R ds Fin ((k,false) :: r) σ L:=⟨h1,o,ho,h⟩
end
end Go.Nm
namespace Go.Nm
open Go
section
variable {md:Region.Mode} {ops:Array Oper}
end
end Go.Nm
namespace Go.Nm
open Go
section
variable {P:Program} {ops:Array Oper} {md:Region.Mode} {C:World->Prop} {z:Nat}
end
section
variable {P:Program} {all:List Oper} {C:World->Prop} {z:Nat} {Q:Post} {r:List Nat} {σ:Env} {w:World}
end
end Go.Nm
namespace Go.Nm
open Go
section
variable {P:Program} {ops:Array Oper} {md:Region.Mode} {C:World->Prop} {z:Nat}
end
section
variable {P:Program} {all:List Oper} {C:World->Prop} {z:Nat} {Q:Post} {r r2:Ord} {σ:Env} {w:World}
end
end Go.Nm
namespace Go.Nm
open Go
/-- As Q; a jump to the label: K. -/
def jumpQ (l:Nat) (K:Env->World->Prop) (Q:Post):Post
  | .goto l',σ,w=>l'=l/\K σ w
  | e,σ,w=>Q e σ w
section
variable {P:Program} {n:Nat} {Q:Post} {σ:Env} {w:World}
theorem W.goto {r:Option Nat} {l:Nat} (h:Q (.goto l) σ w):WR r P n (.goto l) Q σ w:=fun _ _ ha=>wpIn_goto ⟨σ,ha,h⟩
theorem W.jump {c rest:Code} (l:Nat) (hf:findLabel c l=some rest) (I:Nat->Env->World->Prop) (first:W P n c (jumpQ l (fun σ w=>∃ m,I m σ w) Q) σ w)
    (pass:∀ m σ w,I m σ w->W P n rest (jumpQ l (fun σ' w'=>∃ m',m'<m/\I m' σ' w') Q) σ w):W P n (.scope c) Q σ w:=by
  intro ds a ha
  classical
  let J:Act->World->Prop:=fun a w=>∃ m σ,Fr ds n σ a/\I m σ w
  have hmin:∀ a w,J a w->∃ m,(∃ σ,Fr ds n σ a/\I m σ w)/\∀ m',(∃ σ,Fr ds n σ a/\I m' σ w)->m<=m':=by
    rintro a w ⟨m,σ,h1,h2⟩
    have key:∀ k m,m<=k->(∃ σ,Fr ds n σ a/\I m σ w)->∃ m,(∃ σ,Fr ds n σ a/\I m σ w)/\∀ m',(∃ σ,Fr ds n σ a/\I m' σ w)->m<=m':=by
      intro k
      induction k with
      | zero=>intro m hm h; exact ⟨m,h,fun m' _=>by omega⟩
      | succ k ih =>
        intro m hm h
        by_cases hx:∃ m',m'<m/\∃ σ,Fr ds n σ a/\I m' σ w
        · obtain ⟨m',hlt,h'⟩:=hx
          exact ih m' (by omega) h'
        · exact ⟨m,h,fun m' h'=>Nat.le_of_not_lt fun hlt=>hx ⟨m',hlt,h'⟩⟩
    exact key m m (Nat.le_refl _) ⟨σ,h1,h2⟩
  let μ:Act->World->Nat:=fun a w=>if h:J a w then (hmin a w h).choose else 0
  refine (wpIn_wide (n:=0)).2 (wp_scope_jumps l J μ hf ?_ ?_)
  · refine wp_mono ((wpIn_wide (n:=0)).1 (first ds a ha)) ?_
    rintro e a' w' ⟨s,hs,h'⟩
    cases e with
    | goto l'=>exact ⟨h'.1,h'.2.choose,s,hs,h'.2.choose_spec⟩
    | _=>exact ⟨s,hs,h'⟩
  · intro a w hJ
    obtain ⟨σ,hσ,hI⟩:=(hmin a w hJ).choose_spec.1
    refine wp_mono ((wpIn_wide (n:=0)).1 (pass _ σ w hI ds a hσ)) ?_
    rintro e a' w' ⟨s,hs,h'⟩
    cases e with
    | goto l' =>
      obtain ⟨rfl,m',hlt,hI'⟩:=h'
      have hJ':J a' w':=⟨m',s,hs,hI'⟩
      refine ⟨rfl,hJ',?_⟩
      have h1:=(hmin a' w' hJ').choose_spec.2 m' ⟨s,hs,hI'⟩
      have e1:μ a' w'=(hmin a' w' hJ').choose:=dif_pos hJ'
      have e2:μ a w=(hmin a w hJ).choose:=dif_pos hJ
      rw [e1,e2]
      omega
    | _=>exact ⟨s,hs,h'⟩
/-- What is asked where a jump leads: some way to tell the passes. -/
def JG (P:Program) (n l:Nat) (R:Code) (Q:Post) (σ:Env) (w:World):Prop :=
  ∃ I:Nat->Env->World->Prop,∃ m,I m σ w/\∀ m σ w,I m σ w->W P n R (jumpQ l (fun σ' w'=>∃ m',m'<m/\I m' σ' w') Q) σ w
theorem jumpQ_mono {l:Nat} {K K':Env->World->Prop} (h:∀ σ w,K σ w->K' σ w):∀ e σ w,jumpQ l K Q e σ w->jumpQ l K' Q e σ w:=fun e σ w hh=>by
  cases e with
  | goto l'=>exact ⟨hh.1,h _ _ hh.2⟩
  | _=>exact hh
theorem W.jumpS {c R:Code} (l:Nat) (hf:findLabel c l=some R) (first:W P n c (jumpQ l (JG P n l R Q) Q) σ w):W P n (.scope c) Q σ w :=
  W.jump l hf (fun m σ w=>∃ I:Nat->Env->World->Prop,I m σ w/\∀ m σ w,I m σ w->W P n R (jumpQ l (fun σ' w'=>∃ m',m'<m/\I m' σ' w') Q) σ w)
    (W.mono first (jumpQ_mono fun _ _ ⟨I,m,h,p⟩=>⟨m,I,h,p⟩))
    fun m σ w ⟨I,h,p⟩=>W.mono (p m σ w h) (jumpQ_mono fun _ _ ⟨m',hlt,h'⟩=>⟨m',hlt,I,h',p⟩)
theorem W.jumpL {R:Code} {l:Nat} (I:Nat->Env->World->Prop) (h0:∃ m,I m σ w) (pass:∀ m σ w,I m σ w->W P n R (jumpQ l (fun σ' w'=>∃ m',m'<m/\I m' σ' w') Q) σ w) :
    W P n (.seq (.label l) R) (jumpQ l (JG P n l (.seq .skip R) Q) Q) σ w:=by
  obtain ⟨m,h⟩:=h0
  exact W.seq (W.label (W.mono (pass m σ w h) (jumpQ_mono fun _ _ ⟨m',_,h'⟩=>⟨I,m',h',fun m σ w hh=>W.seq (W.skip (pass m σ w hh))⟩)))
end
end Go.Nm
namespace Go.Nm
open Go
def noGotoD (Q:PostD):PostD
  | .goto _,_,_,_=>False
  | e,Ds,σ,w=>Q e Ds σ w
theorem WD.scope {P:Program} {n:Nat} {Q:PostD} {σ:Env} {w:World} {Ds:List Nat} {c:Code} (h:WD P n Ds c (noGotoD Q) σ w):WD P n Ds (.scope c) Q σ w:=by
  intro a ha
  refine (wpIn_wide (n:=0)).2 (wp_scope_straight (wp_mono ((wpIn_wide (n:=0)).1 (h a ha)) ?_))
  rintro e a' w' ⟨d,s,hs,h'⟩
  cases e with
  | goto l=>exact h'.elim
  | _=>exact ⟨d,s,hs,h'⟩
section
variable {P:Program} {w:World} {σ:Env} {d:Nat} {ty:TypeId} {pos:String} {af:Array Edge} {g:Option (Nat × Bool)}
/-! ### Values of any type, and what type they are of -/
theorem x_mi {t:TypeId} {x:Operand} {v:Value} {D:TypeDesc} (hu:P.underlying t=some D) (hn:∀ m,D ≠ .interface m) (hx:ev σ x=v) :
    (execOp (ev σ) ⟨some d,.makeInterface t x,ty,pos,af,g⟩).run P w = .ok (.value (.iface t v)) w:=by
  cases D <;> first | exact absurd rfl (hn _) | simp [execOp,Instr.makeInterface,run_underlying hu,hx]
theorem x_ushr1 {t yt:TypeId} {x y:Operand} {a:Int} (hx:ev σ x = .int .u64 a) (hy:ev σ y = .int .u64 1) :
    (execOp (ev σ) ⟨some d,.binOp .shr t x y yt,ty,pos,af,g⟩).run P w = .ok (.value (.int .u64 (a / 2))) w:=by
  have e:a.fdiv 2=a / 2:=Int.fdiv_eq_ediv_of_nonneg _ (by decide)
  simp only [execOp,hx,hy,eqGuard,binOp,Op.shift]
  simp
  exact e
end
end Go.Nm
namespace Go.Nm
open Go
section
variable {P:Program} {w:World} {σ:Env} {d:Nat} {ty:TypeId} {pos:String} {af:Array Edge} {g:Option (Nat × Bool)}
end
end Go.Nm
namespace Go.Nm
open Go
section
variable {P:Program} {w:World}
end
/-- A row of truths that lies in a block, read on only. -/
theorem St.freezeB {w0 w:World} {L R:List Chunk} (H:St w0 w L R) {k b:Nat} {l:List Bool} {t:TypeId} {n:Nat} (hk:L[k]?=some (cBlk b (encB l) t)) (hn:l.length=n) (hm:n<=9223372036854775807) :
    ∃ B,St w0 w (L.set k (cRo B)) R/\∀ j:Int,0<=j->j<=n->Sl B.cells (.slice (some ⟨b,0,none⟩) j.toNat n) (l.take j.toNat):=by
  subst hn
  refine ⟨⟨w,fun i=>i=b⟩,H.set (c':=cRo ⟨w,fun i=>i=b⟩) hk rfl (.refl w) (fun _ _ _=>rfl) (fun i hi=>.inl hi.1) ⟨Nat.le_refl _,fun _ _ _=>rfl⟩ rfl,fun j h0 h1=>?_⟩
  have hb:w.heap[b]?=some (.cells (encB l).toArray t (0,0)):=H.get hk
  refine ⟨⟨some ⟨b,0,none⟩,l.length,by rw [List.length_take,Nat.min_eq_left (by omega)],by rw [List.length_take]; omega,hm,fun k x hx=>⟨b,0,[.bool x],rfl,rfl,fun i y hy=>?_⟩⟩⟩
  obtain ⟨rfl,rfl⟩:i=0/\y = .bool x:=by
    cases i with
    | zero=>simp at hy; exact ⟨rfl,hy.symm⟩
    | succ i=>simp at hy
  have hx':l[k]?=some x:=by
    rw [List.getElem?_take] at hx
    split at hx
    · exact hx
    · cases hx
  have hs:(Elt.sz Bool)=1:=rfl
  unfold Base.cells
  rw [if_pos rfl]
  show w.cell? ⟨b,0+k*Elt.sz Bool+0,none⟩=_
  rw [hs]
  simp [World.cell?,hb,encB,hx']
theorem run_sliceB {P:Program} {t e:TypeId} {n k:Nat} {w:World} {b:Nat} {j:Int} (hu:P.underlying t=some (.array n e)) (hz:(P.info? e).map (·.size)=some k) (h0:0<=j) (h1:j<=n) :
    (Instr.sliceAt t (.pointer (some ⟨b,0,none⟩)) none (some (I j)) none).run P w = .ok (.slice (some ⟨b,0,none⟩) j.toNat n) w:=by
  simp [Instr.sliceAt,Instr.sureAddr,Instr.sliceBounds,Instr.sliceBound,asIntOf,run_underlying hu,run_sizeOf hz,h0,h1,Addr.add]
end Go.Nm
namespace Go.Nm
open Go
/-! ### Numbers in order -/
def insI (x:Int):List Int->List Int
  | []=>[x]
  | y :: l=>bif decide (x<=y) then x :: y :: l else y :: insI x l
def isort (l:List Int):List Int:=l.foldr insI []
theorem insI_perm (x:Int):∀ l:List Int,(insI x l).Perm (x :: l)
  | []=>.refl _
  | y :: l=>by
    unfold insI
    cases decide (x<=y) with
    | true=>exact .refl _
    | false=>exact ((insI_perm x l).cons y).trans (.swap x y l)
theorem isort_perm:∀ l:List Int,(isort l).Perm l
  | []=>.refl _
  | x :: l=>(insI_perm x _).trans ((isort_perm l).cons x)
theorem insI_asc (x:Int):∀ l:List Int,l.Pairwise (·<=·)->(insI x l).Pairwise (·<=·)
  | [],_=>by simp [insI]
  | y :: l,h=>by
    rw [List.pairwise_cons] at h
    unfold insI
    cases hc:decide (x<=y) with
    | true =>
      have hc:=of_decide_eq_true hc
      show (x :: y :: l).Pairwise _
      rw [List.pairwise_cons,List.pairwise_cons]
      refine ⟨fun z hz=>?_,h⟩
      rcases List.mem_cons.1 hz with rfl | hz
      · exact hc
      · exact Int.le_trans hc (h.1 z hz)
    | false =>
      have hc:=of_decide_eq_false hc
      show (y :: insI x l).Pairwise _
      rw [List.pairwise_cons]
      refine ⟨fun z hz=>?_,insI_asc x l h.2⟩
      rcases List.mem_cons.1 ((insI_perm x l).mem_iff.1 hz) with rfl | hz
      · omega
      · exact h.1 z hz
theorem isort_asc:∀ l:List Int,(isort l).Pairwise (·<=·)
  | []=>.nil
  | x :: l=>insI_asc x _ (isort_asc l)
theorem asc_uniq:∀ {l m:List Int},l.Pairwise (·<=·)->m.Pairwise (·<=·)->l.Perm m->l=m
  | [],m,_,_,p=>(List.nil_perm.1 p).symm
  | x :: l,[],_,_,p=>by have:=p.length_eq; simp at this
  | x :: l,y :: m,h,k,p=>by
    rw [List.pairwise_cons] at h k
    have h1:x<=y:=by
      rcases List.mem_cons.1 (p.mem_iff.2 (List.mem_cons_self (a:=y) (l:=m))) with e | e
      · omega
      · exact h.1 y e
    have h2:y<=x:=by
      rcases List.mem_cons.1 (p.mem_iff.1 (List.mem_cons_self (a:=x) (l:=l))) with e | e
      · omega
      · exact k.1 x e
    obtain rfl:x=y:=by omega
    rw [asc_uniq h.2 k.2 (List.perm_cons x |>.1 p)]
theorem merge_isort {ss ks:List Int} (p:ss.Perm ks):ss.mergeSort (fun x y=>decide (x<=y))=isort ks:=by
  refine asc_uniq ?_ (isort_asc ks) (((List.mergeSort_perm ss _).trans p).trans (isort_perm ks).symm)
  have:=List.pairwise_mergeSort (le:=fun x y:Int=>decide (x<=y)) (fun a b c h1 h2=>by simp only [decide_eq_true_eq] at *; omega) (fun a b=>by simp only [Bool.or_eq_true,decide_eq_true_eq]; omega) ss
  exact this.imp fun h=>of_decide_eq_true h
/-! ### Maps, told entry by entry -/
def MapL {κ ν:Type} (kenc:κ->Value) (venc:ν->Value) (es:Array MapEntry) (clk:Nat) (m:List (κ × ν)):Prop :=
  es.toList.map (fun e=>(e.key,e.val))=m.map (fun p=>(kenc p.1,venc p.2))/\(es.toList.map (·.born)).Nodup/\∀ e∈es.toList,e.born<clk
section
variable {P:Program} {w w0:World} {L L' R:List Chunk} {t kt et:TypeId} {b:Nat} {es:Array MapEntry} {clk:Nat} {ks:List Int}
variable {all rest:List Oper} {Q:Post} {σ:Env} {d:Nat} {ty:TypeId} {pos:String} {af:Array Edge} {g:Option (Nat × Bool)}
end
end Go.Nm
namespace Go.Nm
open Go
/-! ### What is reckoned entry by entry -/
namespace M
variable {κ ν:Type}
def mapL (body:κ->ν->M ν):List (κ × ν)->M (List (κ × ν))
  | []=>pure []
  | p :: m=>bind (body p.1 p.2) fun v=>bind (mapL body m) fun m'=>pure ((p.1,v) :: m')
theorem mapL_at {body:κ->ν->M ν}:∀ {m m':List (κ × ν)},(mapL body m).Ends m'->m'.length=m.length/\∀ (i:Nat) (k:κ) (v:ν),m[i]?=some (k,v)->∃ v',(body k v).Ends v'/\m'[i]?=some (k,v')
  | [],m',h=>by
    obtain rfl:=e_pure h
    exact ⟨rfl,fun i k v h=>by simp at h⟩
  | p :: m,m',h=>by
    obtain ⟨v1,h1,h⟩:=e_bind h
    obtain ⟨m1,h2,h⟩:=e_bind h
    obtain rfl:=e_pure h
    obtain ⟨l,ih⟩:=mapL_at h2
    refine ⟨by simp [l],fun i k v hi=>?_⟩
    cases i with
    | zero =>
      simp only [List.getElem?_cons_zero,Option.some.injEq] at hi
      subst hi
      exact ⟨v1,h1,rfl⟩
    | succ i=>exact ih i k v (by simpa using hi)
end M
/-! ### In memory -/
section
variable {κ ν:Type} [DecidableEq κ] {kenc:κ->Value} {venc:ν->Value}
def cMl (kenc:κ->Value) (venc:ν->Value) (b:Nat) (m:List (κ × ν)):Chunk where
  D k:=k=b
  ex:=true
  ok w:=∃ es n,w.heap[b]?=some (.map es n)/\MapL kenc venc es n m/\(m.map Prod.fst).Nodup
  st w w':=fun ⟨es,n,h1,h2⟩ _ k=>⟨es,n,(k b rfl).trans h1,h2⟩
  bd w k:=fun ⟨_,_,h,_⟩ e=>by rw [e]; exact heap_lt h
variable {P:Program} {w w0:World} {L L' R:List Chunk} {t kt et:TypeId} {b r:Nat} {es:Array MapEntry} {clk:Nat} {m:List (κ × ν)}
variable {all rest:List Oper} {Q:Post} {σ:Env} {d:Nat} {ty:TypeId} {pos:String} {af:Array Edge} {g:Option (Nat × Bool)}
omit [DecidableEq κ] in theorem t_mkMl {t':TypeId} (kenc:κ->Value) (venc:ν->Value) (H:St w0 w L R) (k:∀ b w',St w0 w' (cMl kenc venc b [] :: L) R->SL P all Q rest (upd σ d (.map (some b))) w'):SL P all Q (⟨some d,.makeMap t' none,ty,pos,af,none⟩ :: rest) σ w :=
  s_mkmap fun b w' hn=>k b w' (H.push (c:=cMl kenc venc b []) hn.ext ⟨_,_,hn.same,⟨rfl,List.nodup_nil,fun e h=>by simp at h⟩,List.nodup_nil⟩ (fun j hj=>by rw [show j=b from hj]; exact hn.ge))
end
/-- How far a loop over a map has come: what is left is as it was, what was met is as it will be. -/
def ItR {κ ν:Type} (m m' m1:List (κ × ν)) (left:List Bool):Prop:=m1.length=m.length/\m'.length=m.length/\left.length=m.length/\∀ i,i<m.length->m1[i]?=if left.getD i false then m[i]? else m'[i]?
namespace ItR
variable {κ ν:Type} {m m' m1:List (κ × ν)} {left:List Bool} {body:κ->ν->M ν}
theorem fin (h:ItR m m' m1 left) (hl:∀ j:Nat,left.getD j false=false):m1=m':=by
  apply List.ext_getElem?
  intro i
  by_cases hi:i<m.length
  · rw [h.2.2.2 i hi,hl i]; rfl
  · rw [List.getElem?_eq_none (by have:=h.1; omega),List.getElem?_eq_none (by have:=h.2.1; omega)]
theorem lt (h:ItR m m' m1 left) {j:Nat} (hj:left.getD j false=true):j<m.length:=by
  rw [← h.2.2.1]
  refine Nat.lt_of_not_le fun hn=>?_
  rw [List.getD_eq_getElem?_getD,List.getElem?_eq_none hn] at hj
  cases hj
theorem at_ (h:ItR m m' m1 left) (hb:(M.mapL body m).Ends m') {j:Nat} {k:κ} {v:ν} (hj:left.getD j false=true) (hm:m1[j]?=some (k,v)):∃ v',(body k v).Ends v'/\m'[j]?=some (k,v'):=by
  have:=h.2.2.2 j (h.lt hj)
  rw [hj,hm] at this
  exact (M.mapL_at hb).2 j k v (by simpa using this.symm)
theorem step (h:ItR m m' m1 left) {j:Nat} {k:κ} {v v':ν} (hj:left.getD j false=true) (hm:m1[j]?=some (k,v)) (hv:m'[j]?=some (k,v')):ItR m m' (m1.set j (k,v')) (left.set j false):=by
  have hjl:=h.lt hj
  have hl:=h.2.2.1
  have h1:=h.1
  refine ⟨by rw [List.length_set]; exact h.1,h.2.1,by rw [List.length_set]; exact h.2.2.1,fun i hi=>?_⟩
  by_cases e:j=i
  · subst e
    rw [List.getElem?_set_self (by omega),List.getD_eq_getElem?_getD,List.getElem?_set_self (by omega),hv]
    rfl
  · rw [List.getElem?_set_ne e,List.getD_eq_getElem?_getD,List.getElem?_set_ne e,← List.getD_eq_getElem?_getD]
    exact h.2.2.2 i hi
theorem keep (h:ItR m m' m1 left) {j:Nat} {k:κ} {v:ν} (hj:left.getD j false=true) (hm:m1[j]?=some (k,v)) (hv:m'[j]?=some (k,v)):ItR m m' m1 (left.set j false):=by
  have:=h.step hj hm hv
  rwa [show m1.set j (k,v)=m1 from by
    obtain ⟨hl,e⟩:=List.getElem?_eq_some_iff.1 hm
    rw [← e,List.set_getElem_self]] at this
theorem less {j:Nat} (hj:left.getD j false=true):(left.set j false).count true<left.count true:=by
  have hl:j<left.length:=Nat.lt_of_not_le fun hn=>by
    rw [List.getD_eq_getElem?_getD,List.getElem?_eq_none hn] at hj
    cases hj
  have hg:left[j]=true:=by
    rw [List.getD_eq_getElem?_getD,List.getElem?_eq_getElem hl] at hj
    exact hj
  rw [List.count_set hl,hg]
  have:0<left.count true:=List.count_pos_iff.2 (by rw [← hg]; exact List.getElem_mem hl)
  simp
  omega
end ItR
end Go.Nm
namespace Go.Proofs
open Go.RowKit Go.Maps Go.Sort Go.Shelf
def Tryz.sortA_ren:Go.Shelf.Ren:=⟨fun | 5=>54 | 7=>89 | 8=>90 | 10=>117 | 11=>118 | 12=>119 | 13=>120 | 14=>121 | 15=>122 | 16=>100 | 17=>123 | 18=>124 | 19=>125 | 20=>126 | 30=>139 | 31=>140 | 32=>141 | 33=>142 | 34=>143 | 35=>113 | 40=>146 | n=>n,fun | 0=>0 | 3=>3 | 4=>4 | 5=>5 | 9=>9 | 22=>28 | 23=>28 | 25=>3 | 32=>176 | 35=>189 | 36=>190 | 41=>147 | 44=>196 | 46=>198 | 53=>214 | 57=>218 | 63=>222 | 64=>223 | n=>n,fun | n=>n⟩
theorem Tryz.sortA:Go.Proofs.SlLaysM.n5 Tryz.prog Tryz.sortA_ren:={
  mixed:=by kernel_rfl
  f5 := ⟨"slices.Sort[[]int,int]", by kernel_rfl, Tryz.func54.trans (congrArg some (by kernel_rfl))⟩
  f7 := ⟨"slices.pdqsortOrdered[int]", by kernel_rfl, Tryz.func89.trans (congrArg some (by kernel_rfl))⟩
  f8:=Tryz.func90.trans (congrArg some (by kernel_rfl))
  f10 := ⟨"slices.insertionSortOrdered[int]", by kernel_rfl, Tryz.func117.trans (congrArg some (by kernel_rfl))⟩
  f11 := ⟨"slices.heapSortOrdered[int]", by kernel_rfl, Tryz.func118.trans (congrArg some (by kernel_rfl))⟩
  f12 := ⟨"slices.breakPatternsOrdered[int]", by kernel_rfl, Tryz.func119.trans (congrArg some (by kernel_rfl))⟩
  f13 := ⟨"slices.choosePivotOrdered[int]", by kernel_rfl, Tryz.func120.trans (congrArg some (by kernel_rfl))⟩
  f14 := ⟨"slices.reverseRangeOrdered[int]", by kernel_rfl, Tryz.func121.trans (congrArg some (by kernel_rfl))⟩
  f15 := ⟨"slices.partialInsertionSortOrdered[int]", by kernel_rfl, Tryz.func122.trans (congrArg some (by kernel_rfl))⟩
  f16 := ⟨"cmp.Less[int]", by kernel_rfl, Tryz.func100.trans (congrArg some (by kernel_rfl))⟩
  f17 := ⟨"slices.partitionEqualOrdered[int]", by kernel_rfl, Tryz.func123.trans (congrArg some (by kernel_rfl))⟩
  f18 := ⟨"slices.partitionOrdered[int]", by kernel_rfl, Tryz.func124.trans (congrArg some (by kernel_rfl))⟩
  f19:=Tryz.func125.trans (congrArg some (by kernel_rfl))
  f20:=Tryz.func126.trans (congrArg some (by kernel_rfl))
  f30 := ⟨"slices.siftDownOrdered[int]", by kernel_rfl, Tryz.func139.trans (congrArg some (by kernel_rfl))⟩
  f31:=Tryz.func140.trans (congrArg some (by kernel_rfl))
  f32:=Tryz.func141.trans (congrArg some (by kernel_rfl))
  f33 := ⟨"slices.medianAdjacentOrdered[int]", by kernel_rfl, Tryz.func142.trans (congrArg some (by kernel_rfl))⟩
  f34 := ⟨"slices.medianOrdered[int]", by kernel_rfl, Tryz.func143.trans (congrArg some (by kernel_rfl))⟩
  f35 := ⟨"cmp.isNaN[int]", by kernel_rfl, Tryz.func113.trans (congrArg some (by kernel_rfl))⟩
  f40 := ⟨"slices.order2Ordered[int]", by kernel_rfl, Tryz.func146.trans (congrArg some (by kernel_rfl))⟩
  t0:=Tryz.underlying0
  a0:=Tryz.isAgg0
  z0:=Tryz.sizeOf0
  v0:=Tryz.zeroValue0
  t3:=Tryz.underlying3
  a3:=Tryz.isAgg3
  z3:=Tryz.sizeOf3
  v3:=Tryz.zeroValue3
  t4:=Tryz.underlying4
  a4:=Tryz.isAgg4
  z4:=Tryz.sizeOf4
  v4:=Tryz.zeroValue4
  t5:=Tryz.underlying5
  a5:=Tryz.isAgg5
  z5:=Tryz.sizeOf5
  v5:=Tryz.zeroValue5
  t9:=Tryz.underlying9
  a9:=Tryz.isAgg9
  z9:=Tryz.sizeOf9
  v9:=Tryz.zeroValue9
  t22:=Tryz.underlying28
  a22:=Tryz.isAgg28
  z22:=Tryz.sizeOf28
  v22:=Tryz.zeroValue28
  t23:=Tryz.underlying28
  a23:=Tryz.isAgg28
  z23:=Tryz.sizeOf28
  v23:=Tryz.zeroValue28
  t25:=Tryz.underlying3
  a25:=Tryz.isAgg3
  z25:=Tryz.sizeOf3
  v25:=Tryz.zeroValue3
  t32:=Tryz.underlying176
  a32:=Tryz.isAgg176
  z32:=Tryz.sizeOf176
  v32:=Tryz.zeroValue176
  t35:=Tryz.underlying189
  a35:=Tryz.isAgg189
  z35:=Tryz.sizeOf189
  v35:=Tryz.zeroValue189
  t36:=Tryz.underlying190
  a36:=Tryz.isAgg190
  z36:=Tryz.sizeOf190
  v36:=Tryz.zeroValue190
  t41:=Tryz.underlying147
  a41:=Tryz.isAgg147
  z41:=Tryz.sizeOf147
  v41:=Tryz.zeroValue147
  t44:=Tryz.underlying196
  a44:=Tryz.isAgg196
  z44:=Tryz.sizeOf196
  v44:=Tryz.zeroValue196
  t46:=Tryz.underlying198
  a46:=Tryz.isAgg198
  z46:=Tryz.sizeOf198
  v46:=Tryz.zeroValue198
  t53:=Tryz.underlying214
  a53:=Tryz.isAgg214
  z53:=Tryz.sizeOf214
  v53:=Tryz.zeroValue214
  t57:=Tryz.underlying218
  a57:=Tryz.isAgg218
  z57:=Tryz.sizeOf218
  v57:=Tryz.zeroValue218
  t63:=Tryz.underlying222
  a63:=Tryz.isAgg222
  z63:=Tryz.sizeOf222
  v63:=Tryz.zeroValue222
  t64:=Tryz.underlying223
  a64:=Tryz.isAgg223
  z64:=Tryz.sizeOf223
  v64:=Tryz.zeroValue223 }
end Go.Proofs
namespace Go.Nm
open Go
theorem OwnF.row {B:Nat} {e:TypeId} {w:World} {l:List Int} {g cap:Nat} {cur:Array Value} (ho:OwnF B e w (.slice (some ⟨g,0,none⟩) l.length cap) l) (hg:w.heap[g]?=some (.cells cur e (0,0)))
    (hcs:l.length<=cap) (hsz:cur.size=cap) (hb:B<=g) (hm:cap<=maxLen) (d:Array Int) (hl:d.size=l.length) (q:Nat) :
    OwnF B e (Sort.putRow (Value.int .i64) (Sort.ahead w q) g 0 d) (.slice (some ⟨g,0,none⟩) l.length cap) d.toList/\Grow B (.slice (some ⟨g,0,none⟩) l.length cap) w (Sort.putRow (Value.int .i64) (Sort.ahead w q) g 0 d):=by
  have hs1:Elt.sz Int=1:=rfl
  have h1:(Sort.putRow (Value.int .i64) (Sort.ahead w q) g 0 d).heap[g]?=some (.cells (Sort.putCells (Value.int .i64) 0 d cur) e (0,0)):=by
    show (w.heap.modify g _)[g]?=_
    rw [Array.getElem?_modify,if_pos rfl,hg]
    rfl
  have h2:∀ k,k ≠ g->(Sort.putRow (Value.int .i64) (Sort.ahead w q) g 0 d).heap[k]?=w.heap[k]?:=by
    intro k hk
    show (w.heap.modify g _)[k]?=_
    rw [Array.getElem?_modify,if_neg (fun h=>hk h.symm)]
  refine ⟨⟨by rw [enc_ints]; simp [hs1],.inr ⟨g,cap,_,by simp [hl],hb,h1,by simp [hl]; omega,hm,by simp [hs1,Sort.putCells]; omega,?_⟩⟩,⟨rfl,rfl,by simp [Sort.putRow,Sort.mapBlock,Sort.ahead],fun k _ hk=>?_,fun g' hg'=>(ho.lt g' hg').1,fun a=>by simp⟩⟩
  · rw [enc_ints,hs1]
    apply List.ext_getElem?
    intro i
    rw [List.getElem?_take,List.getElem?_map]
    by_cases hi:i<d.toList.length*1
    · rw [if_pos hi]
      have hi':i<d.size:=by simpa using hi
      have hc:i<cur.size:=by omega
      simp [Sort.putCells,hi',hc]
    · rw [if_neg hi,List.getElem?_eq_none (by simpa using hi)]
      rfl
  · refine h2 k (fun e'=>hk ?_)
    rw [e']
    rfl
end Go.Nm
namespace Go.Proofs.YtnncijcapdnlgaaGreat
open Go Go.Nm Go.Proofs
theorem sort_any {w:World} {v:Value} {l:List Int} (ho:OwnF 0 3 w v l) (hl:l.length<=1000000):Ret Tryz.prog 54 #[v] w fun u w'=>u = .tuple #[]/\OwnF 0 3 w' v (isort l)/\Keep w w'/\∀ b,b<w.heap.size->v.ownBlock ≠ some b->w'.heap[b]?=w.heap[b]?:=by
  have ho':=ho
  rcases ho.2 with ⟨rfl,hn⟩ | ⟨g,cap,cur,rfl,hb,hg,hc,hm,hcs,htake⟩
  · obtain rfl:=List.length_eq_zero_iff.1 hn
    have h:=AnyM.slices_Sort_int_none Tryz.sortA none 0 w
    refine Calls.mono h ?_
    rintro _ w' ⟨rfl,rfl⟩
    exact ⟨_,rfl,rfl,ho,Keep.refl _,fun _ _ _=>rfl⟩
  · have hs1:Elt.sz Int=1:=rfl
    rw [hs1] at hcs htake
    rw [enc_ints] at htake
    have hcell:∀ j,j<l.length->w.cell? ⟨g,0+j,none⟩=some (.int .i64 (l.getD j 0)):=by
      intro j hj
      rw [Nat.zero_add,cell_of_row w g j cur 3 (0,0) hg]
      have h1:(cur.toList.take (l.length*1))[j]?=(l.map I)[j]?:=by rw [htake]
      rw [List.getElem?_take,if_pos (by omega),List.getElem?_map,getD_some l hj 0] at h1
      simpa using h1
    have hH:Sort.Holds (Value.int .i64) w g 0 l.toArray:=by
      intro j hj
      have hj:j<l.length:=by simpa using hj
      refine ⟨?_,by simp [World.frozen?,hg]⟩
      rw [hcell j hj]
      have:l.getD j 0=l.toArray[j]!:=by
        rw [List.getD_eq_getElem?_getD,List.getElem?_eq_getElem hj]
        simp [getElem!_pos,hj]
      rw [this]
    have h:=AnyM.slices_Sort_int Tryz.sortA g 0 cap l w hH (heap_lt hg) (by omega)
    refine Calls.mono h ?_
    rintro _ w' ⟨rfl,q,os,rfl⟩
    rw [merge_isort (List.Perm.refl l)]
    have hlen:(isort l).length=l.length:=(isort_perm l).length_eq
    obtain ⟨h1,h2⟩:=OwnF.row ho hg hc (by omega) hb hm (isort l).toArray (by simp [hlen]) q
    have hlt:g<(Sort.putRow (Value.int .i64) (Sort.ahead w q) g 0 (isort l).toArray).heap.size:=Nat.lt_of_lt_of_le (heap_lt hg) h2.size
    refine ⟨_,rfl,rfl,?_,⟨h2.os,h2.out,by rw [Sort.size_grow]; exact Nat.le_trans h2.size (Nat.le_add_right _ _)⟩,fun b hb' hne=>?_⟩
    · rcases h1 with ⟨h3,h4 | ⟨g',cap',cur',h5,h6,h7,h8⟩⟩
      · exact absurd h4.1 (by simp)
      · simp only [Value.slice.injEq,Option.some.injEq,Addr.mk.injEq,and_true] at h5
        obtain ⟨rfl,_,rfl⟩:=h5
        refine ⟨h3,.inr ⟨g,cap,cur',by simp [hlen],h6,by rw [Sort.heap_grow_old _ _ hlt]; exact h7,h8⟩⟩
    · rw [Sort.heap_grow_old _ _ (Nat.lt_of_lt_of_le hb' h2.size)]
      exact h2.blk b hb' hne
end Go.Proofs.YtnncijcapdnlgaaGreat
namespace Go.Nm
open Go
theorem St.sorted {w0 w w':World} {L L' R:List Chunk} {k:Nat} {v:Value} {l l':List Int} {e:TypeId} (H:St w0 w L R) (hk:L[k]?=some (cOwn (α:=Int) e v l)) (ho:OwnF 0 e w' v l') (kp:Keep w w') (hs:∀ b,b<w.heap.size->v.ownBlock ≠ some b->w'.heap[b]?=w.heap[b]?)
    (hl:L.set k (cOwn (α:=Int) e v l')=L'):St w0 w' L' R :=
  H.set (c':=cOwn (α:=Int) e v l') hk rfl kp hs (fun b hb=>.inl hb) ho hl
end Go.Nm
namespace Go.Nm
open Go
end Go.Nm
namespace Go.Nm
open Go
universe u
abbrev Pq (b:Nat):Value:=.pointer (some ⟨b,0,none⟩)
abbrev Oq (b o:Nat):Value:=.pointer (some ⟨b,o,none⟩)
class NthR {α:Type u} (l:List α) (i:Nat) (x:outParam α):Prop where
  is:l[i]?=some x
instance {α:Type u} {l:List α} {x:α}:NthR (x :: l) 0 x:=⟨rfl⟩
instance {α:Type u} {l:List α} {x y:α} {i:Nat} [h:NthR l i x]:NthR (y :: l) (i+1) x:=⟨h.is⟩
instance (priority:=high) {α:Type u} {l:List α} {x a b c d:α} {i:Nat} [h:NthR l i x]:NthR (a :: b :: c :: d :: l) (i+4) x:=⟨h.is⟩
class PickR {α:Type u} (l:List α) (i:List Nat) (o:outParam (List α)):Prop where
  is:i.mapM (fun j=>l[j]?)=some o
instance {α:Type u} {l:List α}:PickR l [] []:=⟨rfl⟩
instance {α:Type u} {l o:List α} {i:Nat} {is:List Nat} {x:α} [h:NthR l i x] [k:PickR l is o]:PickR l (i :: is) (x :: o):=⟨by rw [List.mapM_cons,h.is,k.is]; rfl⟩
class AppR {α:Type u} (a b:List α) (o:outParam (List α)):Prop where
  is:a++b=o
instance {α:Type u} {b:List α}:AppR [] b b:=⟨rfl⟩
instance {α:Type u} {x:α} {a b o:List α} [h:AppR a b o]:AppR (x :: a) b (x :: o):=⟨by rw [List.cons_append,h.is]⟩
class LenR {α:Type u} (l:List α) (n:Nat):Prop where
  is:l.length=n
instance {α:Type u}:LenR ([]:List α) 0:=⟨rfl⟩
instance {α:Type u} {l:List α} {x:α} {n:Nat} [h:LenR l n]:LenR (x :: l) (n+1):=⟨by rw [List.length_cons,h.is]⟩
class EndR {α:Type u} (n:Nat) (l:List α) (a b:outParam (List α)):Prop where
  is:a++b=l
instance (priority:=low) {α:Type u} {x:α} {n:Nat} {l a b:List α} [h:EndR n l a b]:EndR n (x :: l) (x :: a) b:=⟨by rw [List.cons_append,h.is]⟩
instance {α:Type u} {n:Nat} {l:List α} [LenR l n]:EndR n l [] l:=⟨rfl⟩
class SetR {α:Type u} (l:List α) (k:Nat) (x:α) (o:outParam (List α)):Prop where
  is:l.set k x=o
instance {α:Type u} {l:List α} {x y:α}:SetR (y :: l) 0 x (x :: l):=⟨rfl⟩
instance {α:Type u} {l o:List α} {x y:α} {k:Nat} [h:SetR l k x o]:SetR (y :: l) (k+1) x (y :: o):=⟨by rw [List.set_cons_succ,h.is]⟩
class NfR {α:Type u} (l:List α) (o:outParam (List α)):Prop where
  is:l=o
instance {α:Type u}:NfR ([]:List α) []:=⟨rfl⟩
instance {α:Type u} {x:α} {l o:List α} [h:NfR l o]:NfR (x :: l) (x :: o):=⟨by rw [← h.is]⟩
instance {α:Type u} {l o p:List α} {k:Nat} {x:α} [h:NfR l o] [s:SetR o k x p]:NfR (l.set k x) p:=⟨by rw [h.is,s.is]⟩
instance {α:Type u} {a b a' b' o:List α} [h:NfR a a'] [h':NfR b b'] [s:AppR a' b' o]:NfR (a++b) o:=⟨by rw [h.is,h'.is,s.is]⟩
instance {α:Type u} {x:α} {l o:List α} [h:NfR l o]:NfR ((x :: l).eraseIdx 0) o:=⟨by rw [← h.is]; rfl⟩
instance {α:Type u} {x:α} {l o:List α} {k:Nat} [h:NfR (l.eraseIdx k) o]:NfR ((x :: l).eraseIdx (k+1)) (x :: o):=⟨by rw [List.eraseIdx_cons_succ,h.is]⟩
class OverR {α:Type u} (cs:List α) (off:Nat) (vs:List α) (o:outParam (List α)):Prop where
  is:cs.take off++vs++cs.drop (off+vs.length)=o
instance {α:Type u} {cs:List α}:OverR cs 0 [] cs:=⟨by simp⟩
instance {α:Type u} {c v:α} {cs vs o:List α} [h:OverR cs 0 vs o]:OverR (c :: cs) 0 (v :: vs) (v :: o):=⟨by
  have:=h.is
  simp only [List.take_zero,List.nil_append,Nat.zero_add] at this ⊢
  simp [this]⟩
instance {α:Type u} {c:α} {cs vs o:List α} {n:Nat} [h:OverR cs n vs o]:OverR (c :: cs) (n+1) vs (c :: o):=⟨by
  have:=h.is
  rw [List.take_succ_cons,show n+1+vs.length=n+vs.length+1 by omega,List.drop_succ_cons,List.cons_append,List.cons_append,this]⟩
section
variable {w0 w w':World} {L L' L1 R A T:List Chunk}
theorem St.os {α:Type} [Flat α] {e:TypeId} {v:Value} {l:List α} (h:St w0 w L R) (k:Nat) [n:NthR L k (cOwn e v l)]:Sl (rowC v (l.flatMap Flat.enc)) v l:=ownSl (h.get n.is)
theorem St.ol {α:Type} [Flat α] {e:TypeId} {v:Value} {l:List α} (h:St w0 w L R) (k:Nat) [n:NthR L k (cOwn e v l)]:(rowC v (l.flatMap Flat.enc)).Le w.cell?:=ownLe w (h.get n.is)
theorem rdo {α:Type} [Flat α] {e:TypeId} {v:Value} {l:List α} (k:Nat) [n:NthR L k (cOwn e v l)]:Reads (L++R) (rowC v (l.flatMap Flat.enc)):=Reads.of n.is ownLe
theorem St.bl {b:Nat} {cs:List Value} {t:TypeId} (h:St w0 w L R) (k:Nat) [n:NthR L k (cBlk b cs t)]:w.heap[b]?=some (.cells cs.toArray t (0,0)):=h.blk n.is
theorem St.nf (h:St w0 w L R) [n:NfR L L']:St w0 w L' R:=by
  have:=n.is
  subst this
  exact h
theorem St.pk (h:St w0 w L R) (i:List Nat) [n:NfR L L1] [p:PickR L1 i L'] (hn:i.Nodup:=by decide):St w0 w L' R:=h.nf.pick i hn p.is
theorem St.bk (h:St w0 w L R) (h':St w w' A (T++R)) [a:NfR (A++T) L']:St w0 w' L' R:=h.back h' a.is
theorem St.gt (h:St w0 w L R) (k:Nat) [n:NfR L L1] [s:EndR k L1 A T]:St w w A (T++R):=h.nf.give s.is
end
section
variable {P:Program} {all rest:List Oper} {Q:Post} {σ:Env} {w0 w:World} {L L' R:List Chunk} {ty:TypeId} {pos:String} {af:Array Edge}
theorem zM {d:Nat} {x:Operand} (v:Value) (h:ev σ x=v) (k:SL P all Q rest (upd σ d v) w):SL P all Q (⟨some d,.move x,ty,pos,af,none⟩ :: rest) σ w:=s_val (x_mv h) k
theorem zA {d:Nat} {x:Operand} (v:Value) (h:ev σ x=v) (k:SL P all Q rest (upd σ d v) w):SL P all Q (⟨some d,.assign x,ty,pos,af,none⟩ :: rest) σ w:=s_val (x_as h) k
theorem t_sw {dst:Option Nat} {t:TypeId} {x y:Operand} {b n:Nat} {cs cs':List Value} {et:TypeId} (k off:Nat) (vs:List Value) (v:Value) (H:St w0 w L R) [hk:NthR L k (cBlk b cs et)] [hc:OverR cs off vs cs'] [hL:SetR L k (cBlk b cs' et) L'] (hx:ev σ x = .pointer (some ⟨b,off,none⟩)) (hy:ev σ y=v)
    (hs:(P.info? t).map (·.size)=some n) (hv:v.cells=vs.toArray) (hn:vs.length=n) (hl:Nat.ble (off+n) cs.length=true) (h1:vs.all (·.oneCell')=true)
    (kk:∀ w',St w0 w' L' R->SL P all Q rest (updo σ dst undef) w'):SL P all Q (⟨dst,.store t x y,ty,pos,af,none⟩ :: rest) σ w :=
  t_st H hk.is hx hy hs hv hn hl h1 (by rw [← hn]; exact hc.is) hL.is kk
end
/-- What a test says, as a proposition. -/
class DcB (b c:Bool) (p:outParam Prop):Prop where
  to:b=c->p
instance (priority:=low) {b c:Bool}:DcB b c (b=c):=⟨fun h=>h⟩
instance {p:Prop} [Decidable p]:DcB (decide p) true p:=⟨of_decide_eq_true⟩
instance {p:Prop} [Decidable p]:DcB (decide p) false (¬p):=⟨of_decide_eq_false⟩
instance {α:Type _} [BEq α] [LawfulBEq α] {a b:α}:DcB (a==b) true (a=b):=⟨beq_iff_eq.1⟩
instance {α:Type _} [BEq α] [LawfulBEq α] {a b:α}:DcB (a==b) false (a ≠ b):=⟨beq_eq_false_iff_ne.1⟩
instance {α:Type _} [BEq α] [LawfulBEq α] {a b:α}:DcB (a != b) true (a ≠ b):=⟨bne_iff_ne.1⟩
instance {α:Type _} [BEq α] [LawfulBEq α] {a b:α}:DcB (a != b) false (a=b):=⟨bne_eq_false_iff_eq.1⟩
theorem dI {b c:Bool} {p:Prop} [h:DcB b c p] (x:b=c):p:=h.to x
section
variable {P:Program} {all rest:List Oper} {Q:Post} {σ:Env} {w0 w:World} {L L' R:List Chunk} {ty:TypeId} {pos:String} {af:Array Edge}
theorem t_bx {d:Nat} {e:TypeId} {x:Operand} (cs:List Value) (H:St w0 w L R) (hx:ev σ x = .agg cs.toArray)
    (k:∀ b w',St w0 w' (cBlk b cs e :: L) R->SL P all Q rest (upd σ d (.pointer (some ⟨b,0,none⟩))) w'):SL P all Q (⟨some d,.box e x,ty,pos,af,none⟩ :: rest) σ w:=t_box H hx rfl k
theorem t_b1 {d:Nat} {e:TypeId} {x:Operand} (v:Value) (H:St w0 w L R) (hx:ev σ x=v) (hv:v.cells=[v].toArray)
    (k:∀ b w',St w0 w' (cBlk b [v] e :: L) R->SL P all Q rest (upd σ d (.pointer (some ⟨b,0,none⟩))) w'):SL P all Q (⟨some d,.box e x,ty,pos,af,none⟩ :: rest) σ w:=t_box H hx hv k
end
end Go.Nm
namespace Go.Nm
open Go
universe u
/-- What a test says, as a proposition. -/
class DcQ (b c:Bool) (p:outParam Prop):Prop where
  to:b=c->p
instance (priority:=low) {b c:Bool}:DcQ b c (b=c):=⟨fun h=>h⟩
instance {p:Prop} [Decidable p]:DcQ (decide p) true p:=⟨of_decide_eq_true⟩
instance {p:Prop} [Decidable p]:DcQ (decide p) false (¬p):=⟨of_decide_eq_false⟩
instance {α:Type _} [BEq α] [LawfulBEq α] {a b:α}:DcQ (a==b) true (a=b):=⟨beq_iff_eq.1⟩
instance {α:Type _} [BEq α] [LawfulBEq α] {a b:α}:DcQ (a==b) false (a ≠ b):=⟨beq_eq_false_iff_ne.1⟩
instance {α:Type _} [BEq α] [LawfulBEq α] {a b:α}:DcQ (a != b) true (a ≠ b):=⟨bne_iff_ne.1⟩
instance {α:Type _} [BEq α] [LawfulBEq α] {a b:α}:DcQ (a != b) false (a=b):=⟨bne_eq_false_iff_eq.1⟩
/-- What a guard says, as a proposition. -/
class DeQ (b:Bool) (p:outParam Prop):Prop where
  iff:b=true↔p
instance (priority:=low) {b:Bool}:DeQ b (b=true):=⟨Iff.rfl⟩
instance {p:Prop} [Decidable p]:DeQ (decide p) p:=⟨decide_eq_true_iff⟩
instance {a b:Bool} {p q:Prop} [ha:DeQ a p] [hb:DeQ b q]:DeQ (a&&b) (p/\q):=⟨by rw [Bool.and_eq_true,ha.iff,hb.iff]⟩
/-! ### Facts on types, found by their numbers -/
class FdC (P:Program) (s k:Nat) (off ft:outParam Nat):Prop where
  h:(P.underlying s).bind (fun d=>match d with | .struct fs=>(fs[k]?).map (fun f=>(f.offset,f.type)) | _=>none)=some (off,ft)
class ScC (P:Program) (t:Nat):Prop where
  h:isSc (P.underlying t)=true
class AgC (P:Program) (t:Nat):Prop where
  h:isAg (P.underlying t)=true
class SzC (P:Program) (t:Nat) (n:outParam Nat):Prop where
  h:(P.info? t).map (·.size)=some n
class TlC (P:Program) (t:Nat) (e sz by':outParam Nat) (z:outParam Value):Prop where
  h:SlT P t e sz by' z
class AlC (P:Program) (t:Nat) (z:outParam Value):Prop where
  h:(P.info? t).map (·.zero)=some (some z)
class BdC (P:Program) (t:Nat) (pl:outParam (List (Nat × Nat))):Prop where
  h:∃ fs:Array Field,P.underlying t=some (.struct fs)/\fs.toList.mapM (fun f=>(P.info? f.type).map fun i=>(f.offset,i.size))=some pl
class CfC (P:Program) (f:FuncId):Prop where
  h:CF P f
class AddC (a b:Nat) (c:outParam Nat):Prop where
  h:a+b=c
instance (priority:=low) {a b:Nat}:AddC a b (a+b):=⟨rfl⟩
instance {a:Nat}:AddC a 0 a:=⟨rfl⟩
instance {b:Nat}:AddC 0 b b:=⟨Nat.zero_add b⟩
/-- An index as a number. -/
class IxC (i:Int) (n:outParam Nat):Prop where
  h:i.toNat=n
instance (priority:=low) {i:Int}:IxC i i.toNat:=⟨rfl⟩
instance {n:Nat}:IxC (n:Int) n:=⟨rfl⟩
instance:IxC 0 0:=⟨rfl⟩
instance:IxC 1 1:=⟨rfl⟩
instance:IxC 2 2:=⟨rfl⟩
instance:IxC 3 3:=⟨rfl⟩
instance:IxC 4 4:=⟨rfl⟩
instance:IxC 5 5:=⟨rfl⟩
instance:IxC 6 6:=⟨rfl⟩
instance:IxC 7 7:=⟨rfl⟩
instance:IxC 8 8:=⟨rfl⟩
instance:IxC 9 9:=⟨rfl⟩
/-- What is read beyond a list's end. -/
class DfC (α:Type) (d:outParam α):Prop where
  h:True
instance (priority:=low) {α:Type} [Inhabited α]:DfC α default:=⟨trivial⟩
instance:DfC Int 0:=⟨trivial⟩
instance:DfC Bool false:=⟨trivial⟩
/-- The cells of a thing, written out. -/
class EncL {α:Type} [Flat α] (x:α) (ds:outParam (List Value)):Prop where
  h:Flat.enc x=ds
/-- Some of a list's entries. -/
class SubR {α:Type u} (l:List α) (k n:Nat) (o:outParam (List α)):Prop where
  h:(l.drop k).take n=o
instance {α:Type u} {l:List α}:SubR l 0 0 []:=⟨rfl⟩
instance {α:Type u} {l o:List α} {x:α} {n:Nat} [h:SubR l 0 n o]:SubR (x :: l) 0 (n+1) (x :: o):=⟨by have:=h.h; simp at this; simp [this]⟩
instance {α:Type u} {l o:List α} {x:α} {k n:Nat} [h:SubR l k n o]:SubR (x :: l) (k+1) n o:=⟨by rw [List.drop_succ_cons]; exact h.h⟩
/-- A block among the parts. -/
class BlkR (L:List Chunk) (b:Nat) (cs:outParam (List Value)) (t:outParam TypeId):Prop where
  h:∃ k:Nat,L[k]?=some (cBlk b cs t)
instance {c:Chunk} {L:List Chunk} {b:Nat} {cs:List Value} {t:TypeId} [h:BlkR L b cs t]:BlkR (c :: L) b cs t:=⟨by obtain ⟨k,h⟩:=h.h; exact ⟨k+1,by simpa using h⟩⟩
instance {L:List Chunk} {b:Nat} {cs:List Value} {t:TypeId}:BlkR (cBlk b cs t :: L) b cs t:=⟨⟨0,rfl⟩⟩
/-- A block among the parts that is changed. -/
class BlkW (L:List Chunk) (b:Nat) (cs:List Value) (cs':List Value) (t:TypeId) (o:outParam (List Chunk)):Prop where
  h:∃ k:Nat,L[k]?=some (cBlk b cs t)/\L.set k (cBlk b cs' t)=o
instance {c:Chunk} {L o:List Chunk} {b:Nat} {cs cs':List Value} {t:TypeId} [h:BlkW L b cs cs' t o]:BlkW (c :: L) b cs cs' t (c :: o):=⟨by obtain ⟨k,h1,h2⟩:=h.h; exact ⟨k+1,by simpa using h1,by rw [List.set_cons_succ,h2]⟩⟩
instance {L:List Chunk} {b:Nat} {cs cs':List Value} {t:TypeId}:BlkW (cBlk b cs t :: L) b cs cs' t (cBlk b cs' t :: L):=⟨⟨0,rfl,rfl⟩⟩
/-- A field of an element. -/
class FldC (α:Type) [Elt α] (k:Nat) (e:outParam α) (f:outParam (α->Value)):Prop where
  h:∀ {C:Cells} {v:Value} {l:List α} {n:Nat},Sl C v l->n<l.length->At C (fat (vat v (Elt.sz α) n) k) [f (l.getD n e)]
section
variable {w0 w:World} {L R:List Chunk}
theorem St.bq {b:Nat} {cs:List Value} {t:TypeId} (H:St w0 w L R) [h:BlkR L b cs t]:w.heap[b]?=some (.cells cs.toArray t (0,0)):=by
  obtain ⟨k,hk⟩:=h.h
  exact H.get hk
end
section
variable {P:Program} {w:World} {σ:Env} {d:Nat} {ty:TypeId} {pos:String} {af:Array Edge} {g:Option (Nat × Bool)}
theorem pos_succ {m:Nat} (h:Nat.blt 0 m=true):∃ n,m=n+1:=by
  cases m with
  | zero=>cases h
  | succ n=>exact ⟨n,rfl⟩
theorem y_fab {s k off ft m b o c:Nat} {x:Operand} (hx:ev σ x = .pointer (some ⟨b,o,none⟩)) [f:FdC P s k off ft] [z:SzC P ft m] (a:AddC o off c) (hm:Nat.blt 0 m=true) :
    (execOp (ev σ) ⟨some d,.fieldAddr s x k,ty,pos,af,g⟩).run P w = .ok (.value (.pointer (some ⟨b,c,none⟩))) w:=by
  obtain ⟨n,rfl⟩:=pos_succ hm
  have:=fa_blk (w:=w) (b:=b) (o:=o) f.h z.h
  rw [a.h] at this
  exact x_fa hx this
theorem y_fap {s k off ft m:Nat} {x:Operand} {p:Value} (hx:ev σ x=p) [f:FdC P s k off ft] [z:SzC P ft m] (hm:Nat.blt 0 m=true) (hp:∃ b o,p = .pointer (some ⟨b,o,none⟩)) :
    (execOp (ev σ) ⟨some d,.fieldAddr s x k,ty,pos,af,g⟩).run P w = .ok (.value (fat p off)) w:=by
  obtain ⟨n,rfl⟩:=pos_succ hm
  exact x_fa hx (fa_pl f.h z.h hp)
theorem y_fav {α:Type} {_:Elt α} {s k off ft m sz n:Nat} {x:Operand} {C:Cells} {v:Value} {l:List α} (hx:ev σ x=vat v sz n) [f:FdC P s k off ft] [z:SzC P ft m] (hm:Nat.blt 0 m=true) (hs:Sl C v l) (hz:Elt.sz α=sz) (h1:n<l.length) :
    (execOp (ev σ) ⟨some d,.fieldAddr s x k,ty,pos,af,g⟩).run P w = .ok (.value (fat (vat v sz n) off)) w:=by
  subst hz
  have:=Sl.pl hs (i:=(n:Int)) (by omega) (by omega)
  exact y_fap hx hm (by simpa using this)
theorem y_faw {α:Type} {_:Elt α} {s k off ft m sz n a c:Nat} {x:Operand} {C:Cells} {v:Value} {l:List α} (hx:ev σ x=fat (vat v sz n) a) [f:FdC P s k off ft] [z:SzC P ft m] (ad:AddC a off c) (hm:Nat.blt 0 m=true) (hs:Sl C v l) (hz:Elt.sz α=sz) (h1:n<l.length) :
    (execOp (ev σ) ⟨some d,.fieldAddr s x k,ty,pos,af,g⟩).run P w = .ok (.value (fat (vat v sz n) c)) w:=by
  subst hz
  obtain ⟨b,o,hp⟩:=Sl.pl hs (i:=(n:Int)) (by omega) (by omega)
  have e:vat v (Elt.sz α) n = .pointer (some ⟨b,o,none⟩):=by simpa using hp
  have:=y_fap (P:=P) (w:=w) (d:=d) (ty:=ty) (pos:=pos) (af:=af) (g:=g) hx (f:=f) (z:=z) hm ⟨b,o+a,by rw [e]; simp [fat,add_lit]⟩
  rw [this,e,← ad.h]
  simp [fat,add_lit,Nat.add_assoc]
theorem y_ldb {t:TypeId} {b off:Nat} {cs:List Value} {et:TypeId} {fr:Nat × Nat} {x:Operand} {v:Value} (hx:ev σ x = .pointer (some ⟨b,off,none⟩)) [s:ScC P t] (h:w.heap[b]?=some (.cells cs.toArray et fr)) (hv:(cs.drop off).take 1=[v]) :
    (execOp (ev σ) ⟨some d,.load t x,ty,pos,af,g⟩).run P w = .ok (.value v) w:=x_ld hx (ldb_sc s.h h hv)
theorem y_lda {t:TypeId} {b off n:Nat} {cs ds:List Value} {et:TypeId} {fr:Nat × Nat} {x:Operand} (hx:ev σ x = .pointer (some ⟨b,off,none⟩)) [s:AgC P t] [z:SzC P t n] (h:w.heap[b]?=some (.cells cs.toArray et fr)) (q:SubR cs off n ds) (hn:ds.length=n) :
    (execOp (ev σ) ⟨some d,.load t x,ty,pos,af,g⟩).run P w = .ok (.value (.agg ds.toArray)) w:=x_ld hx (ldb_ag s.h z.h h q.h hn)
theorem At.flat {α:Type} [Flat α] {C:Cells} {v:Value} {l:List α} (hs:Sl C v l) {n:Nat} (h1:n<l.length) (e:α):At C (vat v (Elt.sz α) n) (Flat.enc (l.getD n e)):=by
  obtain ⟨cs,ha,hr⟩:=hs.atI (i:=(n:Int)) (by omega) (by omega) e
  rw [Flat.rep_iff] at hr
  subst hr
  simpa using ha
theorem y_lds {α:Type} {_:Flat α} {t sz n:Nat} {x:Operand} {C:Cells} {v u:Value} {l:List α} {e:α} (hx:ev σ x=vat v sz n) [s:ScC P t] (hs:Sl C v l) {ds:List Value} (de:DfC α e) (en:EncL (l.getD n e) ds) (hz:Elt.sz α=sz) (hu:ds=[u]) (hle:C.Le w.cell?) (h1:n<l.length) :
    (execOp (ev σ) ⟨some d,.load t x,ty,pos,af,g⟩).run P w = .ok (.value u) w:=by
  subst hz
  have:=(At.flat hs h1 e).mono hle
  rw [en.h,hu] at this
  exact x_ld hx (ld_sc s.h this)
theorem y_ldf {α:Type} {_:Flat α} {t sz n k:Nat} {x:Operand} {C:Cells} {v u:Value} {l:List α} {e:α} (hx:ev σ x=fat (vat v sz n) k) [s:ScC P t] (hs:Sl C v l) {ds:List Value} (de:DfC α e) (en:EncL (l.getD n e) ds) (hz:Elt.sz α=sz) (hu:(ds.drop k).take 1=[u]) (hle:C.Le w.cell?) (h1:n<l.length) :
    (execOp (ev σ) ⟨some d,.load t x,ty,pos,af,g⟩).run P w = .ok (.value u) w:=by
  subst hz
  have:=((At.flat hs h1 e).mono hle).fld k 1
  rw [en.h,hu] at this
  exact x_ld hx (ld_sc s.h this)
theorem y_ldA {α:Type} {_:Flat α} {t sz n:Nat} {x:Operand} {C:Cells} {v:Value} {l:List α} {e:α} (hx:ev σ x=vat v sz n) [s:AgC P t] [z:SzC P t sz] (hs:Sl C v l) {ds:List Value} (de:DfC α e) (en:EncL (l.getD n e) ds) (hz:Elt.sz α=sz) (hle:C.Le w.cell?) (h1:n<l.length) :
    (execOp (ev σ) ⟨some d,.load t x,ty,pos,af,g⟩).run P w = .ok (.value (.agg ds.toArray)) w:=by
  subst hz
  have:=(At.flat hs h1 e).mono hle
  rw [en.h] at this
  refine x_ld hx (ld_ag s.h ?_ this)
  rw [z.h,← en.h,Flat.enc_len]
theorem y_ldg {α:Type} {_:Elt α} {t sz n k:Nat} {x:Operand} {C:Cells} {v:Value} {l:List α} {e:α} {f:α->Value} (hx:ev σ x=fat (vat v sz n) k) [s:ScC P t] (hs:Sl C v l) (fc:FldC α k e f) (hz:Elt.sz α=sz) (hle:C.Le w.cell?) (h1:n<l.length) :
    (execOp (ev σ) ⟨some d,.load t x,ty,pos,af,g⟩).run P w = .ok (.value (f (l.getD n e))) w:=by
  subst hz
  exact x_ld hx (ld_sc s.h ((fc.h hs h1).mono hle))
theorem y_ldp {t:TypeId} {x:Operand} {p v:Value} (hx:ev σ x=p) [s:ScC P t] (ha:At w.cell? p [v]) :
    (execOp (ev σ) ⟨some d,.load t x,ty,pos,af,g⟩).run P w = .ok (.value v) w:=x_ld hx (ld_sc s.h ha)
theorem y_len {α:Type} {_:Elt α} {t e sz by':Nat} {z:Value} {x:Operand} {C:Cells} {v:Value} {l:List α} [T:TlC P t e sz by' z] (h:ev σ x=v) (hs:Sl C v l) :
    (execOp (ev σ) ⟨some d,.call ⟨.builtin .len,#[x],#[t]⟩,ty,pos,af,g⟩).run P w = .ok (.value (.int .i64 l.length)) w:=x_lenS T.h.und h hs
theorem y_ix {α:Type} {_:Elt α} {t e sz by' n:Nat} {z:Value} {x y:Operand} {C:Cells} {v:Value} {l:List α} {kd:IntKind} {i:Int} [T:TlC P t e sz by' z] (hx:ev σ x=v) (hy:ev σ y = .int kd i) (ix:IxC i n) (hs:Sl C v l) (hz:Elt.sz α=sz) (h0:0<=i) (h1:i<l.length) :
    (execOp (ev σ) ⟨some d,.indexAddr t x y,ty,pos,af,g⟩).run P w = .ok (.value (vat v sz n)) w:=by
  subst hz
  have:=Sl.ix (w:=w) (kd:=kd) T.h.und T.h.size hs h0 h1
  rw [ix.h] at this
  exact x_ix hx hy this
end
section
variable {P:Program} {all rest:List Oper} {Q:Post} {σ:Env} {w0 w:World} {L L' R:List Chunk} {ty:TypeId} {pos:String} {af:Array Edge}
end
instance {x:Int}:EncL x [I x]:=⟨rfl⟩
instance {x:Bool}:EncL x [B x]:=⟨rfl⟩
/-- A slice that reads as a list. -/
theorem jS {A:Prop} (h:A:=by first | assumption | exact H.os 0 | exact H.os 1 | exact H.os 2 | exact H.os 3 | exact H.os 4 | exact H.os 5 | exact H.os 6 | exact H.os 7 | exact H.os 8 | exact H.os 9 | exact (by assumption:_=true->Sl _ _ _) hg):A:=h
/-- Cells that can be read. -/
theorem jL {A:Prop} (h:A:=by first | exact Reads.at (by assumption) H | exact H.ol 0 | exact H.ol 1 | exact H.ol 2 | exact H.ol 3 | exact H.ol 4 | exact H.ol 5 | exact H.ol 6 | exact H.ol 7 | exact H.ol 8 | exact H.ol 9):A:=h
/-- A bound. -/
theorem jO {A:Prop} (h:A:=by first | omega | (have hx_:=hg; simp at hx_; omega) | (have hx_:=hg; simp at hx_; simp only [hg,Bool.true_eq_false,Bool.false_eq_true,reduceCtorEq,false_or,true_or,Bool.not_true,Bool.not_false] at *; omega) | (simp only [hg,Bool.true_eq_false,Bool.false_eq_true,reduceCtorEq,false_or,true_or,Bool.not_true,Bool.not_false] at *; omega)):A:=h
/-- A guard. -/
theorem jB {A:Prop} (h:A:=by first | exact hb | (rw [hb]; rfl) | simp_all):A:=h
/-- A value under a guard, or none. -/
theorem jG {A:Prop} (h:A:=by first | exact gd_of hg _ | ((conv=>lhs; whnf) <;> rfl)):A:=h
/-- A value. -/
theorem jE {A:Prop} (h:A:=by ((conv=>lhs; whnf) <;> rfl)):A:=h
/-- One operation. -/
theorem jU {A:Prop} (h:A:=by 
    first
      | (apply x_mv; exact jE)
      | (apply x_as; exact jE)
      | (apply y_fab; rfl; exact inferInstance; rfl)
      | (apply y_ldb; rfl; exact H.bq; rfl)
      | (apply x_cmp; rfl; rfl; rfl)
      | (apply y_len; exact jE; exact jS)
      | (apply y_ix; exact jE; rfl; exact inferInstance; exact jS; rfl; exact jO; exact jO)
      | (apply y_fav; rfl; rfl; exact jS; rfl; exact jO)
      | (apply y_faw; rfl; exact inferInstance; rfl; exact jS; rfl; exact jO)
      | (apply y_lds; rfl; exact jS; exact inferInstance; exact inferInstance; rfl; rfl; exact jL; exact jO)
      | (apply y_ldf; rfl; exact jS; exact inferInstance; exact inferInstance; rfl; rfl; exact jL; exact jO)
      | (apply y_ldg; rfl; exact jS; exact inferInstance; rfl; exact jL; exact jO)
      | (apply y_ldA; rfl; exact jS; exact inferInstance; exact inferInstance; rfl; exact jL; exact jO)
      | (apply y_ldp; rfl; exact At.mono (by assumption) jL)
      | (apply x_ari; rfl; rfl; rfl; exact jO)
      | (apply x_ext; rfl; rfl)
      | (apply x_nc; rfl)
      | (apply y_lda; rfl; exact H.bq; exact inferInstance; rfl)
      | (apply y_ldb; rfl; exact (by assumption:Has _ (cBlk _ _ _)).blk H; rfl)
      | (apply x_not; rfl)
      | (apply x_max; rfl; rfl)
      | (apply x_min; rfl; rfl)
      | (apply x_quo; rfl; rfl; exact jO)
      | (apply x_por; rfl; rfl; exact fun hb=>gd_of jB _)
      | (apply x_pand; rfl; exact fun hb=>gd_of jB _; rfl)):A:=h
/-- One operation under a guard. -/
theorem jV {A:Prop} (h:A:=by 
    first
      | (apply x_mv; exact jG)
      | (apply x_as; exact jG)
      | (apply y_fab; exact jG; exact inferInstance; rfl)
      | (apply y_ldb; exact jG; exact H.bq; rfl)
      | (apply x_cmp; exact jG; exact jG; rfl)
      | (apply y_len; exact jG; exact jS)
      | (apply y_ix; exact jG; exact jG; exact inferInstance; exact jS; rfl; exact jO; exact jO)
      | (apply y_fav; exact jG; rfl; exact jS; rfl; exact jO)
      | (apply y_faw; exact jG; exact inferInstance; rfl; exact jS; rfl; exact jO)
      | (apply y_lds; exact jG; exact jS; exact inferInstance; exact inferInstance; rfl; rfl; exact jL; exact jO)
      | (apply y_ldf; exact jG; exact jS; exact inferInstance; exact inferInstance; rfl; rfl; exact jL; exact jO)
      | (apply y_ldg; exact jG; exact jS; exact inferInstance; rfl; exact jL; exact jO)
      | (apply y_ldA; exact jG; exact jS; exact inferInstance; exact inferInstance; rfl; exact jL; exact jO)
      | (apply y_ldp; exact jG; exact At.mono (by assumption) jL)
      | (apply x_ari; exact jG; exact jG; rfl; exact jO)
      | (apply x_ext; exact jG; rfl)
      | (apply x_nc; exact jG)
      | (apply y_lda; exact jG; exact H.bq; exact inferInstance; rfl)
      | (apply y_ldb; exact jG; exact (by assumption:Has _ (cBlk _ _ _)).blk H; rfl)
      | (apply x_not; exact jG)
      | (apply x_max; exact jG; exact jG)
      | (apply x_min; exact jG; exact jG)
      | (apply x_quo; exact jG; exact jG; exact jO)
      | (apply x_por; exact jG; exact jG; exact fun hb=>gd_of jB _)
      | (apply x_pand; exact jG; exact fun hb=>gd_of jB _; exact jG)):A:=h
/-- What is left. -/
structure Left (B:Prop):Prop where
  h:B
/-- How many steps are left. -/
structure Cnt (n:Nat):Prop where
  h:n=n
theorem Cnt.dn {n:Nat} (c:Cnt (n+1)):Cnt n:=⟨rfl⟩
/-- So many plain steps. -/
theorem kg {A B:Prop} (n:Nat) (q:B) (f:Cnt n->Left B->A:=by
    intro cnt q
    (repeat (replace cnt:=Cnt.dn cnt; first
      | (apply s_val; exact jU)
      | refine s_nil ?_
      | refine W.seq ?_
      | refine W.region rfl ?_
      | refine W.skip ?_
      | refine W.block ?_
      | (apply d_q; rfl; (intro w' H; exact jU))
      | (apply t_q; rfl; (intro w' H; exact jU))
      | (apply g_val; (first | exact gy_t rfl | exact gy_f rfl | exact gy_gt rfl rfl | exact gy_gf rfl rfl); (intro hg; exact jV))
      | (apply d_qg; rfl; (first | exact gy_t rfl | exact gy_f rfl | exact gy_gt rfl rfl | exact gy_gf rfl rfl); (intro hg w' H; exact jV))
      | (apply t_qg; rfl; (first | exact gy_t rfl | exact gy_f rfl | exact gy_gt rfl rfl | exact gy_gf rfl rfl); (intro hg w' H; exact jV))
      | refine t_nil ?_
      | refine d_nil ?_))
    exact q.h):A:=f ⟨rfl⟩ ⟨q⟩
/-- Returns. -/
theorem rt {A:Prop} (h:A:=by
    refine W.ret ⟨_,(by first | exact resE_tmp rfl | exact resE_tmp2 rfl | exact resE_tmp3 rfl | exact resE_tmp4 rfl),?_⟩
    first
      | exact ⟨_,M.e_pure hM,rfl,H⟩
      | exact ⟨_,M.e_pure hM,rfl,H.pk []⟩
      | exact ⟨_,_,M.e_pure hM,rfl,H⟩
      | exact ⟨_,_,M.e_pure hM,rfl,H.pk []⟩
      | exact ⟨_,_,_,M.e_pure hM,rfl,H⟩
      | exact ⟨_,_,_,M.e_pure hM,rfl,H.pk []⟩
      | exact ⟨_,_,_,_,M.e_pure hM,rfl,H⟩
      | exact ⟨_,_,_,_,M.e_pure hM,rfl,H.pk []⟩
      | exact ⟨_,_,_,_,_,M.e_pure hM,rfl,H⟩
      | exact ⟨_,_,_,_,_,M.e_pure hM,rfl,H.pk []⟩
      | exact ⟨_,_,_,_,_,_,M.e_pure hM,rfl,H⟩
      | exact ⟨_,_,_,_,_,_,M.e_pure hM,rfl,H.pk []⟩
      | exact ⟨_,_,_,_,_,_,_,M.e_pure hM,rfl,H⟩
      | exact ⟨_,_,_,_,_,_,_,M.e_pure hM,rfl,H.pk []⟩
      | exact ⟨_,_,_,_,_,_,_,_,M.e_pure hM,rfl,H⟩
      | exact ⟨_,_,_,_,_,_,_,_,M.e_pure hM,rfl,H.pk []⟩
      | exact ⟨_,_,_,_,_,_,_,_,_,M.e_pure hM,rfl,H⟩
      | exact ⟨_,_,_,_,_,_,_,_,_,M.e_pure hM,rfl,H.pk []⟩
      | exact ⟨_,_,_,_,_,_,_,_,_,_,M.e_pure hM,rfl,H⟩
      | exact ⟨_,_,_,_,_,_,_,_,_,_,M.e_pure hM,rfl,H.pk []⟩):A:=h
end Go.Nm
namespace Go.Nm
open Go
section
variable {P:Program} {w:World} {σ:Env} {d:Nat} {ty:TypeId} {pos:String} {af:Array Edge} {g:Option (Nat × Bool)}
theorem x_pand0 {c x y:Operand} {b:Bool} (hc:ev σ c = .bool b) (hx:b=true->ev σ x = .bool false) (hy:ev σ y = .bool false) :
    (execOp (ev σ) ⟨some d,.pick c x y,ty,pos,af,g⟩).run P w = .ok (.value (.bool false)) w:=by
  have:=x_pand (P:=P) (w:=w) (d:=d) (ty:=ty) (pos:=pos) (af:=af) (g:=g) hc hx hy
  rwa [Bool.and_false] at this
end
end Go.Nm
namespace Go.Nm
open Go
instance {x:Pk}:EncL x [I x.day,I x.stage]:=⟨rfl⟩
instance {x:Yr}:EncL x [I x.year,I x.lo,I x.hi]:=⟨rfl⟩
instance {x:Span}:EncL x [I x.lo,I x.hi]:=⟨rfl⟩
instance {x:Rto}:EncL x [I x.num,I x.den]:=⟨rfl⟩
instance:FldC Old10 0 default (fun x=>I x.src):=⟨fun hs h1=>by have:=Old10_at0 hs (i:=(_:Nat)) (Int.natCast_nonneg _) (Int.ofNat_lt.2 h1); exact this⟩
instance:FldC Old10 1 default (fun x=>I x.dst):=⟨fun hs h1=>by have:=Old10_at1 hs (i:=(_:Nat)) (Int.natCast_nonneg _) (Int.ofNat_lt.2 h1); exact this⟩
instance:FldC Old10 2 default (fun x=>I x.stage):=⟨fun hs h1=>by have:=Old10_at2 hs (i:=(_:Nat)) (Int.natCast_nonneg _) (Int.ofNat_lt.2 h1); exact this⟩
instance {x:FRow}:EncL x [I x.stage,I x.carry]:=⟨rfl⟩
instance:FldC Sect 0 default (fun x=>I x.place):=⟨fun hs h1=>by have:=Sect_at0 hs (i:=(_:Nat)) (Int.natCast_nonneg _) (Int.ofNat_lt.2 h1); exact this⟩
instance {x:Mrk}:EncL x [I x.place,I x.lo,I x.hi]:=⟨rfl⟩
instance {x:Rch}:EncL x [I x.up,I x.down,I x.lo,I x.hi,B x.narrow]:=⟨rfl⟩
instance {x:Cas}:EncL x [I x.up,I x.down,I x.roughup,I x.roughdown]:=⟨rfl⟩
instance {x:Spot}:EncL x [I x.sec,I x.stage]:=⟨rfl⟩
instance {x:Gg}:EncL x [I x.stage,I x.lo,I x.hi]:=⟨rfl⟩
instance {x:Pt}:EncL x [I x.stage,I x.flow]:=⟨rfl⟩
instance {x:RLn}:EncL x [I x.ast,I x.afl,I x.bst,I x.bfl]:=⟨rfl⟩
end Go.Nm
namespace Go.Proofs.YtnncijcapdnlgaaGreat
open Go Go.Nm
theorem keyIntV {ν:Type}:KeyL (ν:=ν) Tryz.prog 3 I:=KeyL.int Tryz.underlying3
theorem cf4:CF Tryz.prog 4:=⟨_,Tryz.func4,rfl,by decide +kernel⟩
theorem cf5:CF Tryz.prog 5:=⟨_,Tryz.func5,rfl,by decide +kernel⟩
theorem cf6:CF Tryz.prog 6:=⟨_,Tryz.func6,rfl,by decide +kernel⟩
theorem cf7:CF Tryz.prog 7:=⟨_,Tryz.func7,rfl,by decide +kernel⟩
theorem cf8:CF Tryz.prog 8:=⟨_,Tryz.func8,rfl,by decide +kernel⟩
theorem cf9:CF Tryz.prog 9:=⟨_,Tryz.func9,rfl,by decide +kernel⟩
theorem cf10:CF Tryz.prog 10:=⟨_,Tryz.func10,rfl,by decide +kernel⟩
theorem cf11:CF Tryz.prog 11:=⟨_,Tryz.func11,rfl,by decide +kernel⟩
theorem cf12:CF Tryz.prog 12:=⟨_,Tryz.func12,rfl,by decide +kernel⟩
theorem cf13:CF Tryz.prog 13:=⟨_,Tryz.func13,rfl,by decide +kernel⟩
theorem cf14:CF Tryz.prog 14:=⟨_,Tryz.func14,rfl,by decide +kernel⟩
theorem cf15:CF Tryz.prog 15:=⟨_,Tryz.func15,rfl,by decide +kernel⟩
theorem cf16:CF Tryz.prog 16:=⟨_,Tryz.func16,rfl,by decide +kernel⟩
theorem cf17:CF Tryz.prog 17:=⟨_,Tryz.func17,rfl,by decide +kernel⟩
theorem cf18:CF Tryz.prog 18:=⟨_,Tryz.func18,rfl,by decide +kernel⟩
theorem cf19:CF Tryz.prog 19:=⟨_,Tryz.func19,rfl,by decide +kernel⟩
theorem cf20:CF Tryz.prog 20:=⟨_,Tryz.func20,rfl,by decide +kernel⟩
theorem cf21:CF Tryz.prog 21:=⟨_,Tryz.func21,rfl,by decide +kernel⟩
theorem cf22:CF Tryz.prog 22:=⟨_,Tryz.func22,rfl,by decide +kernel⟩
theorem cf23:CF Tryz.prog 23:=⟨_,Tryz.func23,rfl,by decide +kernel⟩
theorem cf24:CF Tryz.prog 24:=⟨_,Tryz.func24,rfl,by decide +kernel⟩
theorem cf25:CF Tryz.prog 25:=⟨_,Tryz.func25,rfl,by decide +kernel⟩
theorem cf26:CF Tryz.prog 26:=⟨_,Tryz.func26,rfl,by decide +kernel⟩
theorem cf27:CF Tryz.prog 27:=⟨_,Tryz.func27,rfl,by decide +kernel⟩
theorem cf28:CF Tryz.prog 28:=⟨_,Tryz.func28,rfl,by decide +kernel⟩
theorem cf29:CF Tryz.prog 29:=⟨_,Tryz.func29,rfl,by decide +kernel⟩
theorem cf30:CF Tryz.prog 30:=⟨_,Tryz.func30,rfl,by decide +kernel⟩
theorem cf31:CF Tryz.prog 31:=⟨_,Tryz.func31,rfl,by decide +kernel⟩
theorem cf32:CF Tryz.prog 32:=⟨_,Tryz.func32,rfl,by decide +kernel⟩
theorem cf33:CF Tryz.prog 33:=⟨_,Tryz.func33,rfl,by decide +kernel⟩
theorem cf34:CF Tryz.prog 34:=⟨_,Tryz.func34,rfl,by decide +kernel⟩
theorem cf35:CF Tryz.prog 35:=⟨_,Tryz.func35,rfl,by decide +kernel⟩
theorem cf36:CF Tryz.prog 36:=⟨_,Tryz.func36,rfl,by decide +kernel⟩
theorem cf37:CF Tryz.prog 37:=⟨_,Tryz.func37,rfl,by decide +kernel⟩
theorem cf38:CF Tryz.prog 38:=⟨_,Tryz.func38,rfl,by decide +kernel⟩
theorem cf39:CF Tryz.prog 39:=⟨_,Tryz.func39,rfl,by decide +kernel⟩
theorem cf40:CF Tryz.prog 40:=⟨_,Tryz.func40,rfl,by decide +kernel⟩
theorem cf41:CF Tryz.prog 41:=⟨_,Tryz.func41,rfl,by decide +kernel⟩
theorem cf42:CF Tryz.prog 42:=⟨_,Tryz.func42,rfl,by decide +kernel⟩
theorem cf43:CF Tryz.prog 43:=⟨_,Tryz.func43,rfl,by decide +kernel⟩
theorem cf44:CF Tryz.prog 44:=⟨_,Tryz.func44,rfl,by decide +kernel⟩
theorem cf45:CF Tryz.prog 45:=⟨_,Tryz.func45,rfl,by decide +kernel⟩
theorem cf46:CF Tryz.prog 46:=⟨_,Tryz.func46,rfl,by decide +kernel⟩
theorem cf47:CF Tryz.prog 47:=⟨_,Tryz.func47,rfl,by decide +kernel⟩
theorem cf48:CF Tryz.prog 48:=⟨_,Tryz.func48,rfl,by decide +kernel⟩
theorem cf49:CF Tryz.prog 49:=⟨_,Tryz.func49,rfl,by decide +kernel⟩
theorem cf50:CF Tryz.prog 50:=⟨_,Tryz.func50,rfl,by decide +kernel⟩
theorem cf51:CF Tryz.prog 51:=⟨_,Tryz.func51,rfl,by decide +kernel⟩
theorem cf52:CF Tryz.prog 52:=⟨_,Tryz.func52,rfl,by decide +kernel⟩
theorem cf53:CF Tryz.prog 53:=⟨_,Tryz.func53,rfl,by decide +kernel⟩
theorem cf54:CF Tryz.prog 54:=⟨_,Tryz.func54,rfl,by decide +kernel⟩
theorem cf55:CF Tryz.prog 55:=⟨_,Tryz.func55,rfl,by decide +kernel⟩
theorem cf56:CF Tryz.prog 56:=⟨_,Tryz.func56,rfl,by decide +kernel⟩
theorem cf57:CF Tryz.prog 57:=⟨_,Tryz.func57,rfl,by decide +kernel⟩
theorem cf58:CF Tryz.prog 58:=⟨_,Tryz.func58,rfl,by decide +kernel⟩
theorem cf59:CF Tryz.prog 59:=⟨_,Tryz.func59,rfl,by decide +kernel⟩
theorem cf60:CF Tryz.prog 60:=⟨_,Tryz.func60,rfl,by decide +kernel⟩
theorem cf61:CF Tryz.prog 61:=⟨_,Tryz.func61,rfl,by decide +kernel⟩
theorem cf62:CF Tryz.prog 62:=⟨_,Tryz.func62,rfl,by decide +kernel⟩
theorem cf63:CF Tryz.prog 63:=⟨_,Tryz.func63,rfl,by decide +kernel⟩
theorem cf64:CF Tryz.prog 64:=⟨_,Tryz.func64,rfl,by decide +kernel⟩
theorem cf65:CF Tryz.prog 65:=⟨_,Tryz.func65,rfl,by decide +kernel⟩
theorem cf66:CF Tryz.prog 66:=⟨_,Tryz.func66,rfl,by decide +kernel⟩
theorem cf67:CF Tryz.prog 67:=⟨_,Tryz.func67,rfl,by decide +kernel⟩
theorem cf68:CF Tryz.prog 68:=⟨_,Tryz.func68,rfl,by decide +kernel⟩
theorem cf69:CF Tryz.prog 69:=⟨_,Tryz.func69,rfl,by decide +kernel⟩
theorem cf70:CF Tryz.prog 70:=⟨_,Tryz.func70,rfl,by decide +kernel⟩
theorem cf71:CF Tryz.prog 71:=⟨_,Tryz.func71,rfl,by decide +kernel⟩
theorem cf72:CF Tryz.prog 72:=⟨_,Tryz.func72,rfl,by decide +kernel⟩
theorem cf73:CF Tryz.prog 73:=⟨_,Tryz.func73,rfl,by decide +kernel⟩
theorem cf74:CF Tryz.prog 74:=⟨_,Tryz.func74,rfl,by decide +kernel⟩
theorem cf75:CF Tryz.prog 75:=⟨_,Tryz.func75,rfl,by decide +kernel⟩
theorem cf76:CF Tryz.prog 76:=⟨_,Tryz.func76,rfl,by decide +kernel⟩
theorem cf77:CF Tryz.prog 77:=⟨_,Tryz.func77,rfl,by decide +kernel⟩
theorem cf78:CF Tryz.prog 78:=⟨_,Tryz.func78,rfl,by decide +kernel⟩
theorem cf79:CF Tryz.prog 79:=⟨_,Tryz.func79,rfl,by decide +kernel⟩
theorem cf80:CF Tryz.prog 80:=⟨_,Tryz.func80,rfl,by decide +kernel⟩
theorem cf81:CF Tryz.prog 81:=⟨_,Tryz.func81,rfl,by decide +kernel⟩
theorem cf82:CF Tryz.prog 82:=⟨_,Tryz.func82,rfl,by decide +kernel⟩
theorem cf83:CF Tryz.prog 83:=⟨_,Tryz.func83,rfl,by decide +kernel⟩
theorem cf84:CF Tryz.prog 84:=⟨_,Tryz.func84,rfl,by decide +kernel⟩
theorem cf85:CF Tryz.prog 85:=⟨_,Tryz.func85,rfl,by decide +kernel⟩
theorem cf86:CF Tryz.prog 86:=⟨_,Tryz.func86,rfl,by decide +kernel⟩
theorem cf87:CF Tryz.prog 87:=⟨_,Tryz.func87,rfl,by decide +kernel⟩
theorem cf88:CF Tryz.prog 88:=⟨_,Tryz.func88,rfl,by decide +kernel⟩
theorem cf91:CF Tryz.prog 91:=⟨_,Tryz.func91,rfl,by decide +kernel⟩
theorem cf92:CF Tryz.prog 92:=⟨_,Tryz.func92,rfl,by decide +kernel⟩
theorem cf93:CF Tryz.prog 93:=⟨_,Tryz.func93,rfl,by decide +kernel⟩
theorem cf94:CF Tryz.prog 94:=⟨_,Tryz.func94,rfl,by decide +kernel⟩
theorem cf95:CF Tryz.prog 95:=⟨_,Tryz.func95,rfl,by decide +kernel⟩
theorem cf96:CF Tryz.prog 96:=⟨_,Tryz.func96,rfl,by decide +kernel⟩
theorem cf97:CF Tryz.prog 97:=⟨_,Tryz.func97,rfl,by decide +kernel⟩
theorem cf98:CF Tryz.prog 98:=⟨_,Tryz.func98,rfl,by decide +kernel⟩
theorem cf99:CF Tryz.prog 99:=⟨_,Tryz.func99,rfl,by decide +kernel⟩
theorem cf100:CF Tryz.prog 100:=⟨_,Tryz.func100,rfl,by decide +kernel⟩
theorem cf101:CF Tryz.prog 101:=⟨_,Tryz.func101,rfl,by decide +kernel⟩
theorem cf102:CF Tryz.prog 102:=⟨_,Tryz.func102,rfl,by decide +kernel⟩
theorem cf103:CF Tryz.prog 103:=⟨_,Tryz.func103,rfl,by decide +kernel⟩
theorem cf104:CF Tryz.prog 104:=⟨_,Tryz.func104,rfl,by decide +kernel⟩
theorem cf105:CF Tryz.prog 105:=⟨_,Tryz.func105,rfl,by decide +kernel⟩
theorem cf106:CF Tryz.prog 106:=⟨_,Tryz.func106,rfl,by decide +kernel⟩
theorem cf107:CF Tryz.prog 107:=⟨_,Tryz.func107,rfl,by decide +kernel⟩
theorem cf108:CF Tryz.prog 108:=⟨_,Tryz.func108,rfl,by decide +kernel⟩
theorem cf109:CF Tryz.prog 109:=⟨_,Tryz.func109,rfl,by decide +kernel⟩
theorem cf110:CF Tryz.prog 110:=⟨_,Tryz.func110,rfl,by decide +kernel⟩
theorem cf111:CF Tryz.prog 111:=⟨_,Tryz.func111,rfl,by decide +kernel⟩
theorem cf112:CF Tryz.prog 112:=⟨_,Tryz.func112,rfl,by decide +kernel⟩
theorem cf113:CF Tryz.prog 113:=⟨_,Tryz.func113,rfl,by decide +kernel⟩
theorem cf114:CF Tryz.prog 114:=⟨_,Tryz.func114,rfl,by decide +kernel⟩
theorem cf115:CF Tryz.prog 115:=⟨_,Tryz.func115,rfl,by decide +kernel⟩
theorem cf116:CF Tryz.prog 116:=⟨_,Tryz.func116,rfl,by decide +kernel⟩
theorem cf127:CF Tryz.prog 127:=⟨_,Tryz.func127,rfl,by decide +kernel⟩
theorem cf128:CF Tryz.prog 128:=⟨_,Tryz.func128,rfl,by decide +kernel⟩
theorem cf129:CF Tryz.prog 129:=⟨_,Tryz.func129,rfl,by decide +kernel⟩
theorem cf130:CF Tryz.prog 130:=⟨_,Tryz.func130,rfl,by decide +kernel⟩
theorem cf131:CF Tryz.prog 131:=⟨_,Tryz.func131,rfl,by decide +kernel⟩
theorem cf132:CF Tryz.prog 132:=⟨_,Tryz.func132,rfl,by decide +kernel⟩
theorem cf133:CF Tryz.prog 133:=⟨_,Tryz.func133,rfl,by decide +kernel⟩
theorem cf134:CF Tryz.prog 134:=⟨_,Tryz.func134,rfl,by decide +kernel⟩
theorem cf135:CF Tryz.prog 135:=⟨_,Tryz.func135,rfl,by decide +kernel⟩
theorem cf136:CF Tryz.prog 136:=⟨_,Tryz.func136,rfl,by decide +kernel⟩
theorem cf137:CF Tryz.prog 137:=⟨_,Tryz.func137,rfl,by decide +kernel⟩
theorem cf138:CF Tryz.prog 138:=⟨_,Tryz.func138,rfl,by decide +kernel⟩
theorem cf144:CF Tryz.prog 144:=⟨_,Tryz.func144,rfl,by decide +kernel⟩
theorem cf145:CF Tryz.prog 145:=⟨_,Tryz.func145,rfl,by decide +kernel⟩
theorem cf147:CF Tryz.prog 147:=⟨_,Tryz.func147,rfl,by decide +kernel⟩
theorem cf163:CF Tryz.prog 163:=⟨_,Tryz.func163,rfl,by decide +kernel⟩
theorem cf164:CF Tryz.prog 164:=⟨_,Tryz.func164,rfl,by decide +kernel⟩
theorem cf165:CF Tryz.prog 165:=⟨_,Tryz.func165,rfl,by decide +kernel⟩
theorem T22:SlT Tryz.prog 22 5 1 1 (.int .u8 0):=⟨Tryz.underlying22,by kernel_rfl,rfl,by decide⟩
theorem T23:SlT Tryz.prog 23 76 2 32 (.agg #[I 0,.slice none 0 0]):=⟨Tryz.underlying23,by kernel_rfl,rfl,by decide⟩
theorem T24:SlT Tryz.prog 24 80 3 24 (.agg #[I 0,I 0,I 0]):=⟨Tryz.underlying24,by kernel_rfl,rfl,by decide⟩
theorem T25:SlT Tryz.prog 25 38 5 40 (.agg #[I 0,I 0,I 0,I 0,B false]):=⟨Tryz.underlying25,by kernel_rfl,rfl,by decide⟩
theorem T28:SlT Tryz.prog 28 3 1 8 (I 0):=⟨Tryz.underlying28,by kernel_rfl,rfl,by decide⟩
theorem T53:SlT Tryz.prog 53 52 4 32 (.agg #[I 0,I 0,I 0,I 0]):=⟨Tryz.underlying53,by kernel_rfl,rfl,by decide⟩
theorem T56:SlT Tryz.prog 56 59 3 24 (.agg #[I 0,I 0,I 0]):=⟨Tryz.underlying56,by kernel_rfl,rfl,by decide⟩
theorem T74:SlT Tryz.prog 74 78 2 16 (.agg #[I 0,I 0]):=⟨Tryz.underlying74,by kernel_rfl,rfl,by decide⟩
theorem T99:SlT Tryz.prog 99 28 1 24 (.slice none 0 0):=⟨Tryz.underlying99,by kernel_rfl,rfl,by decide⟩
theorem T100:SlT Tryz.prog 100 36 2 16 (.agg #[I 0,I 0]):=⟨Tryz.underlying100,by kernel_rfl,rfl,by decide⟩
theorem T139:SlT Tryz.prog 139 4 1 1 (B false):=⟨Tryz.underlying139,by kernel_rfl,rfl,by decide⟩
theorem T177:SlT Tryz.prog 177 59 3 24 (.agg #[I 0,I 0,I 0]):=⟨Tryz.underlying177,by kernel_rfl,rfl,by decide⟩
theorem T208:SlT Tryz.prog 208 50 2 16 (.agg #[I 0,I 0]):=⟨Tryz.underlying208,by kernel_rfl,rfl,by decide⟩
theorem Sc3:isSc (Tryz.prog.underlying 3)=true:=by rw [Tryz.underlying3]; rfl
theorem Sc4:isSc (Tryz.prog.underlying 4)=true:=by rw [Tryz.underlying4]; rfl
theorem Sc5:isSc (Tryz.prog.underlying 5)=true:=by rw [Tryz.underlying5]; rfl
theorem Sc22:isSc (Tryz.prog.underlying 22)=true:=by rw [Tryz.underlying22]; rfl
theorem Sc23:isSc (Tryz.prog.underlying 23)=true:=by rw [Tryz.underlying23]; rfl
theorem Sc24:isSc (Tryz.prog.underlying 24)=true:=by rw [Tryz.underlying24]; rfl
theorem Sc25:isSc (Tryz.prog.underlying 25)=true:=by rw [Tryz.underlying25]; rfl
theorem Sc28:isSc (Tryz.prog.underlying 28)=true:=by rw [Tryz.underlying28]; rfl
theorem Sc39:isSc (Tryz.prog.underlying 39)=true:=by rw [Tryz.underlying39]; rfl
theorem Sc53:isSc (Tryz.prog.underlying 53)=true:=by rw [Tryz.underlying53]; rfl
theorem Sc74:isSc (Tryz.prog.underlying 74)=true:=by rw [Tryz.underlying74]; rfl
theorem Sc83:isSc (Tryz.prog.underlying 83)=true:=by rw [Tryz.underlying83]; rfl
theorem Sc87:isSc (Tryz.prog.underlying 87)=true:=by rw [Tryz.underlying87]; rfl
theorem Sc107:isSc (Tryz.prog.underlying 107)=true:=by rw [Tryz.underlying107]; rfl
theorem Sc115:isSc (Tryz.prog.underlying 115)=true:=by rw [Tryz.underlying115]; rfl
theorem Sc123:isSc (Tryz.prog.underlying 123)=true:=by rw [Tryz.underlying123]; rfl
theorem Sc124:isSc (Tryz.prog.underlying 124)=true:=by rw [Tryz.underlying124]; rfl
theorem Sc140:isSc (Tryz.prog.underlying 140)=true:=by rw [Tryz.underlying140]; rfl
theorem Sc146:isSc (Tryz.prog.underlying 146)=true:=by rw [Tryz.underlying146]; rfl
theorem Sc152:isSc (Tryz.prog.underlying 152)=true:=by rw [Tryz.underlying152]; rfl
theorem Sc158:isSc (Tryz.prog.underlying 158)=true:=by rw [Tryz.underlying158]; rfl
theorem Sc161:isSc (Tryz.prog.underlying 161)=true:=by rw [Tryz.underlying161]; rfl
theorem Sc169:isSc (Tryz.prog.underlying 169)=true:=by rw [Tryz.underlying169]; rfl
theorem Sc177:isSc (Tryz.prog.underlying 177)=true:=by rw [Tryz.underlying177]; rfl
theorem Sc180:isSc (Tryz.prog.underlying 180)=true:=by rw [Tryz.underlying180]; rfl
theorem Sc187:isSc (Tryz.prog.underlying 187)=true:=by rw [Tryz.underlying187]; rfl
theorem Sz3:(Tryz.prog.info? 3).map (·.size)=some 1:=by kernel_rfl
theorem Sz4:(Tryz.prog.info? 4).map (·.size)=some 1:=by kernel_rfl
theorem Sz22:(Tryz.prog.info? 22).map (·.size)=some 1:=by kernel_rfl
theorem Sz23:(Tryz.prog.info? 23).map (·.size)=some 1:=by kernel_rfl
theorem Sz24:(Tryz.prog.info? 24).map (·.size)=some 1:=by kernel_rfl
theorem Sz25:(Tryz.prog.info? 25).map (·.size)=some 1:=by kernel_rfl
theorem Ag27:isAg (Tryz.prog.underlying 27)=true:=by rw [Tryz.underlying27]; rfl
theorem Sz27:(Tryz.prog.info? 27).map (·.size)=some 3:=by kernel_rfl
theorem Sz28:(Tryz.prog.info? 28).map (·.size)=some 1:=by kernel_rfl
theorem Ag30:isAg (Tryz.prog.underlying 30)=true:=by rw [Tryz.underlying30]; rfl
theorem Sz30:(Tryz.prog.info? 30).map (·.size)=some 2:=by kernel_rfl
theorem Ag36:isAg (Tryz.prog.underlying 36)=true:=by rw [Tryz.underlying36]; rfl
theorem Sz36:(Tryz.prog.info? 36).map (·.size)=some 2:=by kernel_rfl
theorem Ag38:isAg (Tryz.prog.underlying 38)=true:=by rw [Tryz.underlying38]; rfl
theorem Sz38:(Tryz.prog.info? 38).map (·.size)=some 5:=by kernel_rfl
theorem Sz39:(Tryz.prog.info? 39).map (·.size)=some 1:=by kernel_rfl
theorem Ag43:isAg (Tryz.prog.underlying 43)=true:=by rw [Tryz.underlying43]; rfl
theorem Sz43:(Tryz.prog.info? 43).map (·.size)=some 4:=by kernel_rfl
theorem Ag50:isAg (Tryz.prog.underlying 50)=true:=by rw [Tryz.underlying50]; rfl
theorem Sz50:(Tryz.prog.info? 50).map (·.size)=some 2:=by kernel_rfl
theorem Ag52:isAg (Tryz.prog.underlying 52)=true:=by rw [Tryz.underlying52]; rfl
theorem Sz52:(Tryz.prog.info? 52).map (·.size)=some 4:=by kernel_rfl
theorem Sz53:(Tryz.prog.info? 53).map (·.size)=some 1:=by kernel_rfl
theorem Ag55:isAg (Tryz.prog.underlying 55)=true:=by rw [Tryz.underlying55]; rfl
theorem Sz55:(Tryz.prog.info? 55).map (·.size)=some 2:=by kernel_rfl
theorem Ag59:isAg (Tryz.prog.underlying 59)=true:=by rw [Tryz.underlying59]; rfl
theorem Sz59:(Tryz.prog.info? 59).map (·.size)=some 3:=by kernel_rfl
theorem Ag61:isAg (Tryz.prog.underlying 61)=true:=by rw [Tryz.underlying61]; rfl
theorem Sz61:(Tryz.prog.info? 61).map (·.size)=some 2:=by kernel_rfl
theorem Ag68:isAg (Tryz.prog.underlying 68)=true:=by rw [Tryz.underlying68]; rfl
theorem Sz68:(Tryz.prog.info? 68).map (·.size)=some 4:=by kernel_rfl
theorem Sz74:(Tryz.prog.info? 74).map (·.size)=some 1:=by kernel_rfl
theorem Ag76:isAg (Tryz.prog.underlying 76)=true:=by rw [Tryz.underlying76]; rfl
theorem Sz76:(Tryz.prog.info? 76).map (·.size)=some 2:=by kernel_rfl
theorem Ag78:isAg (Tryz.prog.underlying 78)=true:=by rw [Tryz.underlying78]; rfl
theorem Sz78:(Tryz.prog.info? 78).map (·.size)=some 2:=by kernel_rfl
theorem Ag80:isAg (Tryz.prog.underlying 80)=true:=by rw [Tryz.underlying80]; rfl
theorem Sz80:(Tryz.prog.info? 80).map (·.size)=some 3:=by kernel_rfl
theorem Sz115:(Tryz.prog.info? 115).map (·.size)=some 1:=by kernel_rfl
theorem Ag120:isAg (Tryz.prog.underlying 120)=true:=by rw [Tryz.underlying120]; rfl
theorem Sz120:(Tryz.prog.info? 120).map (·.size)=some 2:=by kernel_rfl
theorem Sz123:(Tryz.prog.info? 123).map (·.size)=some 1:=by kernel_rfl
theorem Sz124:(Tryz.prog.info? 124).map (·.size)=some 1:=by kernel_rfl
theorem Ag128:isAg (Tryz.prog.underlying 128)=true:=by rw [Tryz.underlying128]; rfl
theorem Sz128:(Tryz.prog.info? 128).map (·.size)=some 1:=by kernel_rfl
theorem Sz152:(Tryz.prog.info? 152).map (·.size)=some 1:=by kernel_rfl
theorem Ag154:isAg (Tryz.prog.underlying 154)=true:=by rw [Tryz.underlying154]; rfl
theorem Sz154:(Tryz.prog.info? 154).map (·.size)=some 1:=by kernel_rfl
theorem Sz169:(Tryz.prog.info? 169).map (·.size)=some 1:=by kernel_rfl
theorem Ag171:isAg (Tryz.prog.underlying 171)=true:=by rw [Tryz.underlying171]; rfl
theorem Sz171:(Tryz.prog.info? 171).map (·.size)=some 16:=by kernel_rfl
theorem Sz177:(Tryz.prog.info? 177).map (·.size)=some 1:=by kernel_rfl
theorem Ag179:isAg (Tryz.prog.underlying 179)=true:=by rw [Tryz.underlying179]; rfl
theorem Sz179:(Tryz.prog.info? 179).map (·.size)=some 2:=by kernel_rfl
theorem Sz180:(Tryz.prog.info? 180).map (·.size)=some 1:=by kernel_rfl
theorem Sz187:(Tryz.prog.info? 187).map (·.size)=some 1:=by kernel_rfl
theorem Fd27_0:(Tryz.prog.underlying 27).bind (fun d=>match d with | .struct fs=>(fs[0]?).map (fun f=>(f.offset,f.type)) | _=>none)=some (0,23):=by rw [Tryz.underlying27]; rfl
theorem Fd27_1:(Tryz.prog.underlying 27).bind (fun d=>match d with | .struct fs=>(fs[1]?).map (fun f=>(f.offset,f.type)) | _=>none)=some (1,24):=by rw [Tryz.underlying27]; rfl
theorem Fd27_2:(Tryz.prog.underlying 27).bind (fun d=>match d with | .struct fs=>(fs[2]?).map (fun f=>(f.offset,f.type)) | _=>none)=some (2,25):=by rw [Tryz.underlying27]; rfl
theorem Fd30_0:(Tryz.prog.underlying 30).bind (fun d=>match d with | .struct fs=>(fs[0]?).map (fun f=>(f.offset,f.type)) | _=>none)=some (0,28):=by rw [Tryz.underlying30]; rfl
theorem Fd30_1:(Tryz.prog.underlying 30).bind (fun d=>match d with | .struct fs=>(fs[1]?).map (fun f=>(f.offset,f.type)) | _=>none)=some (1,28):=by rw [Tryz.underlying30]; rfl
theorem Fd36_0:(Tryz.prog.underlying 36).bind (fun d=>match d with | .struct fs=>(fs[0]?).map (fun f=>(f.offset,f.type)) | _=>none)=some (0,3):=by rw [Tryz.underlying36]; rfl
theorem Fd36_1:(Tryz.prog.underlying 36).bind (fun d=>match d with | .struct fs=>(fs[1]?).map (fun f=>(f.offset,f.type)) | _=>none)=some (1,3):=by rw [Tryz.underlying36]; rfl
theorem Fd38_0:(Tryz.prog.underlying 38).bind (fun d=>match d with | .struct fs=>(fs[0]?).map (fun f=>(f.offset,f.type)) | _=>none)=some (0,3):=by rw [Tryz.underlying38]; rfl
theorem Fd38_1:(Tryz.prog.underlying 38).bind (fun d=>match d with | .struct fs=>(fs[1]?).map (fun f=>(f.offset,f.type)) | _=>none)=some (1,3):=by rw [Tryz.underlying38]; rfl
theorem Fd38_2:(Tryz.prog.underlying 38).bind (fun d=>match d with | .struct fs=>(fs[2]?).map (fun f=>(f.offset,f.type)) | _=>none)=some (2,36):=by rw [Tryz.underlying38]; rfl
theorem Fd38_3:(Tryz.prog.underlying 38).bind (fun d=>match d with | .struct fs=>(fs[3]?).map (fun f=>(f.offset,f.type)) | _=>none)=some (4,4):=by rw [Tryz.underlying38]; rfl
theorem Fd43_0:(Tryz.prog.underlying 43).bind (fun d=>match d with | .struct fs=>(fs[0]?).map (fun f=>(f.offset,f.type)) | _=>none)=some (0,3):=by rw [Tryz.underlying43]; rfl
theorem Fd43_1:(Tryz.prog.underlying 43).bind (fun d=>match d with | .struct fs=>(fs[1]?).map (fun f=>(f.offset,f.type)) | _=>none)=some (1,3):=by rw [Tryz.underlying43]; rfl
theorem Fd43_2:(Tryz.prog.underlying 43).bind (fun d=>match d with | .struct fs=>(fs[2]?).map (fun f=>(f.offset,f.type)) | _=>none)=some (2,3):=by rw [Tryz.underlying43]; rfl
theorem Fd43_3:(Tryz.prog.underlying 43).bind (fun d=>match d with | .struct fs=>(fs[3]?).map (fun f=>(f.offset,f.type)) | _=>none)=some (3,3):=by rw [Tryz.underlying43]; rfl
theorem Fd50_0:(Tryz.prog.underlying 50).bind (fun d=>match d with | .struct fs=>(fs[0]?).map (fun f=>(f.offset,f.type)) | _=>none)=some (0,3):=by rw [Tryz.underlying50]; rfl
theorem Fd50_1:(Tryz.prog.underlying 50).bind (fun d=>match d with | .struct fs=>(fs[1]?).map (fun f=>(f.offset,f.type)) | _=>none)=some (1,3):=by rw [Tryz.underlying50]; rfl
theorem Fd52_0:(Tryz.prog.underlying 52).bind (fun d=>match d with | .struct fs=>(fs[0]?).map (fun f=>(f.offset,f.type)) | _=>none)=some (0,50):=by rw [Tryz.underlying52]; rfl
theorem Fd52_1:(Tryz.prog.underlying 52).bind (fun d=>match d with | .struct fs=>(fs[1]?).map (fun f=>(f.offset,f.type)) | _=>none)=some (2,50):=by rw [Tryz.underlying52]; rfl
theorem Fd55_0:(Tryz.prog.underlying 55).bind (fun d=>match d with | .struct fs=>(fs[0]?).map (fun f=>(f.offset,f.type)) | _=>none)=some (0,28):=by rw [Tryz.underlying55]; rfl
theorem Fd55_1:(Tryz.prog.underlying 55).bind (fun d=>match d with | .struct fs=>(fs[1]?).map (fun f=>(f.offset,f.type)) | _=>none)=some (1,53):=by rw [Tryz.underlying55]; rfl
theorem Fd59_0:(Tryz.prog.underlying 59).bind (fun d=>match d with | .struct fs=>(fs[0]?).map (fun f=>(f.offset,f.type)) | _=>none)=some (0,3):=by rw [Tryz.underlying59]; rfl
theorem Fd59_1:(Tryz.prog.underlying 59).bind (fun d=>match d with | .struct fs=>(fs[1]?).map (fun f=>(f.offset,f.type)) | _=>none)=some (1,36):=by rw [Tryz.underlying59]; rfl
theorem Fd61_0:(Tryz.prog.underlying 61).bind (fun d=>match d with | .struct fs=>(fs[0]?).map (fun f=>(f.offset,f.type)) | _=>none)=some (0,3):=by rw [Tryz.underlying61]; rfl
theorem Fd61_1:(Tryz.prog.underlying 61).bind (fun d=>match d with | .struct fs=>(fs[1]?).map (fun f=>(f.offset,f.type)) | _=>none)=some (1,3):=by rw [Tryz.underlying61]; rfl
theorem Fd68_0:(Tryz.prog.underlying 68).bind (fun d=>match d with | .struct fs=>(fs[0]?).map (fun f=>(f.offset,f.type)) | _=>none)=some (0,61):=by rw [Tryz.underlying68]; rfl
theorem Fd68_1:(Tryz.prog.underlying 68).bind (fun d=>match d with | .struct fs=>(fs[1]?).map (fun f=>(f.offset,f.type)) | _=>none)=some (2,61):=by rw [Tryz.underlying68]; rfl
theorem Fd76_0:(Tryz.prog.underlying 76).bind (fun d=>match d with | .struct fs=>(fs[0]?).map (fun f=>(f.offset,f.type)) | _=>none)=some (0,3):=by rw [Tryz.underlying76]; rfl
theorem Fd76_1:(Tryz.prog.underlying 76).bind (fun d=>match d with | .struct fs=>(fs[1]?).map (fun f=>(f.offset,f.type)) | _=>none)=some (1,74):=by rw [Tryz.underlying76]; rfl
theorem Fd78_0:(Tryz.prog.underlying 78).bind (fun d=>match d with | .struct fs=>(fs[0]?).map (fun f=>(f.offset,f.type)) | _=>none)=some (0,3):=by rw [Tryz.underlying78]; rfl
theorem Fd78_1:(Tryz.prog.underlying 78).bind (fun d=>match d with | .struct fs=>(fs[1]?).map (fun f=>(f.offset,f.type)) | _=>none)=some (1,3):=by rw [Tryz.underlying78]; rfl
theorem Fd80_0:(Tryz.prog.underlying 80).bind (fun d=>match d with | .struct fs=>(fs[0]?).map (fun f=>(f.offset,f.type)) | _=>none)=some (0,3):=by rw [Tryz.underlying80]; rfl
theorem Fd80_1:(Tryz.prog.underlying 80).bind (fun d=>match d with | .struct fs=>(fs[1]?).map (fun f=>(f.offset,f.type)) | _=>none)=some (1,36):=by rw [Tryz.underlying80]; rfl
theorem Fd82_0:(Tryz.prog.underlying 82).bind (fun d=>match d with | .struct fs=>(fs[0]?).map (fun f=>(f.offset,f.type)) | _=>none)=some (0,22):=by rw [Tryz.underlying82]; rfl
theorem Fd82_1:(Tryz.prog.underlying 82).bind (fun d=>match d with | .struct fs=>(fs[1]?).map (fun f=>(f.offset,f.type)) | _=>none)=some (1,3):=by rw [Tryz.underlying82]; rfl
theorem Fd82_2:(Tryz.prog.underlying 82).bind (fun d=>match d with | .struct fs=>(fs[2]?).map (fun f=>(f.offset,f.type)) | _=>none)=some (2,3):=by rw [Tryz.underlying82]; rfl
theorem Fd117_0:(Tryz.prog.underlying 117).bind (fun d=>match d with | .struct fs=>(fs[0]?).map (fun f=>(f.offset,f.type)) | _=>none)=some (0,27):=by rw [Tryz.underlying117]; rfl
theorem Fd117_1:(Tryz.prog.underlying 117).bind (fun d=>match d with | .struct fs=>(fs[1]?).map (fun f=>(f.offset,f.type)) | _=>none)=some (3,115):=by rw [Tryz.underlying117]; rfl
theorem Fd120_0:(Tryz.prog.underlying 120).bind (fun d=>match d with | .struct fs=>(fs[0]?).map (fun f=>(f.offset,f.type)) | _=>none)=some (0,3):=by rw [Tryz.underlying120]; rfl
theorem Fd120_1:(Tryz.prog.underlying 120).bind (fun d=>match d with | .struct fs=>(fs[1]?).map (fun f=>(f.offset,f.type)) | _=>none)=some (1,3):=by rw [Tryz.underlying120]; rfl
theorem Fd128_0:(Tryz.prog.underlying 128).bind (fun d=>match d with | .struct fs=>(fs[0]?).map (fun f=>(f.offset,f.type)) | _=>none)=some (0,123):=by rw [Tryz.underlying128]; rfl
theorem Fd154_0:(Tryz.prog.underlying 154).bind (fun d=>match d with | .struct fs=>(fs[0]?).map (fun f=>(f.offset,f.type)) | _=>none)=some (0,152):=by rw [Tryz.underlying154]; rfl
theorem Fd173_0:(Tryz.prog.underlying 173).bind (fun d=>match d with | .struct fs=>(fs[0]?).map (fun f=>(f.offset,f.type)) | _=>none)=some (0,171):=by rw [Tryz.underlying173]; rfl
theorem Fd173_1:(Tryz.prog.underlying 173).bind (fun d=>match d with | .struct fs=>(fs[1]?).map (fun f=>(f.offset,f.type)) | _=>none)=some (16,171):=by rw [Tryz.underlying173]; rfl
theorem Fd179_0:(Tryz.prog.underlying 179).bind (fun d=>match d with | .struct fs=>(fs[0]?).map (fun f=>(f.offset,f.type)) | _=>none)=some (0,177):=by rw [Tryz.underlying179]; rfl
theorem Fd179_1:(Tryz.prog.underlying 179).bind (fun d=>match d with | .struct fs=>(fs[1]?).map (fun f=>(f.offset,f.type)) | _=>none)=some (1,28):=by rw [Tryz.underlying179]; rfl
theorem Fd182_0:(Tryz.prog.underlying 182).bind (fun d=>match d with | .struct fs=>(fs[0]?).map (fun f=>(f.offset,f.type)) | _=>none)=some (0,179):=by rw [Tryz.underlying182]; rfl
theorem Fd182_1:(Tryz.prog.underlying 182).bind (fun d=>match d with | .struct fs=>(fs[1]?).map (fun f=>(f.offset,f.type)) | _=>none)=some (2,180):=by rw [Tryz.underlying182]; rfl
theorem Al3:(Tryz.prog.info? 3).map (·.zero)=some (some (I 0)):=by kernel_rfl
theorem Al4:(Tryz.prog.info? 4).map (·.zero)=some (some (B false)):=by kernel_rfl
theorem Al27:(Tryz.prog.info? 27).map (·.zero)=some (some (.agg #[.slice none 0 0,.slice none 0 0,.slice none 0 0])):=by kernel_rfl
theorem Al30:(Tryz.prog.info? 30).map (·.zero)=some (some (.agg #[.slice none 0 0,.slice none 0 0])):=by kernel_rfl
theorem Al36:(Tryz.prog.info? 36).map (·.zero)=some (some (.agg #[I 0,I 0])):=by kernel_rfl
theorem Al38:(Tryz.prog.info? 38).map (·.zero)=some (some (.agg #[I 0,I 0,I 0,I 0,B false])):=by kernel_rfl
theorem Al39:(Tryz.prog.info? 39).map (·.zero)=some (some (I 0)):=by kernel_rfl
theorem Al43:(Tryz.prog.info? 43).map (·.zero)=some (some (.agg #[I 0,I 0,I 0,I 0])):=by kernel_rfl
theorem Al50:(Tryz.prog.info? 50).map (·.zero)=some (some (.agg #[I 0,I 0])):=by kernel_rfl
theorem Al52:(Tryz.prog.info? 52).map (·.zero)=some (some (.agg #[I 0,I 0,I 0,I 0])):=by kernel_rfl
theorem Al53:(Tryz.prog.info? 53).map (·.zero)=some (some (.slice none 0 0)):=by kernel_rfl
theorem Al55:(Tryz.prog.info? 55).map (·.zero)=some (some (.agg #[.slice none 0 0,.slice none 0 0])):=by kernel_rfl
theorem Al59:(Tryz.prog.info? 59).map (·.zero)=some (some (.agg #[I 0,I 0,I 0])):=by kernel_rfl
theorem Al61:(Tryz.prog.info? 61).map (·.zero)=some (some (.agg #[I 0,I 0])):=by kernel_rfl
theorem Al68:(Tryz.prog.info? 68).map (·.zero)=some (some (.agg #[I 0,I 0,I 0,I 0])):=by kernel_rfl
theorem Al76:(Tryz.prog.info? 76).map (·.zero)=some (some (.agg #[I 0,.slice none 0 0])):=by kernel_rfl
theorem Al78:(Tryz.prog.info? 78).map (·.zero)=some (some (.agg #[I 0,I 0])):=by kernel_rfl
theorem Al80:(Tryz.prog.info? 80).map (·.zero)=some (some (.agg #[I 0,I 0,I 0])):=by kernel_rfl
theorem Al82:(Tryz.prog.info? 82).map (·.zero)=some (some (.agg #[.slice none 0 0,I 0,I 0])):=by kernel_rfl
theorem Al117:(Tryz.prog.info? 117).map (·.zero)=some (some (.agg #[.slice none 0 0,.slice none 0 0,.slice none 0 0,.map none])):=by kernel_rfl
theorem Al120:(Tryz.prog.info? 120).map (·.zero)=some (some (.agg #[I 0,I 0])):=by kernel_rfl
theorem Al123:(Tryz.prog.info? 123).map (·.zero)=some (some (.nilFunc)):=by kernel_rfl
theorem Al124:(Tryz.prog.info? 124).map (·.zero)=some (some (.nilFunc)):=by kernel_rfl
theorem Al128:(Tryz.prog.info? 128).map (·.zero)=some (some (.agg #[.nilFunc])):=by kernel_rfl
theorem Al135:(Tryz.prog.info? 135).map (·.zero)=some (some (.agg #[B false,B false,B false,B false,B false,B false,B false,B false,B false,B false,B false,B false,B false,B false,B false,B false])):=by kernel_rfl
theorem Al154:(Tryz.prog.info? 154).map (·.zero)=some (some (.agg #[.nilFunc])):=by kernel_rfl
theorem Al169:(Tryz.prog.info? 169).map (·.zero)=some (some (.pointer none)):=by kernel_rfl
theorem Al177:(Tryz.prog.info? 177).map (·.zero)=some (some (.slice none 0 0)):=by kernel_rfl
theorem Al179:(Tryz.prog.info? 179).map (·.zero)=some (some (.agg #[.slice none 0 0,.slice none 0 0])):=by kernel_rfl
theorem Al182:(Tryz.prog.info? 182).map (·.zero)=some (some (.agg #[.slice none 0 0,.slice none 0 0,.map none])):=by kernel_rfl
theorem Al187:(Tryz.prog.info? 187).map (·.zero)=some (some (.map none)):=by kernel_rfl
theorem Al220:(Tryz.prog.info? 220).map (·.zero)=some (some (.agg #[B false,B false,B false,B false,B false,B false,B false,B false,B false,B false,B false,B false,B false,B false,B false,B false,B false,B false,B false,B false,B false,B false,B false,B false])):=by kernel_rfl
theorem Bd27 {fs:Array Field} (h:Tryz.prog.underlying 27=some (.struct fs)):fs.toList.mapM (fun f=>(Tryz.prog.info? f.type).map fun i=>(f.offset,i.size))=some [(0,1),(1,1),(2,1)]:=by rw [Tryz.underlying27] at h; simp only [Option.some.injEq,TypeDesc.struct.injEq] at h; subst h; kernel_rfl
theorem Bd36 {fs:Array Field} (h:Tryz.prog.underlying 36=some (.struct fs)):fs.toList.mapM (fun f=>(Tryz.prog.info? f.type).map fun i=>(f.offset,i.size))=some [(0,1),(1,1)]:=by rw [Tryz.underlying36] at h; simp only [Option.some.injEq,TypeDesc.struct.injEq] at h; subst h; kernel_rfl
theorem Bd38 {fs:Array Field} (h:Tryz.prog.underlying 38=some (.struct fs)):fs.toList.mapM (fun f=>(Tryz.prog.info? f.type).map fun i=>(f.offset,i.size))=some [(0,1),(1,1),(2,2),(4,1)]:=by rw [Tryz.underlying38] at h; simp only [Option.some.injEq,TypeDesc.struct.injEq] at h; subst h; kernel_rfl
theorem Bd43 {fs:Array Field} (h:Tryz.prog.underlying 43=some (.struct fs)):fs.toList.mapM (fun f=>(Tryz.prog.info? f.type).map fun i=>(f.offset,i.size))=some [(0,1),(1,1),(2,1),(3,1)]:=by rw [Tryz.underlying43] at h; simp only [Option.some.injEq,TypeDesc.struct.injEq] at h; subst h; kernel_rfl
theorem Bd50 {fs:Array Field} (h:Tryz.prog.underlying 50=some (.struct fs)):fs.toList.mapM (fun f=>(Tryz.prog.info? f.type).map fun i=>(f.offset,i.size))=some [(0,1),(1,1)]:=by rw [Tryz.underlying50] at h; simp only [Option.some.injEq,TypeDesc.struct.injEq] at h; subst h; kernel_rfl
theorem Bd52 {fs:Array Field} (h:Tryz.prog.underlying 52=some (.struct fs)):fs.toList.mapM (fun f=>(Tryz.prog.info? f.type).map fun i=>(f.offset,i.size))=some [(0,2),(2,2)]:=by rw [Tryz.underlying52] at h; simp only [Option.some.injEq,TypeDesc.struct.injEq] at h; subst h; kernel_rfl
theorem Bd55 {fs:Array Field} (h:Tryz.prog.underlying 55=some (.struct fs)):fs.toList.mapM (fun f=>(Tryz.prog.info? f.type).map fun i=>(f.offset,i.size))=some [(0,1),(1,1)]:=by rw [Tryz.underlying55] at h; simp only [Option.some.injEq,TypeDesc.struct.injEq] at h; subst h; kernel_rfl
theorem Bd59 {fs:Array Field} (h:Tryz.prog.underlying 59=some (.struct fs)):fs.toList.mapM (fun f=>(Tryz.prog.info? f.type).map fun i=>(f.offset,i.size))=some [(0,1),(1,2)]:=by rw [Tryz.underlying59] at h; simp only [Option.some.injEq,TypeDesc.struct.injEq] at h; subst h; kernel_rfl
theorem Bd61 {fs:Array Field} (h:Tryz.prog.underlying 61=some (.struct fs)):fs.toList.mapM (fun f=>(Tryz.prog.info? f.type).map fun i=>(f.offset,i.size))=some [(0,1),(1,1)]:=by rw [Tryz.underlying61] at h; simp only [Option.some.injEq,TypeDesc.struct.injEq] at h; subst h; kernel_rfl
theorem Bd68 {fs:Array Field} (h:Tryz.prog.underlying 68=some (.struct fs)):fs.toList.mapM (fun f=>(Tryz.prog.info? f.type).map fun i=>(f.offset,i.size))=some [(0,2),(2,2)]:=by rw [Tryz.underlying68] at h; simp only [Option.some.injEq,TypeDesc.struct.injEq] at h; subst h; kernel_rfl
theorem Bd76 {fs:Array Field} (h:Tryz.prog.underlying 76=some (.struct fs)):fs.toList.mapM (fun f=>(Tryz.prog.info? f.type).map fun i=>(f.offset,i.size))=some [(0,1),(1,1)]:=by rw [Tryz.underlying76] at h; simp only [Option.some.injEq,TypeDesc.struct.injEq] at h; subst h; kernel_rfl
theorem Bd78 {fs:Array Field} (h:Tryz.prog.underlying 78=some (.struct fs)):fs.toList.mapM (fun f=>(Tryz.prog.info? f.type).map fun i=>(f.offset,i.size))=some [(0,1),(1,1)]:=by rw [Tryz.underlying78] at h; simp only [Option.some.injEq,TypeDesc.struct.injEq] at h; subst h; kernel_rfl
theorem Bd80 {fs:Array Field} (h:Tryz.prog.underlying 80=some (.struct fs)):fs.toList.mapM (fun f=>(Tryz.prog.info? f.type).map fun i=>(f.offset,i.size))=some [(0,1),(1,2)]:=by rw [Tryz.underlying80] at h; simp only [Option.some.injEq,TypeDesc.struct.injEq] at h; subst h; kernel_rfl
theorem Bd82 {fs:Array Field} (h:Tryz.prog.underlying 82=some (.struct fs)):fs.toList.mapM (fun f=>(Tryz.prog.info? f.type).map fun i=>(f.offset,i.size))=some [(0,1),(1,1),(2,1)]:=by rw [Tryz.underlying82] at h; simp only [Option.some.injEq,TypeDesc.struct.injEq] at h; subst h; kernel_rfl
theorem Bd117 {fs:Array Field} (h:Tryz.prog.underlying 117=some (.struct fs)):fs.toList.mapM (fun f=>(Tryz.prog.info? f.type).map fun i=>(f.offset,i.size))=some [(0,3),(3,1)]:=by rw [Tryz.underlying117] at h; simp only [Option.some.injEq,TypeDesc.struct.injEq] at h; subst h; kernel_rfl
theorem Bd120 {fs:Array Field} (h:Tryz.prog.underlying 120=some (.struct fs)):fs.toList.mapM (fun f=>(Tryz.prog.info? f.type).map fun i=>(f.offset,i.size))=some [(0,1),(1,1)]:=by rw [Tryz.underlying120] at h; simp only [Option.some.injEq,TypeDesc.struct.injEq] at h; subst h; kernel_rfl
theorem Bd128 {fs:Array Field} (h:Tryz.prog.underlying 128=some (.struct fs)):fs.toList.mapM (fun f=>(Tryz.prog.info? f.type).map fun i=>(f.offset,i.size))=some [(0,1)]:=by rw [Tryz.underlying128] at h; simp only [Option.some.injEq,TypeDesc.struct.injEq] at h; subst h; kernel_rfl
theorem Bd154 {fs:Array Field} (h:Tryz.prog.underlying 154=some (.struct fs)):fs.toList.mapM (fun f=>(Tryz.prog.info? f.type).map fun i=>(f.offset,i.size))=some [(0,1)]:=by rw [Tryz.underlying154] at h; simp only [Option.some.injEq,TypeDesc.struct.injEq] at h; subst h; kernel_rfl
theorem Bd173 {fs:Array Field} (h:Tryz.prog.underlying 173=some (.struct fs)):fs.toList.mapM (fun f=>(Tryz.prog.info? f.type).map fun i=>(f.offset,i.size))=some [(0,16),(16,16)]:=by rw [Tryz.underlying173] at h; simp only [Option.some.injEq,TypeDesc.struct.injEq] at h; subst h; kernel_rfl
theorem Bd179 {fs:Array Field} (h:Tryz.prog.underlying 179=some (.struct fs)):fs.toList.mapM (fun f=>(Tryz.prog.info? f.type).map fun i=>(f.offset,i.size))=some [(0,1),(1,1)]:=by rw [Tryz.underlying179] at h; simp only [Option.some.injEq,TypeDesc.struct.injEq] at h; subst h; kernel_rfl
theorem Bd182 {fs:Array Field} (h:Tryz.prog.underlying 182=some (.struct fs)):fs.toList.mapM (fun f=>(Tryz.prog.info? f.type).map fun i=>(f.offset,i.size))=some [(0,2),(2,1)]:=by rw [Tryz.underlying182] at h; simp only [Option.some.injEq,TypeDesc.struct.injEq] at h; subst h; kernel_rfl
theorem mixed:Tryz.prog.follows .mixedOrders=true:=by kernel_rfl
theorem Al173:(Tryz.prog.info? 173).map (·.zero)=some (some (.agg (List.flatten [[],encF (α:=Int) (List.replicate 16 0),encF (α:=Int) (List.replicate 16 0)]).toArray)):=by kernel_rfl

instance:TlC Tryz.prog 22 5 1 1 (.int .u8 0):=⟨T22⟩
instance:TlC Tryz.prog 23 76 2 32 (.agg #[I 0,.slice none 0 0]):=⟨T23⟩
instance:TlC Tryz.prog 24 80 3 24 (.agg #[I 0,I 0,I 0]):=⟨T24⟩
instance:TlC Tryz.prog 25 38 5 40 (.agg #[I 0,I 0,I 0,I 0,B false]):=⟨T25⟩
instance:TlC Tryz.prog 28 3 1 8 (I 0):=⟨T28⟩
instance:TlC Tryz.prog 53 52 4 32 (.agg #[I 0,I 0,I 0,I 0]):=⟨T53⟩
instance:TlC Tryz.prog 56 59 3 24 (.agg #[I 0,I 0,I 0]):=⟨T56⟩
instance:TlC Tryz.prog 74 78 2 16 (.agg #[I 0,I 0]):=⟨T74⟩
instance:TlC Tryz.prog 99 28 1 24 (.slice none 0 0):=⟨T99⟩
instance:TlC Tryz.prog 100 36 2 16 (.agg #[I 0,I 0]):=⟨T100⟩
instance:TlC Tryz.prog 139 4 1 1 (B false):=⟨T139⟩
instance:TlC Tryz.prog 177 59 3 24 (.agg #[I 0,I 0,I 0]):=⟨T177⟩
instance:TlC Tryz.prog 208 50 2 16 (.agg #[I 0,I 0]):=⟨T208⟩
instance:ScC Tryz.prog 3:=⟨Sc3⟩
instance:ScC Tryz.prog 4:=⟨Sc4⟩
instance:ScC Tryz.prog 5:=⟨Sc5⟩
instance:ScC Tryz.prog 22:=⟨Sc22⟩
instance:ScC Tryz.prog 23:=⟨Sc23⟩
instance:ScC Tryz.prog 24:=⟨Sc24⟩
instance:ScC Tryz.prog 25:=⟨Sc25⟩
instance:ScC Tryz.prog 28:=⟨Sc28⟩
instance:ScC Tryz.prog 39:=⟨Sc39⟩
instance:ScC Tryz.prog 53:=⟨Sc53⟩
instance:ScC Tryz.prog 74:=⟨Sc74⟩
instance:ScC Tryz.prog 83:=⟨Sc83⟩
instance:ScC Tryz.prog 87:=⟨Sc87⟩
instance:ScC Tryz.prog 107:=⟨Sc107⟩
instance:ScC Tryz.prog 115:=⟨Sc115⟩
instance:ScC Tryz.prog 123:=⟨Sc123⟩
instance:ScC Tryz.prog 124:=⟨Sc124⟩
instance:ScC Tryz.prog 140:=⟨Sc140⟩
instance:ScC Tryz.prog 146:=⟨Sc146⟩
instance:ScC Tryz.prog 152:=⟨Sc152⟩
instance:ScC Tryz.prog 158:=⟨Sc158⟩
instance:ScC Tryz.prog 161:=⟨Sc161⟩
instance:ScC Tryz.prog 169:=⟨Sc169⟩
instance:ScC Tryz.prog 177:=⟨Sc177⟩
instance:ScC Tryz.prog 180:=⟨Sc180⟩
instance:ScC Tryz.prog 187:=⟨Sc187⟩
instance:SzC Tryz.prog 3 1:=⟨Sz3⟩
instance:SzC Tryz.prog 4 1:=⟨Sz4⟩
instance:SzC Tryz.prog 22 1:=⟨Sz22⟩
instance:SzC Tryz.prog 23 1:=⟨Sz23⟩
instance:SzC Tryz.prog 24 1:=⟨Sz24⟩
instance:SzC Tryz.prog 25 1:=⟨Sz25⟩
instance:AgC Tryz.prog 27:=⟨Ag27⟩
instance:SzC Tryz.prog 27 3:=⟨Sz27⟩
instance:SzC Tryz.prog 28 1:=⟨Sz28⟩
instance:AgC Tryz.prog 30:=⟨Ag30⟩
instance:SzC Tryz.prog 30 2:=⟨Sz30⟩
instance:AgC Tryz.prog 36:=⟨Ag36⟩
instance:SzC Tryz.prog 36 2:=⟨Sz36⟩
instance:AgC Tryz.prog 38:=⟨Ag38⟩
instance:SzC Tryz.prog 38 5:=⟨Sz38⟩
instance:SzC Tryz.prog 39 1:=⟨Sz39⟩
instance:AgC Tryz.prog 43:=⟨Ag43⟩
instance:SzC Tryz.prog 43 4:=⟨Sz43⟩
instance:AgC Tryz.prog 50:=⟨Ag50⟩
instance:SzC Tryz.prog 50 2:=⟨Sz50⟩
instance:AgC Tryz.prog 52:=⟨Ag52⟩
instance:SzC Tryz.prog 52 4:=⟨Sz52⟩
instance:SzC Tryz.prog 53 1:=⟨Sz53⟩
instance:AgC Tryz.prog 55:=⟨Ag55⟩
instance:SzC Tryz.prog 55 2:=⟨Sz55⟩
instance:AgC Tryz.prog 59:=⟨Ag59⟩
instance:SzC Tryz.prog 59 3:=⟨Sz59⟩
instance:AgC Tryz.prog 61:=⟨Ag61⟩
instance:SzC Tryz.prog 61 2:=⟨Sz61⟩
instance:AgC Tryz.prog 68:=⟨Ag68⟩
instance:SzC Tryz.prog 68 4:=⟨Sz68⟩
instance:SzC Tryz.prog 74 1:=⟨Sz74⟩
instance:AgC Tryz.prog 76:=⟨Ag76⟩
instance:SzC Tryz.prog 76 2:=⟨Sz76⟩
instance:AgC Tryz.prog 78:=⟨Ag78⟩
instance:SzC Tryz.prog 78 2:=⟨Sz78⟩
instance:AgC Tryz.prog 80:=⟨Ag80⟩
instance:SzC Tryz.prog 80 3:=⟨Sz80⟩
instance:SzC Tryz.prog 115 1:=⟨Sz115⟩
instance:AgC Tryz.prog 120:=⟨Ag120⟩
instance:SzC Tryz.prog 120 2:=⟨Sz120⟩
instance:SzC Tryz.prog 123 1:=⟨Sz123⟩
instance:SzC Tryz.prog 124 1:=⟨Sz124⟩
instance:AgC Tryz.prog 128:=⟨Ag128⟩
instance:SzC Tryz.prog 128 1:=⟨Sz128⟩
instance:SzC Tryz.prog 152 1:=⟨Sz152⟩
instance:AgC Tryz.prog 154:=⟨Ag154⟩
instance:SzC Tryz.prog 154 1:=⟨Sz154⟩
instance:SzC Tryz.prog 169 1:=⟨Sz169⟩
instance:AgC Tryz.prog 171:=⟨Ag171⟩
instance:SzC Tryz.prog 171 16:=⟨Sz171⟩
instance:SzC Tryz.prog 177 1:=⟨Sz177⟩
instance:AgC Tryz.prog 179:=⟨Ag179⟩
instance:SzC Tryz.prog 179 2:=⟨Sz179⟩
instance:SzC Tryz.prog 180 1:=⟨Sz180⟩
instance:SzC Tryz.prog 187 1:=⟨Sz187⟩
instance:FdC Tryz.prog 27 0 0 23:=⟨Fd27_0⟩
instance:FdC Tryz.prog 27 1 1 24:=⟨Fd27_1⟩
instance:FdC Tryz.prog 27 2 2 25:=⟨Fd27_2⟩
instance:FdC Tryz.prog 30 0 0 28:=⟨Fd30_0⟩
instance:FdC Tryz.prog 30 1 1 28:=⟨Fd30_1⟩
instance:FdC Tryz.prog 36 0 0 3:=⟨Fd36_0⟩
instance:FdC Tryz.prog 36 1 1 3:=⟨Fd36_1⟩
instance:FdC Tryz.prog 38 0 0 3:=⟨Fd38_0⟩
instance:FdC Tryz.prog 38 1 1 3:=⟨Fd38_1⟩
instance:FdC Tryz.prog 38 2 2 36:=⟨Fd38_2⟩
instance:FdC Tryz.prog 38 3 4 4:=⟨Fd38_3⟩
instance:FdC Tryz.prog 43 0 0 3:=⟨Fd43_0⟩
instance:FdC Tryz.prog 43 1 1 3:=⟨Fd43_1⟩
instance:FdC Tryz.prog 43 2 2 3:=⟨Fd43_2⟩
instance:FdC Tryz.prog 43 3 3 3:=⟨Fd43_3⟩
instance:FdC Tryz.prog 50 0 0 3:=⟨Fd50_0⟩
instance:FdC Tryz.prog 50 1 1 3:=⟨Fd50_1⟩
instance:FdC Tryz.prog 52 0 0 50:=⟨Fd52_0⟩
instance:FdC Tryz.prog 52 1 2 50:=⟨Fd52_1⟩
instance:FdC Tryz.prog 55 0 0 28:=⟨Fd55_0⟩
instance:FdC Tryz.prog 55 1 1 53:=⟨Fd55_1⟩
instance:FdC Tryz.prog 59 0 0 3:=⟨Fd59_0⟩
instance:FdC Tryz.prog 59 1 1 36:=⟨Fd59_1⟩
instance:FdC Tryz.prog 61 0 0 3:=⟨Fd61_0⟩
instance:FdC Tryz.prog 61 1 1 3:=⟨Fd61_1⟩
instance:FdC Tryz.prog 68 0 0 61:=⟨Fd68_0⟩
instance:FdC Tryz.prog 68 1 2 61:=⟨Fd68_1⟩
instance:FdC Tryz.prog 76 0 0 3:=⟨Fd76_0⟩
instance:FdC Tryz.prog 76 1 1 74:=⟨Fd76_1⟩
instance:FdC Tryz.prog 78 0 0 3:=⟨Fd78_0⟩
instance:FdC Tryz.prog 78 1 1 3:=⟨Fd78_1⟩
instance:FdC Tryz.prog 80 0 0 3:=⟨Fd80_0⟩
instance:FdC Tryz.prog 80 1 1 36:=⟨Fd80_1⟩
instance:FdC Tryz.prog 82 0 0 22:=⟨Fd82_0⟩
instance:FdC Tryz.prog 82 1 1 3:=⟨Fd82_1⟩
instance:FdC Tryz.prog 82 2 2 3:=⟨Fd82_2⟩
instance:FdC Tryz.prog 117 0 0 27:=⟨Fd117_0⟩
instance:FdC Tryz.prog 117 1 3 115:=⟨Fd117_1⟩
instance:FdC Tryz.prog 120 0 0 3:=⟨Fd120_0⟩
instance:FdC Tryz.prog 120 1 1 3:=⟨Fd120_1⟩
instance:FdC Tryz.prog 128 0 0 123:=⟨Fd128_0⟩
instance:FdC Tryz.prog 154 0 0 152:=⟨Fd154_0⟩
instance:FdC Tryz.prog 173 0 0 171:=⟨Fd173_0⟩
instance:FdC Tryz.prog 173 1 16 171:=⟨Fd173_1⟩
instance:FdC Tryz.prog 179 0 0 177:=⟨Fd179_0⟩
instance:FdC Tryz.prog 179 1 1 28:=⟨Fd179_1⟩
instance:FdC Tryz.prog 182 0 0 179:=⟨Fd182_0⟩
instance:FdC Tryz.prog 182 1 2 180:=⟨Fd182_1⟩
instance:AlC Tryz.prog 3 (I 0):=⟨Al3⟩
instance:AlC Tryz.prog 4 (B false):=⟨Al4⟩
instance:AlC Tryz.prog 27 (.agg #[.slice none 0 0,.slice none 0 0,.slice none 0 0]):=⟨Al27⟩
instance:AlC Tryz.prog 30 (.agg #[.slice none 0 0,.slice none 0 0]):=⟨Al30⟩
instance:AlC Tryz.prog 36 (.agg #[I 0,I 0]):=⟨Al36⟩
instance:AlC Tryz.prog 38 (.agg #[I 0,I 0,I 0,I 0,B false]):=⟨Al38⟩
instance:AlC Tryz.prog 39 (I 0):=⟨Al39⟩
instance:AlC Tryz.prog 43 (.agg #[I 0,I 0,I 0,I 0]):=⟨Al43⟩
instance:AlC Tryz.prog 50 (.agg #[I 0,I 0]):=⟨Al50⟩
instance:AlC Tryz.prog 52 (.agg #[I 0,I 0,I 0,I 0]):=⟨Al52⟩
instance:AlC Tryz.prog 53 (.slice none 0 0):=⟨Al53⟩
instance:AlC Tryz.prog 55 (.agg #[.slice none 0 0,.slice none 0 0]):=⟨Al55⟩
instance:AlC Tryz.prog 59 (.agg #[I 0,I 0,I 0]):=⟨Al59⟩
instance:AlC Tryz.prog 61 (.agg #[I 0,I 0]):=⟨Al61⟩
instance:AlC Tryz.prog 68 (.agg #[I 0,I 0,I 0,I 0]):=⟨Al68⟩
instance:AlC Tryz.prog 76 (.agg #[I 0,.slice none 0 0]):=⟨Al76⟩
instance:AlC Tryz.prog 78 (.agg #[I 0,I 0]):=⟨Al78⟩
instance:AlC Tryz.prog 80 (.agg #[I 0,I 0,I 0]):=⟨Al80⟩
instance:AlC Tryz.prog 82 (.agg #[.slice none 0 0,I 0,I 0]):=⟨Al82⟩
instance:AlC Tryz.prog 117 (.agg #[.slice none 0 0,.slice none 0 0,.slice none 0 0,.map none]):=⟨Al117⟩
instance:AlC Tryz.prog 120 (.agg #[I 0,I 0]):=⟨Al120⟩
instance:AlC Tryz.prog 123 (.nilFunc):=⟨Al123⟩
instance:AlC Tryz.prog 124 (.nilFunc):=⟨Al124⟩
instance:AlC Tryz.prog 128 (.agg #[.nilFunc]):=⟨Al128⟩
instance:AlC Tryz.prog 135 (.agg #[B false,B false,B false,B false,B false,B false,B false,B false,B false,B false,B false,B false,B false,B false,B false,B false]):=⟨Al135⟩
instance:AlC Tryz.prog 154 (.agg #[.nilFunc]):=⟨Al154⟩
instance:AlC Tryz.prog 169 (.pointer none):=⟨Al169⟩
instance:AlC Tryz.prog 177 (.slice none 0 0):=⟨Al177⟩
instance:AlC Tryz.prog 179 (.agg #[.slice none 0 0,.slice none 0 0]):=⟨Al179⟩
instance:AlC Tryz.prog 182 (.agg #[.slice none 0 0,.slice none 0 0,.map none]):=⟨Al182⟩
instance:AlC Tryz.prog 187 (.map none):=⟨Al187⟩
instance:AlC Tryz.prog 220 (.agg #[B false,B false,B false,B false,B false,B false,B false,B false,B false,B false,B false,B false,B false,B false,B false,B false,B false,B false,B false,B false,B false,B false,B false,B false]):=⟨Al220⟩
instance:BdC Tryz.prog 27 [(0,1),(1,1),(2,1)]:=⟨_,Tryz.underlying27,Bd27 Tryz.underlying27⟩
instance:BdC Tryz.prog 36 [(0,1),(1,1)]:=⟨_,Tryz.underlying36,Bd36 Tryz.underlying36⟩
instance:BdC Tryz.prog 38 [(0,1),(1,1),(2,2),(4,1)]:=⟨_,Tryz.underlying38,Bd38 Tryz.underlying38⟩
instance:BdC Tryz.prog 43 [(0,1),(1,1),(2,1),(3,1)]:=⟨_,Tryz.underlying43,Bd43 Tryz.underlying43⟩
instance:BdC Tryz.prog 50 [(0,1),(1,1)]:=⟨_,Tryz.underlying50,Bd50 Tryz.underlying50⟩
instance:BdC Tryz.prog 52 [(0,2),(2,2)]:=⟨_,Tryz.underlying52,Bd52 Tryz.underlying52⟩
instance:BdC Tryz.prog 55 [(0,1),(1,1)]:=⟨_,Tryz.underlying55,Bd55 Tryz.underlying55⟩
instance:BdC Tryz.prog 59 [(0,1),(1,2)]:=⟨_,Tryz.underlying59,Bd59 Tryz.underlying59⟩
instance:BdC Tryz.prog 61 [(0,1),(1,1)]:=⟨_,Tryz.underlying61,Bd61 Tryz.underlying61⟩
instance:BdC Tryz.prog 68 [(0,2),(2,2)]:=⟨_,Tryz.underlying68,Bd68 Tryz.underlying68⟩
instance:BdC Tryz.prog 76 [(0,1),(1,1)]:=⟨_,Tryz.underlying76,Bd76 Tryz.underlying76⟩
instance:BdC Tryz.prog 78 [(0,1),(1,1)]:=⟨_,Tryz.underlying78,Bd78 Tryz.underlying78⟩
instance:BdC Tryz.prog 80 [(0,1),(1,2)]:=⟨_,Tryz.underlying80,Bd80 Tryz.underlying80⟩
instance:BdC Tryz.prog 82 [(0,1),(1,1),(2,1)]:=⟨_,Tryz.underlying82,Bd82 Tryz.underlying82⟩
instance:BdC Tryz.prog 117 [(0,3),(3,1)]:=⟨_,Tryz.underlying117,Bd117 Tryz.underlying117⟩
instance:BdC Tryz.prog 120 [(0,1),(1,1)]:=⟨_,Tryz.underlying120,Bd120 Tryz.underlying120⟩
instance:BdC Tryz.prog 128 [(0,1)]:=⟨_,Tryz.underlying128,Bd128 Tryz.underlying128⟩
instance:BdC Tryz.prog 154 [(0,1)]:=⟨_,Tryz.underlying154,Bd154 Tryz.underlying154⟩
instance:BdC Tryz.prog 173 [(0,16),(16,16)]:=⟨_,Tryz.underlying173,Bd173 Tryz.underlying173⟩
instance:BdC Tryz.prog 179 [(0,1),(1,1)]:=⟨_,Tryz.underlying179,Bd179 Tryz.underlying179⟩
instance:BdC Tryz.prog 182 [(0,2),(2,1)]:=⟨_,Tryz.underlying182,Bd182 Tryz.underlying182⟩
instance:AlC Tryz.prog 173 (.agg (List.flatten [[],encF (α:=Int) (List.replicate 16 0),encF (α:=Int) (List.replicate 16 0)]).toArray):=⟨Al173⟩
theorem Mi52_flow : MethodIs Tryz.prog 52 "nilometer/rating.flow" 163 := fun _ _ => by kernel_rfl
theorem Mi55_flow : MethodIs Tryz.prog 55 "nilometer/rating.flow" 165 := fun _ _ => by kernel_rfl
end Go.Proofs.YtnncijcapdnlgaaGreat
namespace Go.Nm
open Go
abbrev encSpt (x:Spot):Value:=.agg #[I x.sec,I x.stage]
theorem bool_val (o:Option Bool):(o.map B).getD (.bool false)=B (o.getD false):=by cases o <;> rfl
end Go.Nm
namespace Go.Proofs.YtnncijcapdnlgaaGreat
open Go Go.Nm Go.Proofs
theorem keyIntB:KeyL (ν:=Bool) Tryz.prog 3 I:=KeyL.int Tryz.underlying3
theorem findAskSpt {ν:Type} (k:Spot) (w:World):∀ (es:List MapEntry) (m:List (Spot × ν)) (venc:ν->Value) (j:Nat),es.map (fun e=>(e.key,e.val))=m.map (fun p=>(encSpt p.1,venc p.2)) →
    (Instr.findAsking 120 (encSpt k) es j).run Tryz.prog w = .ok ((idxM m k).bind fun i=>(es[i]?).map fun e=>(i+j,e.val)) w
  | [],[],_,_,_=>rfl
  | [],_ :: _,_,_,h=>by simp at h
  | _ :: _,[],_,_,h=>by simp at h
  | e :: es,p :: m,venc,j,h=>by
    simp only [List.map_cons,List.cons.injEq,Prod.mk.injEq] at h
    have ih:=findAskSpt k w es m venc (j+1) h.2
    unfold Instr.findAsking
    rw [h.1.1]
    have he:=eqT120 k p.1 w
    unfold idxM
    by_cases hp:p.1=k
    · rw [if_pos hp]
      have:decide (k=p.1)=true:=by simp [hp]
      rw [this] at he
      simp [Op.equal,Op.maxDepth,he]
    · rw [if_neg hp]
      have:decide (k=p.1)=false:=by simp; exact fun e=>hp e.symm
      rw [this] at he
      simp only [Op.equal,Op.maxDepth,Sem.run_bind,he,Result.andThen_ok,Bool.false_eq_true,if_false,ih]
      cases hi:idxM m k with
      | none=>rfl
      | some i =>
        simp only [Option.map_some,Option.bind_some,List.getElem?_cons_succ]
        cases es[i]? with
        | none=>rfl
        | some e'=>simp; omega
theorem keySpot:KeyL (ν:=Int) Tryz.prog 120 encSpt:=by
  refine ⟨fun e w k=>?_,fun w es m venc k h=>?_,fun k=>?_⟩
  · have u3:=Tryz.underlying3
    have a3:=Tryz.isAgg3
    have z3:=Tryz.sizeOf3
    have h1:∀ (n:Nat) (x:Int),(Instr.checkKey e (n+1) 3 (I x)).run Tryz.prog w = .ok () w:=fun n x=>MapKept.run_checkKey u3 (show MapKept.IsKey (.int .i64) (I x) from rfl) e n
    have key:∀ n:Nat,(Instr.checkKey e (n+1+1) 120 (encSpt k)).run Tryz.prog w = .ok () w:=by
      intro n
      rw [Instr.checkKey]
      simp only [Sem.run_bind,run_underlying Tryz.underlying120,Result.andThen_ok]
      rw [← Array.forIn_toList]
      simp only [List.forIn_cons,List.forIn_nil]
      go_simp
    exact key 9998
  · rw [run_findKey_eq w (by rw [Tryz.underlying120]),findAskSpt k w es m venc 0 h]
    rfl
  · simp [Instr.sameBits]
end Go.Proofs.YtnncijcapdnlgaaGreat
section
set_option maxRecDepth 100000
set_option maxHeartbeats 16000000
namespace Go.Proofs.YtnncijcapdnlgaaGreat
open Go Go.Nm
attribute [local irreducible] gd execOp SL SLD SLT WR
def m_cmp_isNaN_int (x:Int):M Bool :=
  M.pure (x != x)
theorem cmp_isNaN_int_ok {R:List Chunk}  (x:Int)  {r:Bool} (hM:(m_cmp_isNaN_int x).Ends r) (w:World) (H:St w w [] R):Ret Tryz.prog 113 #[I x] w fun v w'=>∃ (y0:Bool),y0=r/\v=B y0/\St w w' [] R:=by
 refine ret_of_W Tryz.func113 rfl rfl rfl ?_;refine kg 11 ?_;refine W.ret ?_
 have aa:=M.e_pure hM
 exact ⟨_,resE_tmp rfl,⟨(x != x),aa,rfl,H⟩⟩

def m_cmp_Compare_int (x y:Int):M Int :=
  M.bind (m_cmp_isNaN_int x) fun r2 =>
  M.bind (m_cmp_isNaN_int y) fun r3 =>
  bif r2 then (
  bif r3 then (
  M.pure 0)
  else (
  M.pure (-1)))
  else (
  bif r3 then (
  M.pure 1)
  else (
  bif decide (x<y) then (
  M.pure (-1))
  else (
  bif decide (y<x) then (
  M.pure 1)
  else (
  M.pure 0))))
theorem cmp_Compare_int_ok {R:List Chunk}  (x:Int) (y:Int)  {r:Int} (hM:(m_cmp_Compare_int x y).Ends r) (w:World) (H:St w w [] R):Ret Tryz.prog 81 #[I x,I y] w fun v w'=>∃ (y0:Int),y0=r/\v=I y0/\St w w' [] R:=by
 refine ret_of_W Tryz.func81 rfl rfl rfl ?_;refine kg 7 ?_;obtain ⟨am,ak,hM⟩:=M.e_bind hM;refine s_call cf113 [I x] rfl (cmp_isNaN_int_ok x ak _ (H.gt 0)) ?_
 rintro vq ao ⟨r2,rfl,hvq,ag⟩
 subst vq;(try dsimp only at hM);replace H:=H.bk ag;clear ag;refine kg 5 ?_;obtain ⟨ap,al,hM⟩:=M.e_bind hM;refine s_call cf113 [I y] rfl (cmp_isNaN_int_ok y al _ (H.gt 0)) ?_
 rintro vq aq ⟨r3,rfl,hvq,ag⟩
 subst vq;(try dsimp only at hM);replace H:=H.bk ag;clear ag;refine kg 7 ?_
 refine W.cond r2 rfl (fun ah=>?_) (fun ah=>?_)
 ·replace hM:=M.e_t hM ah;refine kg 5 ?_
  refine W.cond r3 rfl (fun ai=>?_) (fun ai=>?_)
  ·replace hM:=M.e_t hM ai;refine kg 4 ?_;refine W.ret ?_
   have aa:=M.e_pure hM
   exact ⟨_,resE_tmp rfl,⟨0,aa,rfl,H⟩⟩
  replace hM:=M.e_f hM ai;refine kg 5 ?_;refine W.ret ?_
  have aa:=M.e_pure hM
  exact ⟨_,resE_tmp rfl,⟨(-1),aa,rfl,H⟩⟩
 replace hM:=M.e_f hM ah;refine kg 6 ?_
 refine W.cond r3 rfl (fun aj=>?_) (fun aj=>?_)
 ·replace hM:=M.e_t hM aj;refine kg 4 ?_;refine W.ret ?_
  have aa:=M.e_pure hM
  exact ⟨_,resE_tmp rfl,⟨1,aa,rfl,H⟩⟩
 replace hM:=M.e_f hM aj;refine kg 8 ?_
 refine W.cond (decide (x<y)) rfl (fun ac=>?_) (fun ac=>?_)
 ·replace hM:=M.e_t hM ac
  replace ac:=dI ac
  refine kg 4 ?_;refine W.ret ?_
  have aa:=M.e_pure hM
  exact ⟨_,resE_tmp rfl,⟨(-1),aa,rfl,H⟩⟩
 replace hM:=M.e_f hM ac
 replace ac:=dI ac
 refine kg 8 ?_
 refine W.cond (decide (y<x)) rfl (fun ae=>?_) (fun ae=>?_)
 ·replace hM:=M.e_t hM ae
  replace ae:=dI ae
  refine kg 4 ?_;refine W.ret ?_
  have aa:=M.e_pure hM
  exact ⟨_,resE_tmp rfl,⟨1,aa,rfl,H⟩⟩
 replace hM:=M.e_f hM ae
 replace ae:=dI ae
 refine kg 5 ?_;refine W.ret ?_
 have aa:=M.e_pure hM
 exact ⟨_,resE_tmp rfl,⟨0,aa,rfl,H⟩⟩

def za5 (r_:FRow) (stage:Int):M Int :=
  M.bind (m_cmp_Compare_int r_.stage stage) fun r2 =>
  M.pure r2
theorem zdA {R:List Chunk}  (r_:FRow) (stage:Int)  {r:Int} (hM:(za5 r_ stage).Ends r) (w:World) (H:St w w [] R):Ret Tryz.prog 80 #[.agg #[I r_.stage,I r_.carry],I stage] w fun v w'=>∃ (y0:Int),y0=r/\v=I y0/\St w w' [] R:=by
 refine ret_of_W Tryz.func80 rfl rfl rfl ?_;refine kg 2 ?_;refine t_bx [I r_.stage,I r_.carry] H rfl ?_;intro ag ah H;refine kg 7 ?_;obtain ⟨ai,ac,hM⟩:=M.e_bind hM;refine s_call cf81 [I r_.stage,I stage] rfl (cmp_Compare_int_ok r_.stage stage ac _ (H.gt 1)) ?_
 rintro vq aj ⟨r2,rfl,hvq,aa⟩
 subst vq;(try dsimp only at hM);replace H:=H.bk aa;clear aa;refine kg 2 ?_;refine W.ret ?_
 have ae:=M.e_pure hM
 exact ⟨_,resE_tmp rfl,⟨r2,ae,rfl,(H.pk [])⟩⟩

def zb6 (x:List FRow) (target:Int):(Int × Int)->M ((Int × Int) ⊕ Int):=fun (i,j) =>
  bif decide (i<j) then (
  M.grd (decide ((-9223372036854775808:Int)<=(i+j))&&decide ((i+j)<=(9223372036854775807:Int))) <|
  M.grd (decide ((0:Int)<=(i+j))&&decide ((i+j)<=(9223372036854775807:Int))) <|
  M.grd (decide ((0:Int)<=((i+j) / 2))&&decide (((i+j) / 2)<=(9223372036854775807:Int))) <|
  M.grd (decide ((0:Int)<=((i+j) / 2))&&decide (((i+j) / 2)<(x.length:Int))) <|
  M.bind (za5 (x.getD (Int.toNat ((i+j) / 2)) default) target) fun r2 =>
  bif decide (r2<0) then (
  M.pure (.inl (((i+j) / 2)+1,j)))
  else (
  M.pure (.inl (i,(i+j) / 2))))
  else (
  M.pure (.inr i))
def zcv (x:List FRow) (target:Int):M (Int × Bool) :=
  M.bind (M.iter (zb6 x target) (0,(x.length:Int))) fun i2 =>
  M.grd ((!(decide (i2<(x.length:Int)))||(decide ((0:Int)<=i2)&&decide (i2<(x.length:Int))))) <|
  M.bind (M.opt (decide (i2<(x.length:Int))) (za5 (x.getD (Int.toNat i2) default) target) 0) fun r3 =>
  M.pure (i2,((decide (i2<(x.length:Int)))&&(r3==0)))
theorem zfe {R:List Chunk} {ak:Cells} {ae:Value} (x:List FRow) (target:Int) (aB:Reads R ak) (aq:Sl ak ae x) {r:(Int × Bool)} (hM:(zcv x target).Ends r) (w:World) (H:St w w [] R):Ret Tryz.prog 79 #[ae,I target,.func (.func 80) #[] #[]] w fun v w'=>∃ (y0:Int) (y1:Bool),(y0,y1)=r/\v = .tuple #[I y0,B y1]/\St w w' [] R:=by
 refine ret_of_W Tryz.func79 rfl rfl rfl ?_
 have aC:=(aq).len_le
 refine kg 19 ?_;obtain ⟨au,ag,av⟩:=M.e_bind hM
 obtain ⟨aD,ag⟩:=M.e_iter ag
 refine W.loop (fun m σ W=>∃ (i:Int) (j:Int) (ρ:Env),σ=upds ρ [(0,ae),(1,I target),(2,.func (.func 80) #[] #[]),(8,I (x.length:Int)),(9,I i),(10,I j)]/\M.iterN (zb6 x target) m (i,j)=some au/\St w W [] R) ?_ ?_
 ·exact ⟨_,0,(x.length:Int),_,upds_of _ _ ⟨rfl,rfl,rfl,rfl,rfl,rfl,trivial⟩,ag,H⟩
 rintro aE σ aF ⟨i,j,ρ,rfl,al,H⟩
 obtain ⟨am,ao,aG,hM,ah⟩:=M.e_iterN al
 simp only [zb6] at hM
 clear al;refine kg 7 ?_
 refine W.cond (decide (i<j)) rfl (fun aa=>?_) (fun aa=>?_)
 ·replace hM:=M.e_t hM aa
  replace aa:=dI aa
  obtain ⟨aH,hM⟩:=M.e_gd hM;obtain ⟨aI,hM⟩:=M.e_gd hM;refine kg 7 ?_;refine s_val (x_convU (kd:=.i64) (a:=i+j) Tryz.underlying3 Tryz.underlying176 rfl (by omega))<|s_val (x_ushr1 (a:=i+j) rfl rfl) ?_;obtain ⟨aJ,hM⟩:=M.e_gd hM;refine s_val (x_conv64 (kd:=.u64) (a:=(i+j) / 2) Tryz.underlying176 Tryz.underlying3 rfl (by omega)) ?_;obtain ⟨aK,hM⟩:=M.e_gd hM;refine kg 10 ?_;obtain ⟨aL,ax,hM⟩:=M.e_bind hM;refine s_callv (f:=80) rfl cf80 [.agg #[I ((x.getD (Int.toNat ((i+j) / 2)) default).stage),I ((x.getD (Int.toNat ((i+j) / 2)) default).carry)],I target] rfl (zdA (x.getD (Int.toNat ((i+j) / 2)) default) target ax _ (H.gt 0)) ?_
  rintro vq aM ⟨r2,rfl,hvq,ap⟩
  subst vq;(try dsimp only at hM);replace H:=H.bk ap;clear ap;refine kg 2 ?_
  refine W.cond (decide (r2<0)) rfl (fun ac=>?_) (fun ac=>?_)
  ·replace hM:=M.e_t hM ac
   replace ac:=dI ac
   refine kg 5 ?_
   exact ⟨am,ao,((i+j) / 2)+1,j,_,upds_of _ _ ⟨rfl,rfl,rfl,rfl,rfl,rfl,trivial⟩,M.e_inl hM ah,H⟩
  replace hM:=M.e_f hM ac
  replace ac:=dI ac
  refine kg 4 ?_
  exact ⟨am,ao,i,(i+j) / 2,_,upds_of _ _ ⟨rfl,rfl,rfl,rfl,rfl,rfl,trivial⟩,M.e_inl hM ah,H⟩
 replace hM:=M.e_f hM aa
 replace aa:=dI aa
 refine W.exit ?_
 have ay:=M.e_inr hM ah
 subst ay;replace hM:=av;(try dsimp only at hM);obtain ⟨ai,hM⟩:=M.e_grd hM
 replace ai:=M.imp_of ai
 simp only [Bool.and_eq_true,decide_eq_true_eq] at ai
 refine kg 13 ?_;obtain ⟨r3,az,hM⟩:=M.e_bind hM;refine t_gcallv (cap:=[]) (decide (i<(x.length:Int))) (gy_t rfl) cf80 (fun hg=>(gd_of hg (.func (.func 80) #[] #[]))) (I r3) (fun _=>[.agg #[I ((x.getD (Int.toNat i) default).stage),I ((x.getD (Int.toNat i) default).carry)],I target]) (fun hg=>lst2 (gd_of hg (.agg #[I ((x.getD (Int.toNat i) default).stage),I ((x.getD (Int.toNat i) default).carry)])) (gd_of hg (I target))) H (fun hg=>(zdA (x.getD (Int.toNat i) default) target (M.e_opt az hg) _ (H.give (A:=[]) rfl)).mono fun v_ w_ ⟨y_,aj,aA,H_⟩=>by subst aj; exact ⟨aA,H.via H_⟩) ?_;intro aN H;refine kg 1 ?_;refine s_val (x_pand (b:=decide (i<(x.length:Int))) (r:=r3==0) rfl (fun hb=>gd_of (c:=decide (i<(x.length:Int))) (by first | exact hb | (rw [hb]; rfl) | simp_all) (B (r3==0))) rfl) ?_;refine kg 3 ?_;refine W.ret ?_
 have aj:=M.e_pure hM
 exact ⟨_,resE_tmp2 rfl,⟨i,((decide (i<(x.length:Int)))&&(r3==0)),aj,rfl,H⟩⟩

def zaa (aa:List Sect) (ac:List Mrk) (ae:List Rch) (x:Spot):M Int :=
  M.grd (decide ((0:Int)<=x.sec)&&decide (x.sec<(aa.length:Int))) <|
  M.bind (zcv ((aa.getD (Int.toNat x.sec) default).rows) x.stage) fun (r0,r1) =>
  bif r1 then (
  M.grd (decide ((0:Int)<=r0)&&decide (r0<(((aa.getD (Int.toNat x.sec) default).rows).length:Int))) <|
  M.pure ((((aa.getD (Int.toNat x.sec) default).rows).getD (Int.toNat r0) default).carry))
  else (
  bif r0==(((aa.getD (Int.toNat x.sec) default).rows).length:Int) then (
  M.grd (decide ((-9223372036854775808:Int)<=(r0-1))&&decide ((r0-1)<=(9223372036854775807:Int))) <|
  M.grd (decide ((0:Int)<=(r0-1))&&decide ((r0-1)<(((aa.getD (Int.toNat x.sec) default).rows).length:Int))) <|
  M.pure ((((aa.getD (Int.toNat x.sec) default).rows).getD (Int.toNat (r0-1)) default).carry))
  else (
  bif decide (0<r0) then (
  M.grd (decide ((-9223372036854775808:Int)<=(r0-1))&&decide ((r0-1)<=(9223372036854775807:Int))) <|
  M.grd (decide ((0:Int)<=(r0-1))&&decide ((r0-1)<(((aa.getD (Int.toNat x.sec) default).rows).length:Int))) <|
  M.grd (decide ((0:Int)<=r0)&&decide (r0<(((aa.getD (Int.toNat x.sec) default).rows).length:Int))) <|
  M.grd (decide ((-9223372036854775808:Int)<=(((((aa.getD (Int.toNat x.sec) default).rows).getD (Int.toNat r0) default).carry)-((((aa.getD (Int.toNat x.sec) default).rows).getD (Int.toNat (r0-1)) default).carry)))&&decide ((((((aa.getD (Int.toNat x.sec) default).rows).getD (Int.toNat r0) default).carry)-((((aa.getD (Int.toNat x.sec) default).rows).getD (Int.toNat (r0-1)) default).carry))<=(9223372036854775807:Int))) <|
  M.grd (decide ((-9223372036854775808:Int)<=(x.stage-((((aa.getD (Int.toNat x.sec) default).rows).getD (Int.toNat (r0-1)) default).stage)))&&decide ((x.stage-((((aa.getD (Int.toNat x.sec) default).rows).getD (Int.toNat (r0-1)) default).stage))<=(9223372036854775807:Int))) <|
  M.grd (decide ((-9223372036854775808:Int)<=((((((aa.getD (Int.toNat x.sec) default).rows).getD (Int.toNat r0) default).carry)-((((aa.getD (Int.toNat x.sec) default).rows).getD (Int.toNat (r0-1)) default).carry))*(x.stage-((((aa.getD (Int.toNat x.sec) default).rows).getD (Int.toNat (r0-1)) default).stage))))&&decide (((((((aa.getD (Int.toNat x.sec) default).rows).getD (Int.toNat r0) default).carry)-((((aa.getD (Int.toNat x.sec) default).rows).getD (Int.toNat (r0-1)) default).carry))*(x.stage-((((aa.getD (Int.toNat x.sec) default).rows).getD (Int.toNat (r0-1)) default).stage)))<=(9223372036854775807:Int))) <|
  M.grd (decide ((-9223372036854775808:Int)<=(((((aa.getD (Int.toNat x.sec) default).rows).getD (Int.toNat r0) default).stage)-((((aa.getD (Int.toNat x.sec) default).rows).getD (Int.toNat (r0-1)) default).stage)))&&decide ((((((aa.getD (Int.toNat x.sec) default).rows).getD (Int.toNat r0) default).stage)-((((aa.getD (Int.toNat x.sec) default).rows).getD (Int.toNat (r0-1)) default).stage))<=(9223372036854775807:Int))) <|
  M.grd (decide (0<=((((((aa.getD (Int.toNat x.sec) default).rows).getD (Int.toNat r0) default).carry)-((((aa.getD (Int.toNat x.sec) default).rows).getD (Int.toNat (r0-1)) default).carry))*(x.stage-((((aa.getD (Int.toNat x.sec) default).rows).getD (Int.toNat (r0-1)) default).stage))))&&decide (((((((aa.getD (Int.toNat x.sec) default).rows).getD (Int.toNat r0) default).carry)-((((aa.getD (Int.toNat x.sec) default).rows).getD (Int.toNat (r0-1)) default).carry))*(x.stage-((((aa.getD (Int.toNat x.sec) default).rows).getD (Int.toNat (r0-1)) default).stage)))<=(9223372036854775807:Int))&&decide ((0:Int)<(((((aa.getD (Int.toNat x.sec) default).rows).getD (Int.toNat r0) default).stage)-((((aa.getD (Int.toNat x.sec) default).rows).getD (Int.toNat (r0-1)) default).stage)))) <|
  M.grd (decide ((-9223372036854775808:Int)<=(((((aa.getD (Int.toNat x.sec) default).rows).getD (Int.toNat (r0-1)) default).carry)+(((((((aa.getD (Int.toNat x.sec) default).rows).getD (Int.toNat r0) default).carry)-((((aa.getD (Int.toNat x.sec) default).rows).getD (Int.toNat (r0-1)) default).carry))*(x.stage-((((aa.getD (Int.toNat x.sec) default).rows).getD (Int.toNat (r0-1)) default).stage))) / (((((aa.getD (Int.toNat x.sec) default).rows).getD (Int.toNat r0) default).stage)-((((aa.getD (Int.toNat x.sec) default).rows).getD (Int.toNat (r0-1)) default).stage)))))&&decide ((((((aa.getD (Int.toNat x.sec) default).rows).getD (Int.toNat (r0-1)) default).carry)+(((((((aa.getD (Int.toNat x.sec) default).rows).getD (Int.toNat r0) default).carry)-((((aa.getD (Int.toNat x.sec) default).rows).getD (Int.toNat (r0-1)) default).carry))*(x.stage-((((aa.getD (Int.toNat x.sec) default).rows).getD (Int.toNat (r0-1)) default).stage))) / (((((aa.getD (Int.toNat x.sec) default).rows).getD (Int.toNat r0) default).stage)-((((aa.getD (Int.toNat x.sec) default).rows).getD (Int.toNat (r0-1)) default).stage))))<=(9223372036854775807:Int))) <|
  M.pure (((((aa.getD (Int.toNat x.sec) default).rows).getD (Int.toNat (r0-1)) default).carry)+(((((((aa.getD (Int.toNat x.sec) default).rows).getD (Int.toNat r0) default).carry)-((((aa.getD (Int.toNat x.sec) default).rows).getD (Int.toNat (r0-1)) default).carry))*(x.stage-((((aa.getD (Int.toNat x.sec) default).rows).getD (Int.toNat (r0-1)) default).stage))) / (((((aa.getD (Int.toNat x.sec) default).rows).getD (Int.toNat r0) default).stage)-((((aa.getD (Int.toNat x.sec) default).rows).getD (Int.toNat (r0-1)) default).stage)))))
  else (
  M.pure 0)))
theorem zdM {R:List Chunk} {aA:Nat} {aB:Cells} {aC:Value} {aD:Cells} {aE:Value} {aF:Cells} {aG:Value} {ah:Nat} (aa:List Sect) (ap:List Mrk) (aq:List Rch) (x:Spot) (aH:Reads R aB) (aL:Sl aB aC aa) (aP:Reads R aD) (aQ:Sl aD aE ap) (aR:Reads R aF) (aS:Sl aF aG aq) (aT:Has R (cBlk aA [aC,aE,aG,.map (some ah)] 117)) {r:Int} (hM:(zaa aa ap aq x).Ends r) (w:World) (H:St w w [cMemI encSpt ah (zaa aa ap aq)] R):Ret Tryz.prog 43 #[Pq aA,.agg #[I x.sec,I x.stage]] w fun v w'=>∃ (y0:Int),y0=r/\v=I y0/\St w w' [cMemI encSpt ah (zaa aa ap aq)] R:=by
 refine ret_of_W Tryz.func43 rfl rfl rfl ?_
 have hM0:=hM
 obtain ⟨ae,H,aj⟩:=St.memOpenI H (i:=0) rfl
 replace H:=H.nf
 cases au:ae x with
 | none =>
  refine kg 2 ?_;refine t_bx [I x.sec,I x.stage] H rfl ?_;intro ag aU H;refine kg 4 ?_;refine W.draw (fun W=>St w W [cBlk ag [I x.sec,I x.stage] 120] R) [(0,true),(1,true),(2,true),(3,true),(4,true),(5,false),(6,true),(7,true),(8,true),(9,true),(10,true)] mixed (by decide +kernel) rfl ?_;intro aV ac;replace H:=H.ext ac;clear ac
  refine ⟨(H.pk [0]),?_⟩
  refine kg 5 ?_;refine d_l rfl<|s_val (q_look (kenc:=encSpt) (venc:=I) (f:=ae) (k:=x) (z:=I 0) (v:=.tuple #[I 0,B false]) keySpot Tryz.underlying115 Al3 rfl rfl (H.get (k:=1) rfl) true (by simp [au])) ?_
  refine s_nil ⟨(H.pk [0]),?_⟩
  refine kg 10 ?_
  refine W.cond false rfl (fun aI=>?_) (fun aI=>?_)
  ·skip
   exact absurd aI (by decide)
  skip
  refine kg 2 ?_;refine W.draw (fun W=>St w W [cBlk ag [I x.sec,I x.stage] 120,cMap encSpt I ah ae] R) [(0,true),(1,true),(2,true),(3,true),(4,true),(5,true),(6,true),(7,true),(8,true),(9,true),(10,true)] mixed (by decide +kernel) rfl ?_;intro aW ac;replace H:=H.ext ac;clear ac
  refine ⟨(H.pk [0,1]),?_⟩
  obtain ⟨aX,hM⟩:=M.e_gd hM;refine kg 9 ?_
  obtain ⟨av,aM,am⟩:=Sect_at1 aL (i:=x.sec) (by omega) (by omega)
  replace am:Sl _ av (aa.getD (Int.toNat x.sec) default).rows:=am
  have aY:=am.len_le
  refine d_q rfl (fun w' H=>x_ld (v:=av) rfl (ld_sc Sc74 (At.mono (aM) (aH.at H)))) ?_;refine kg 7 ?_;obtain ⟨aZ,aN,hM⟩:=M.e_bind hM;refine s_call cf79 [av,I x.stage,.func (.func 80) #[] #[]] rfl (zfe ((aa.getD (Int.toNat x.sec) default).rows) x.stage (aH.app _) am aN _ (H.gt 2)) ?_
  rintro vq a7 ⟨r0,r1,rfl,hvq,aJ⟩
  subst vq;(try dsimp only at hM);replace H:=H.bk aJ;clear aJ;refine kg 17 ?_
  refine W.cond r1 rfl (fun ax=>?_) (fun ax=>?_)
  ·replace hM:=M.e_t hM ax;obtain ⟨a8,hM⟩:=M.e_gd hM;refine kg 9 ?_;refine W.draw (fun W=>St w W [cBlk ag [I x.sec,I x.stage] 120] R) [(0,true),(1,true),(2,true),(3,true),(4,true),(5,true),(6,false)] mixed (by decide +kernel) rfl ?_;intro ba ac;replace H:=H.ext ac;clear ac
   refine ⟨(H.pk [0]),?_⟩
   refine kg 6 ?_;refine d_l rfl ?_;refine t_mapu (i:=1) (kenc:=encSpt) (venc:=I) (f:=ae) (k:=x) (v:=(((aa.getD (Int.toNat x.sec) default).rows).getD (Int.toNat r0) default).carry) (L':=[cBlk ag [I x.sec,I x.stage] 120,cMap encSpt I ah (updF ae x ((((aa.getD (Int.toNat x.sec) default).rows).getD (Int.toNat r0) default).carry))]) keySpot Tryz.underlying115 H rfl rfl rfl rfl rfl ?_;intro bb H
   refine s_nil ⟨(H.pk [0]),?_⟩
   refine kg 6 ?_;refine W.ret ?_
   replace H:=St.memShutI H (i:=1) rfl (memIput aj (by rw [M.e_pure hM]; exact hM0))
   replace H:=H.nf
   have ai:=M.e_pure hM
   exact ⟨_,resE_tmp rfl,⟨((((aa.getD (Int.toNat x.sec) default).rows).getD (Int.toNat r0) default).carry),ai,rfl,(H.pk [1])⟩⟩
  replace hM:=M.e_f hM ax
  have bc:=(am).len_le
  refine kg 8 ?_
  refine W.cond (r0==(((aa.getD (Int.toNat x.sec) default).rows).length:Int)) rfl (fun ak=>?_) (fun ak=>?_)
  ·replace hM:=M.e_t hM ak
   replace ak:=dI ak
   obtain ⟨bf,hM⟩:=M.e_gd hM;obtain ⟨bg,hM⟩:=M.e_gd hM;refine kg 10 ?_;refine W.draw (fun W=>St w W [cBlk ag [I x.sec,I x.stage] 120] R) [(0,true),(1,true),(2,true),(3,true),(4,true),(5,true),(6,false)] mixed (by decide +kernel) rfl ?_;intro bh ac;replace H:=H.ext ac;clear ac
   refine ⟨(H.pk [0]),?_⟩
   refine kg 6 ?_;refine d_l rfl ?_;refine t_mapu (i:=1) (kenc:=encSpt) (venc:=I) (f:=ae) (k:=x) (v:=(((aa.getD (Int.toNat x.sec) default).rows).getD (Int.toNat (r0-1)) default).carry) (L':=[cBlk ag [I x.sec,I x.stage] 120,cMap encSpt I ah (updF ae x ((((aa.getD (Int.toNat x.sec) default).rows).getD (Int.toNat (r0-1)) default).carry))]) keySpot Tryz.underlying115 H rfl rfl rfl rfl rfl ?_;intro bi H
   refine s_nil ⟨(H.pk [0]),?_⟩
   refine kg 6 ?_;refine W.ret ?_
   replace H:=St.memShutI H (i:=1) rfl (memIput aj (by rw [M.e_pure hM]; exact hM0))
   replace H:=H.nf
   have ai:=M.e_pure hM
   exact ⟨_,resE_tmp rfl,⟨((((aa.getD (Int.toNat x.sec) default).rows).getD (Int.toNat (r0-1)) default).carry),ai,rfl,(H.pk [1])⟩⟩
  replace hM:=M.e_f hM ak
  replace ak:=dI ak
  refine kg 6 ?_
  refine W.cond (decide (0<r0)) rfl (fun al=>?_) (fun al=>?_)
  ·replace hM:=M.e_t hM al
   replace al:=dI al
   refine W.seq ?_;refine W.drawT (fun W=>St w W [cBlk ag [I x.sec,I x.stage] 120,cMap encSpt I ah ae] R) (.q 0 (.q 1 (.q 2 (.q 3 (.q 4 (.q 5 (.q 6 (.q 7 (.q 8 (.l2 9 (.l 10 (.l 11 (.l 12 .nil))) 10 (.l 9 (.l 11 (.l 12 .nil))))))))))))) mixed (by decide +kernel) rfl ?_;intro bj ac;replace H:=H.ext ac;clear ac
   refine ⟨(H.pk [0,1]),?_⟩
   obtain ⟨bm,hM⟩:=M.e_gd hM;obtain ⟨bn,hM⟩:=M.e_gd hM;obtain ⟨bo,hM⟩:=M.e_gd hM;refine kg 9 ?_;refine t_l2 rfl rfl ?_ ?_
   ·skip
    refine t_alloc (cs:=[I 0,I 0]) H Al78 rfl ?_;intro ay bp H
    refine s_nil ⟨(H.pk [1,2]),?_⟩
    refine t_l rfl ?_;refine t_alloc (cs:=[I 0,I 0]) H Al78 rfl ?_;intro az br H
    refine s_nil ⟨(H.pk [2,3]),?_⟩
    refine t_l rfl ?_;refine t_sw 1 0 [I ((((aa.getD (Int.toNat x.sec) default).rows).getD (Int.toNat (r0-1)) default).stage),I ((((aa.getD (Int.toNat x.sec) default).rows).getD (Int.toNat (r0-1)) default).carry)] (.agg #[I ((((aa.getD (Int.toNat x.sec) default).rows).getD (Int.toNat (r0-1)) default).stage),I ((((aa.getD (Int.toNat x.sec) default).rows).getD (Int.toNat (r0-1)) default).carry)]) H rfl rfl Sz78 rfl rfl rfl rfl ?_;intro bt H
    refine s_nil ⟨(H.pk [2,3]),?_⟩
    refine t_l rfl ?_;refine t_sw 0 0 [I ((((aa.getD (Int.toNat x.sec) default).rows).getD (Int.toNat r0) default).stage),I ((((aa.getD (Int.toNat x.sec) default).rows).getD (Int.toNat r0) default).carry)] (.agg #[I ((((aa.getD (Int.toNat x.sec) default).rows).getD (Int.toNat r0) default).stage),I ((((aa.getD (Int.toNat x.sec) default).rows).getD (Int.toNat r0) default).carry)]) H rfl rfl Sz78 rfl rfl rfl rfl ?_;intro bu H
    refine s_nil ⟨(H.pk [2,3]),?_⟩
    refine t_nil ?_;refine W.draw (fun W=>St w W [cBlk az [I ((((aa.getD (Int.toNat x.sec) default).rows).getD (Int.toNat r0) default).stage),I ((((aa.getD (Int.toNat x.sec) default).rows).getD (Int.toNat r0) default).carry)] 78,cBlk ay [I ((((aa.getD (Int.toNat x.sec) default).rows).getD (Int.toNat (r0-1)) default).stage),I ((((aa.getD (Int.toNat x.sec) default).rows).getD (Int.toNat (r0-1)) default).carry)] 78,cBlk ag [I x.sec,I x.stage] 120,cMap encSpt I ah ae] R) [(0,true),(1,true),(2,true),(3,true),(4,true),(5,true),(6,true),(7,true),(8,true),(9,true),(10,true),(11,true),(12,true),(13,true),(14,true),(15,true),(16,true),(17,true),(18,true),(19,true),(20,true)] mixed (by decide +kernel) rfl ?_;intro bv ac;replace H:=H.ext ac;clear ac
    refine ⟨(H.pk [0,1,2,3]),?_⟩
    obtain ⟨bw,hM⟩:=M.e_gd hM;obtain ⟨bx,hM⟩:=M.e_gd hM;obtain ⟨bz,hM⟩:=M.e_gd hM;obtain ⟨bA,hM⟩:=M.e_gd hM;obtain ⟨bB,hM⟩:=M.e_gd hM;obtain ⟨bC,hM⟩:=M.e_gd hM;refine kg 22 ?_;replace H:=H.pk [2,3];refine W.seq ?_;refine W.draw (fun W=>St w W [cBlk ag [I x.sec,I x.stage] 120] R) [(0,true),(1,true),(2,true),(3,true),(4,true),(5,true),(6,false)] mixed (by decide +kernel) rfl ?_;intro bD ac;replace H:=H.ext ac;clear ac
    refine ⟨(H.pk [0]),?_⟩
    refine kg 6 ?_;refine d_l rfl ?_;refine t_mapu (i:=1) (kenc:=encSpt) (venc:=I) (f:=ae) (k:=x) (v:=((((aa.getD (Int.toNat x.sec) default).rows).getD (Int.toNat (r0-1)) default).carry)+(((((((aa.getD (Int.toNat x.sec) default).rows).getD (Int.toNat r0) default).carry)-((((aa.getD (Int.toNat x.sec) default).rows).getD (Int.toNat (r0-1)) default).carry))*(x.stage-((((aa.getD (Int.toNat x.sec) default).rows).getD (Int.toNat (r0-1)) default).stage))) / (((((aa.getD (Int.toNat x.sec) default).rows).getD (Int.toNat r0) default).stage)-((((aa.getD (Int.toNat x.sec) default).rows).getD (Int.toNat (r0-1)) default).stage)))) (L':=[cBlk ag [I x.sec,I x.stage] 120,cMap encSpt I ah (updF ae x (((((aa.getD (Int.toNat x.sec) default).rows).getD (Int.toNat (r0-1)) default).carry)+(((((((aa.getD (Int.toNat x.sec) default).rows).getD (Int.toNat r0) default).carry)-((((aa.getD (Int.toNat x.sec) default).rows).getD (Int.toNat (r0-1)) default).carry))*(x.stage-((((aa.getD (Int.toNat x.sec) default).rows).getD (Int.toNat (r0-1)) default).stage))) / (((((aa.getD (Int.toNat x.sec) default).rows).getD (Int.toNat r0) default).stage)-((((aa.getD (Int.toNat x.sec) default).rows).getD (Int.toNat (r0-1)) default).stage)))))]) keySpot Tryz.underlying115 H rfl rfl rfl rfl rfl ?_;intro bE H
    refine s_nil ⟨(H.pk [0]),?_⟩
    refine kg 6 ?_;refine W.ret ?_
    replace H:=St.memShutI H (i:=1) rfl (memIput aj (by rw [M.e_pure hM]; exact hM0))
    replace H:=H.nf
    have ai:=M.e_pure hM
    exact ⟨_,resE_tmp rfl,⟨(((((aa.getD (Int.toNat x.sec) default).rows).getD (Int.toNat (r0-1)) default).carry)+(((((((aa.getD (Int.toNat x.sec) default).rows).getD (Int.toNat r0) default).carry)-((((aa.getD (Int.toNat x.sec) default).rows).getD (Int.toNat (r0-1)) default).carry))*(x.stage-((((aa.getD (Int.toNat x.sec) default).rows).getD (Int.toNat (r0-1)) default).stage))) / (((((aa.getD (Int.toNat x.sec) default).rows).getD (Int.toNat r0) default).stage)-((((aa.getD (Int.toNat x.sec) default).rows).getD (Int.toNat (r0-1)) default).stage)))),ai,rfl,(H.pk [1])⟩⟩
   skip
   refine t_alloc (cs:=[I 0,I 0]) H Al78 rfl ?_;intro az bF H
   refine s_nil ⟨(H.pk [1,2]),?_⟩
   refine t_l rfl ?_;refine t_alloc (cs:=[I 0,I 0]) H Al78 rfl ?_;intro ay bG H
   refine s_nil ⟨(H.pk [2,3]),?_⟩
   refine t_l rfl ?_;refine t_sw 0 0 [I ((((aa.getD (Int.toNat x.sec) default).rows).getD (Int.toNat (r0-1)) default).stage),I ((((aa.getD (Int.toNat x.sec) default).rows).getD (Int.toNat (r0-1)) default).carry)] (.agg #[I ((((aa.getD (Int.toNat x.sec) default).rows).getD (Int.toNat (r0-1)) default).stage),I ((((aa.getD (Int.toNat x.sec) default).rows).getD (Int.toNat (r0-1)) default).carry)]) H rfl rfl Sz78 rfl rfl rfl rfl ?_;intro bH H
   refine s_nil ⟨(H.pk [2,3]),?_⟩
   refine t_l rfl ?_;refine t_sw 1 0 [I ((((aa.getD (Int.toNat x.sec) default).rows).getD (Int.toNat r0) default).stage),I ((((aa.getD (Int.toNat x.sec) default).rows).getD (Int.toNat r0) default).carry)] (.agg #[I ((((aa.getD (Int.toNat x.sec) default).rows).getD (Int.toNat r0) default).stage),I ((((aa.getD (Int.toNat x.sec) default).rows).getD (Int.toNat r0) default).carry)]) H rfl rfl Sz78 rfl rfl rfl rfl ?_;intro bI H
   refine s_nil ⟨(H.pk [2,3]),?_⟩
   refine t_nil ?_;refine W.draw (fun W=>St w W [cBlk ay [I ((((aa.getD (Int.toNat x.sec) default).rows).getD (Int.toNat (r0-1)) default).stage),I ((((aa.getD (Int.toNat x.sec) default).rows).getD (Int.toNat (r0-1)) default).carry)] 78,cBlk az [I ((((aa.getD (Int.toNat x.sec) default).rows).getD (Int.toNat r0) default).stage),I ((((aa.getD (Int.toNat x.sec) default).rows).getD (Int.toNat r0) default).carry)] 78,cBlk ag [I x.sec,I x.stage] 120,cMap encSpt I ah ae] R) [(0,true),(1,true),(2,true),(3,true),(4,true),(5,true),(6,true),(7,true),(8,true),(9,true),(10,true),(11,true),(12,true),(13,true),(14,true),(15,true),(16,true),(17,true),(18,true),(19,true),(20,true)] mixed (by decide +kernel) rfl ?_;intro bJ ac;replace H:=H.ext ac;clear ac
   refine ⟨(H.pk [0,1,2,3]),?_⟩
   obtain ⟨bK,hM⟩:=M.e_gd hM;obtain ⟨bL,hM⟩:=M.e_gd hM;obtain ⟨bN,hM⟩:=M.e_gd hM;obtain ⟨bO,hM⟩:=M.e_gd hM;obtain ⟨bP,hM⟩:=M.e_gd hM;obtain ⟨bQ,hM⟩:=M.e_gd hM;refine kg 22 ?_;replace H:=H.pk [2,3];refine W.seq ?_;refine W.draw (fun W=>St w W [cBlk ag [I x.sec,I x.stage] 120] R) [(0,true),(1,true),(2,true),(3,true),(4,true),(5,true),(6,false)] mixed (by decide +kernel) rfl ?_;intro bR ac;replace H:=H.ext ac;clear ac
   refine ⟨(H.pk [0]),?_⟩
   refine kg 6 ?_;refine d_l rfl ?_;refine t_mapu (i:=1) (kenc:=encSpt) (venc:=I) (f:=ae) (k:=x) (v:=((((aa.getD (Int.toNat x.sec) default).rows).getD (Int.toNat (r0-1)) default).carry)+(((((((aa.getD (Int.toNat x.sec) default).rows).getD (Int.toNat r0) default).carry)-((((aa.getD (Int.toNat x.sec) default).rows).getD (Int.toNat (r0-1)) default).carry))*(x.stage-((((aa.getD (Int.toNat x.sec) default).rows).getD (Int.toNat (r0-1)) default).stage))) / (((((aa.getD (Int.toNat x.sec) default).rows).getD (Int.toNat r0) default).stage)-((((aa.getD (Int.toNat x.sec) default).rows).getD (Int.toNat (r0-1)) default).stage)))) (L':=[cBlk ag [I x.sec,I x.stage] 120,cMap encSpt I ah (updF ae x (((((aa.getD (Int.toNat x.sec) default).rows).getD (Int.toNat (r0-1)) default).carry)+(((((((aa.getD (Int.toNat x.sec) default).rows).getD (Int.toNat r0) default).carry)-((((aa.getD (Int.toNat x.sec) default).rows).getD (Int.toNat (r0-1)) default).carry))*(x.stage-((((aa.getD (Int.toNat x.sec) default).rows).getD (Int.toNat (r0-1)) default).stage))) / (((((aa.getD (Int.toNat x.sec) default).rows).getD (Int.toNat r0) default).stage)-((((aa.getD (Int.toNat x.sec) default).rows).getD (Int.toNat (r0-1)) default).stage)))))]) keySpot Tryz.underlying115 H rfl rfl rfl rfl rfl ?_;intro bS H
   refine s_nil ⟨(H.pk [0]),?_⟩
   refine kg 6 ?_;refine W.ret ?_
   replace H:=St.memShutI H (i:=1) rfl (memIput aj (by rw [M.e_pure hM]; exact hM0))
   replace H:=H.nf
   have ai:=M.e_pure hM
   exact ⟨_,resE_tmp rfl,⟨(((((aa.getD (Int.toNat x.sec) default).rows).getD (Int.toNat (r0-1)) default).carry)+(((((((aa.getD (Int.toNat x.sec) default).rows).getD (Int.toNat r0) default).carry)-((((aa.getD (Int.toNat x.sec) default).rows).getD (Int.toNat (r0-1)) default).carry))*(x.stage-((((aa.getD (Int.toNat x.sec) default).rows).getD (Int.toNat (r0-1)) default).stage))) / (((((aa.getD (Int.toNat x.sec) default).rows).getD (Int.toNat r0) default).stage)-((((aa.getD (Int.toNat x.sec) default).rows).getD (Int.toNat (r0-1)) default).stage)))),ai,rfl,(H.pk [1])⟩⟩
  replace hM:=M.e_f hM al
  replace al:=dI al
  refine kg 2 ?_;refine W.draw (fun W=>St w W [cBlk ag [I x.sec,I x.stage] 120] R) [(0,true),(1,true),(2,true),(3,true),(4,true),(5,true),(6,false)] mixed (by decide +kernel) rfl ?_;intro bT ac;replace H:=H.ext ac;clear ac
  refine ⟨(H.pk [0]),?_⟩
  refine kg 6 ?_;refine d_l rfl ?_;refine t_mapu (i:=1) (kenc:=encSpt) (venc:=I) (f:=ae) (k:=x) (v:=0) (L':=[cBlk ag [I x.sec,I x.stage] 120,cMap encSpt I ah (updF ae x 0)]) keySpot Tryz.underlying115 H rfl rfl rfl rfl rfl ?_;intro bU H
  refine s_nil ⟨(H.pk [0]),?_⟩
  refine kg 6 ?_;refine W.ret ?_
  replace H:=St.memShutI H (i:=1) rfl (memIput aj (by rw [M.e_pure hM]; exact hM0))
  replace H:=H.nf
  have ai:=M.e_pure hM
  exact ⟨_,resE_tmp rfl,⟨0,ai,rfl,(H.pk [1])⟩⟩
 | some ao =>
  have aO:=M.Ends.det (aj x ao au) hM0
  subst aO
  replace hM:(M.pure ao).Ends ao:=M.i_pure
  refine kg 2 ?_;refine t_bx [I x.sec,I x.stage] H rfl ?_;intro ag bV H;refine kg 4 ?_;refine W.draw (fun W=>St w W [cBlk ag [I x.sec,I x.stage] 120] R) [(0,true),(1,true),(2,true),(3,true),(4,true),(5,false),(6,true),(7,true),(8,true),(9,true),(10,true)] mixed (by decide +kernel) rfl ?_;intro bW ac;replace H:=H.ext ac;clear ac
  refine ⟨(H.pk [0]),?_⟩
  refine kg 5 ?_;refine d_l rfl<|s_val (q_look (kenc:=encSpt) (venc:=I) (f:=ae) (k:=x) (z:=I 0) (v:=.tuple #[I ao,B true]) keySpot Tryz.underlying115 Al3 rfl rfl (H.get (k:=1) rfl) true (by simp [au])) ?_
  refine s_nil ⟨(H.pk [0]),?_⟩
  refine kg 10 ?_
  refine W.cond true rfl (fun aK=>?_) (fun aK=>?_)
  ·skip
   refine kg 5 ?_;refine W.ret ?_
   replace H:=St.memShutI H (i:=1) rfl aj
   replace H:=H.nf
   have ai:=M.e_pure hM
   exact ⟨_,resE_tmp rfl,⟨ao,ai,rfl,(H.pk [1])⟩⟩
  skip
  exact absurd aK (by decide)

def zcy (n:Int):(Int × Int)->M ((Int × Int) ⊕ Int):=fun (low,high) =>
  bif decide (low<high) then (
  M.grd (decide ((-9223372036854775808:Int)<=(high-low))&&decide ((high-low)<=(9223372036854775807:Int))) <|
  M.grd (decide ((-9223372036854775808:Int)<=((high-low)+1))&&decide (((high-low)+1)<=(9223372036854775807:Int))) <|
  M.grd (decide (0<=((high-low)+1))&&decide (((high-low)+1)<=(9223372036854775807:Int))&&decide ((0:Int)<2)) <|
  M.grd (decide ((-9223372036854775808:Int)<=(low+(((high-low)+1) / 2)))&&decide ((low+(((high-low)+1) / 2))<=(9223372036854775807:Int))) <|
  M.grd (decide ((-9223372036854775808:Int)<=((low+(((high-low)+1) / 2))*(low+(((high-low)+1) / 2))))&&decide (((low+(((high-low)+1) / 2))*(low+(((high-low)+1) / 2)))<=(9223372036854775807:Int))) <|
  bif decide (((low+(((high-low)+1) / 2))*(low+(((high-low)+1) / 2)))<=n) then (
  M.pure (.inl (low+(((high-low)+1) / 2),high)))
  else (
  M.grd (decide ((-9223372036854775808:Int)<=((low+(((high-low)+1) / 2))-1))&&decide (((low+(((high-low)+1) / 2))-1)<=(9223372036854775807:Int))) <|
  M.pure (.inl (low,(low+(((high-low)+1) / 2))-1))))
  else (
  M.pure (.inr low))
def zca (n:Int):M Int :=
  M.bind (M.iter (zcy n) (0,2147483648)) fun low2 =>
  M.pure low2
theorem zeM {R:List Chunk}  (n:Int)  {r:Int} (hM:(zca n).Ends r) (w:World) (H:St w w [] R):Ret Tryz.prog 44 #[I n] w fun v w'=>∃ (y0:Int),y0=r/\v=I y0/\St w w' [] R:=by
 refine ret_of_W Tryz.func44 rfl rfl rfl ?_;refine kg 11 ?_;obtain ⟨ak,ae,al⟩:=M.e_bind hM
 obtain ⟨ap,ae⟩:=M.e_iter ae
 refine W.loop (fun m σ W=>∃ (low:Int) (high:Int) (ρ:Env),σ=upds ρ [(0,I n),(3,I low),(4,I high)]/\M.iterN (zcy n) m (low,high)=some ak/\St w W [] R) ?_ ?_
 ·exact ⟨_,0,2147483648,_,upds_of _ _ ⟨rfl,rfl,rfl,trivial⟩,ae,H⟩
 rintro aq σ au ⟨low,high,ρ,rfl,ah,H⟩
 obtain ⟨ai,aj,av,hM,ag⟩:=M.e_iterN ah
 simp only [zcy] at hM
 clear ah;refine kg 7 ?_
 refine W.cond (decide (low<high)) rfl (fun aa=>?_) (fun aa=>?_)
 ·replace hM:=M.e_t hM aa
  replace aa:=dI aa
  obtain ⟨ax,hM⟩:=M.e_gd hM;obtain ⟨ay,hM⟩:=M.e_gd hM;obtain ⟨az,hM⟩:=M.e_gd hM;obtain ⟨aA,hM⟩:=M.e_gd hM;obtain ⟨aB,hM⟩:=M.e_gd hM;refine kg 21 ?_
  refine W.cond (decide (((low+(((high-low)+1) / 2))*(low+(((high-low)+1) / 2)))<=n)) rfl (fun ac=>?_) (fun ac=>?_)
  ·replace hM:=M.e_t hM ac
   replace ac:=dI ac
   refine kg 4 ?_
   exact ⟨ai,aj,low+(((high-low)+1) / 2),high,_,upds_of _ _ ⟨rfl,rfl,rfl,trivial⟩,M.e_inl hM ag,H⟩
  replace hM:=M.e_f hM ac
  replace ac:=dI ac
  obtain ⟨aC,hM⟩:=M.e_gd hM;refine kg 5 ?_
  exact ⟨ai,aj,low,(low+(((high-low)+1) / 2))-1,_,upds_of _ _ ⟨rfl,rfl,rfl,trivial⟩,M.e_inl hM ag,H⟩
 replace hM:=M.e_f hM aa
 replace aa:=dI aa
 refine W.exit ?_
 have am:=M.e_inr hM ag
 subst am;replace hM:=al;(try dsimp only at hM);refine kg 5 ?_;refine W.ret ?_
 have ao:=M.e_pure hM
 exact ⟨_,resE_tmp rfl,⟨low,ao,rfl,H⟩⟩

def zaH (aa:List Sect) (ac:List Mrk) (ae:List Rch) (r_:Rch) (c:Cas) (r3 s a:Int):M Int :=
  M.grd (decide ((0:Int)<=r_.down)&&decide (r_.down<(aa.length:Int))) <|
  M.grd (decide ((0:Int)<=r_.up)&&decide (r_.up<(aa.length:Int))) <|
  M.grd (decide ((-9223372036854775808:Int)<=(((aa.getD (Int.toNat r_.down) default).place)-((aa.getD (Int.toNat r_.up) default).place)))&&decide ((((aa.getD (Int.toNat r_.down) default).place)-((aa.getD (Int.toNat r_.up) default).place))<=(9223372036854775807:Int))) <|
  M.grd (decide ((-9223372036854775808:Int)<=(10000*a))&&decide ((10000*a)<=(9223372036854775807:Int))) <|
  M.grd (decide ((-9223372036854775808:Int)<=((10000*a)*r3))&&decide (((10000*a)*r3)<=(9223372036854775807:Int))) <|
  M.grd (decide ((-9223372036854775808:Int)<=(c.up-c.down))&&decide ((c.up-c.down)<=(9223372036854775807:Int))) <|
  M.grd (decide ((-9223372036854775808:Int)<=(((10000*a)*r3)*(c.up-c.down)))&&decide ((((10000*a)*r3)*(c.up-c.down))<=(9223372036854775807:Int))) <|
  M.grd (decide ((-9223372036854775808:Int)<=(s*c.roughdown))&&decide ((s*c.roughdown)<=(9223372036854775807:Int))) <|
  M.grd (decide ((-9223372036854775808:Int)<=((s*c.roughdown)*(((aa.getD (Int.toNat r_.down) default).place)-((aa.getD (Int.toNat r_.up) default).place))))&&decide (((s*c.roughdown)*(((aa.getD (Int.toNat r_.down) default).place)-((aa.getD (Int.toNat r_.up) default).place)))<=(9223372036854775807:Int))) <|
  M.grd (decide (0<=(((10000*a)*r3)*(c.up-c.down)))&&decide ((((10000*a)*r3)*(c.up-c.down))<=(9223372036854775807:Int))&&decide ((0:Int)<((s*c.roughdown)*(((aa.getD (Int.toNat r_.down) default).place)-((aa.getD (Int.toNat r_.up) default).place))))) <|
  M.bind (zca ((((10000*a)*r3)*(c.up-c.down)) / ((s*c.roughdown)*(((aa.getD (Int.toNat r_.down) default).place)-((aa.getD (Int.toNat r_.up) default).place))))) fun r4 =>
  M.pure r4
def zaK (aa:List Sect) (ac:List Mrk) (ae:List Rch) (r_:Rch) (c:Cas):M Int :=
  M.bind (zaa aa ac ae (⟨(r_.up:Int),(c.up:Int)⟩:Spot)) fun r2 =>
  M.bind (zaa aa ac ae (⟨(r_.down:Int),(c.down:Int)⟩:Spot)) fun r3 =>
  bif r_.narrow then (
  zaH aa ac ae r_ c r3 c.roughdown r3)
  else (
  zaH aa ac ae r_ c r3 c.roughup r2)
theorem zdi {R:List Chunk} {aj:Nat} {ao:Cells} {ap:Value} {aq:Cells} {au:Value} {av:Cells} {ax:Value} {ai:Nat} (aa:List Sect) (ac:List Mrk) (ae:List Rch) (r_:Rch) (c:Cas) (ay:Reads R ao) (az:Sl ao ap aa) (aA:Reads R aq) (aB:Sl aq au ac) (aC:Reads R av) (aD:Sl av ax ae) (aE:Has R (cBlk aj [ap,au,ax,.map (some ai)] 117)) {r:Int} (hM:(zaK aa ac ae r_ c).Ends r) (w:World) (H:St w w [cMemI encSpt ai (zaa aa ac ae)] R):Ret Tryz.prog 22 #[Pq aj,.agg #[I r_.up,I r_.down,I r_.lo,I r_.hi,B r_.narrow],.agg #[I c.up,I c.down,I c.roughup,I c.roughdown]] w fun v w'=>∃ (y0:Int),y0=r/\v=I y0/\St w w' [cMemI encSpt ai (zaa aa ac ae)] R:=by
 refine ret_of_W Tryz.func22 rfl rfl rfl ?_;refine kg 2 ?_;refine t_bx [I r_.up,I r_.down,I r_.lo,I r_.hi,B r_.narrow] H rfl ?_;intro ak aJ H;refine t_bx [I c.up,I c.down,I c.roughup,I c.roughdown] H rfl ?_;intro al aK H;refine kg 3 ?_;refine W.draw (fun W=>St w W [cBlk al [I c.up,I c.down,I c.roughup,I c.roughdown] 43,cBlk ak [I r_.up,I r_.down,I r_.lo,I r_.hi,B r_.narrow] 38] R) [(0,true),(1,true),(2,true),(3,true),(4,true),(5,true),(7,true),(8,true),(9,true),(10,true),(11,true),(12,true),(6,false),(13,false),(14,true),(15,true)] mixed (by decide +kernel) rfl ?_;intro aL ag;replace H:=H.ext ag;clear ag
 refine ⟨(H.pk [0,1]),?_⟩
 refine kg 5 ?_;refine d_q rfl (fun w' H=>x_bld (ps:=[(0,I r_.up),(1,I c.up)]) (zs:=[I 0,I 0]) (L':=[I r_.up,I c.up]) rfl Tryz.underlying120 Al120 rfl (Bd120 Tryz.underlying120) (.cons (cs:=[I r_.up]) rfl rfl rfl rfl rfl<|.cons (cs:=[I c.up]) rfl rfl rfl rfl rfl<|.nil)) ?_;refine kg 5 ?_;refine d_q rfl (fun w' H=>x_bld (ps:=[(0,I r_.down),(1,I c.down)]) (zs:=[I 0,I 0]) (L':=[I r_.down,I c.down]) rfl Tryz.underlying120 Al120 rfl (Bd120 Tryz.underlying120) (.cons (cs:=[I r_.down]) rfl rfl rfl rfl rfl<|.cons (cs:=[I c.down]) rfl rfl rfl rfl rfl<|.nil))<|d_l rfl ?_;obtain ⟨aM,aF,hM⟩:=M.e_bind hM;refine s_call cf43 [Pq aj,.agg #[I r_.up,I c.up]] rfl (zdM aa ac ae (⟨(r_.up:Int),(c.up:Int)⟩:Spot) (ay.app _) az (aA.app _) aB (aC.app _) aD (aE.app _) aF _ ((H.pk [2,0,1]).gt 2)) ?_
 rintro vq aN ⟨r2,rfl,hvq,ah⟩
 subst vq;(try dsimp only at hM)
 replace H:=H.pk [2,0,1] |>.bk ah
 clear ah
 refine s_nil ⟨(H.pk [1,2]),?_⟩
 refine d_l rfl ?_;obtain ⟨aO,aG,hM⟩:=M.e_bind hM;refine s_call cf43 [Pq aj,.agg #[I r_.down,I c.down]] rfl (zdM aa ac ae (⟨(r_.down:Int),(c.down:Int)⟩:Spot) (ay.app _) az (aA.app _) aB (aC.app _) aD (aE.app _) aG _ (H.gt 2)) ?_
 rintro vq aP ⟨r3,rfl,hvq,ah⟩
 subst vq;(try dsimp only at hM);replace H:=H.bk ah;clear ah
 refine s_nil ⟨(H.pk [1,2]),?_⟩
 refine kg 3 ?_;refine W.seqJ (fun σ W=>∃ (s:Int) (a:Int) (ρ:Env),σ=upds ρ [(0,Pq aj),(4,Pq ak),(5,Pq al),(7,I a),(8,I r3)]/\(zaH aa ac ae r_ c r3 s a).Ends r/\St w W [cMemI encSpt ai (zaa aa ac ae),cBlk al [I c.up,I c.down,I s,I c.roughdown] 43,cBlk ak [I r_.up,I r_.down,I r_.lo,I r_.hi,B r_.narrow] 38] R) ?_ ?_
 ·skip
  refine kg 5 ?_
  refine W.cond r_.narrow rfl (fun am=>?_) (fun am=>?_)
  ·replace hM:=M.e_t hM am;refine W.draw (fun W=>St w W [cMemI encSpt ai (zaa aa ac ae),cBlk ak [I r_.up,I r_.down,I r_.lo,I r_.hi,B r_.narrow] 38] R) [(0,true),(1,true),(3,true),(2,false),(4,true),(5,false)] mixed (by decide +kernel) rfl ?_;intro aQ ag;replace H:=H.ext ag;clear ag
   refine ⟨(H.pk [0,2]),?_⟩
   refine kg 3 ?_;refine d_l rfl ?_;refine kg 1 ?_
   refine s_nil ⟨(H.pk [0,2]),?_⟩
   refine kg 1 ?_;refine d_l rfl ?_;refine t_sw 1 2 [I c.roughdown] (I c.roughdown) H rfl rfl Sz3 rfl rfl rfl rfl ?_;intro aR H
   refine s_nil ⟨(H.pk [0,2]),?_⟩
   refine d_nil ?_
   exact ⟨c.roughdown,r3,_,upds_of _ _ ⟨rfl,rfl,rfl,rfl,rfl,trivial⟩,hM,H⟩
  replace hM:=M.e_f hM am;refine W.skip ?_
  exact ⟨c.roughup,r2,_,upds_of _ _ ⟨rfl,rfl,rfl,rfl,rfl,trivial⟩,hM,H⟩
 rintro _ aS ⟨s,a,ρ,rfl,hM,H⟩
 unfold zaH at hM
 refine W.seq ?_;refine W.draw (fun W=>St w W [cMemI encSpt ai (zaa aa ac ae),cBlk al [I c.up,I c.down,I s,I c.roughdown] 43,cBlk ak [I r_.up,I r_.down,I r_.lo,I r_.hi,B r_.narrow] 38] R) [(0,true),(1,true),(2,true),(3,true),(4,true),(5,true),(6,true),(7,true),(8,true),(9,true),(10,true),(11,true),(12,true),(13,true),(14,true),(15,true),(16,true),(17,true),(18,true),(19,true),(20,true),(21,true)] mixed (by decide +kernel) rfl ?_;intro aT ag;replace H:=H.ext ag;clear ag
 refine ⟨(H.pk [0,1,2]),?_⟩
 obtain ⟨aU,hM⟩:=M.e_gd hM;obtain ⟨aV,hM⟩:=M.e_gd hM;obtain ⟨aW,hM⟩:=M.e_gd hM;obtain ⟨aX,hM⟩:=M.e_gd hM;obtain ⟨aY,hM⟩:=M.e_gd hM;obtain ⟨aZ,hM⟩:=M.e_gd hM;obtain ⟨a7,hM⟩:=M.e_gd hM;obtain ⟨a8,hM⟩:=M.e_gd hM;obtain ⟨ba,hM⟩:=M.e_gd hM;obtain ⟨bb,hM⟩:=M.e_gd hM;refine kg 43 ?_;obtain ⟨bc,aH,hM⟩:=M.e_bind hM;refine s_call cf44 [I ((((10000*a)*r3)*(c.up-c.down)) / ((s*c.roughdown)*(((aa.getD (Int.toNat r_.down) default).place)-((aa.getD (Int.toNat r_.up) default).place))))] rfl (zeM ((((10000*a)*r3)*(c.up-c.down)) / ((s*c.roughdown)*(((aa.getD (Int.toNat r_.down) default).place)-((aa.getD (Int.toNat r_.up) default).place)))) aH _ (H.gt 3)) ?_
 rintro vq bf ⟨r4,rfl,hvq,ah⟩
 subst vq;(try dsimp only at hM);replace H:=H.bk ah;clear ah;refine kg 2 ?_;replace H:=H.pk [0];refine W.ret ?_
 have aI:=M.e_pure hM
 exact ⟨_,resE_tmp rfl,⟨r4,aI,rfl,H⟩⟩

def zdr  : M Unit :=
  M.pure ()
theorem zdS {R:List Chunk}    {r:Unit} (hM:(zdr).Ends r) (w:World) (H:St w w [] R):Ret Tryz.prog 51 #[] w fun v w'=>()=r/\v = .agg #[.func (.func 86) #[] #[]]/\St w w' [] R:=by
 refine ret_of_W Tryz.func51 rfl rfl rfl ?_;refine kg 2 ?_;refine t_alloc (cs:=[.nilFunc]) H Al128 rfl ?_;intro ae ag H;refine kg 3 ?_;refine s_val (x_bld (ps:=[(0,.func (.func 86) #[] #[])]) (zs:=[.nilFunc]) (L':=[.func (.func 86) #[] #[]]) rfl Tryz.underlying128 Al128 rfl (Bd128 Tryz.underlying128) (.cons (cs:=[.func (.func 86) #[] #[]]) rfl rfl rfl rfl rfl<|.nil)) ?_;refine t_sw 0 0 [.func (.func 86) #[] #[]] (.agg #[.func (.func 86) #[] #[]]) H rfl rfl Sz128 rfl rfl rfl rfl ?_;intro ah H;refine s_nil ?_;refine W.ret ?_
 have aa:=(H.bl 0)
 have ac:=M.e_pure hM
 exact ⟨_,(resE_of1 (v:=.agg #[.func (.func 86) #[] #[]]) rfl (.cell (v:=.agg #[.func (.func 86) #[] #[]]) rfl (run_loadVar_ag (ds:=[.func (.func 86) #[] #[]]) Ag128 Sz128 aa rfl rfl)<|.nil)),⟨ac,rfl,(H.pk [])⟩⟩

def zbI (l:List Int):(Int × Nat)->M ((Int × Nat) ⊕ Int):=fun (first2,s) =>
  bif decide ((s:Int)<(l.length:Int)) then (
  M.grd (decide ((s:Int)<(l.length:Int))) <|
  M.pure (.inl (min first2 (l.getD s 0),s+1)))
  else (
  M.pure (.inr first2))
def zaG (first:Int) (l:List Int):M Int :=
  M.bind (M.iter (zbI l) (first,0)) fun first3 =>
  M.pure first3
theorem zcF {R:List Chunk} {ag:Cells} {ac:Value} (first:Int) (l:List Int) (au:Reads R ag) (aj:Sl ag ac l) {r:Int} (hM:(zaG first l).Ends r) (w:World) (H:St w w [] R):Ret Tryz.prog 85 #[I first,ac] w fun v w'=>∃ (y0:Int),y0=r/\v=I y0/\St w w' [] R:=by
 refine ret_of_W Tryz.func85 rfl rfl rfl ?_
 have av:=(aj).len_le
 refine kg 12 ?_;obtain ⟨ak,ae,al⟩:=M.e_bind hM
 obtain ⟨ax,ae⟩:=M.e_iter ae
 refine W.loop (fun m σ W=>∃ (first2:Int) (s:Nat) (ρ:Env),σ=upds ρ [(0,I first2),(7,ac),(8,I (l.length:Int)),(9,I (s:Int))]/\M.iterN (zbI l) m (first2,s)=some ak/\St w W [] R) ?_ ?_
 ·exact ⟨_,first,0,_,upds_of _ _ ⟨rfl,rfl,rfl,rfl,trivial⟩,ae,H⟩
 rintro ay σ az ⟨first2,s,ρ,rfl,ah,H⟩
 obtain ⟨am,ao,aA,hM,ai⟩:=M.e_iterN ah
 simp only [zbI] at hM
 clear ah;refine kg 5 ?_
 refine W.cond (decide ((s:Int)<(l.length:Int))) rfl (fun aa=>?_) (fun aa=>?_)
 ·replace hM:=M.e_t hM aa
  replace aa:=dI aa
  obtain ⟨aB,hM⟩:=M.e_gd hM;refine kg 19 ?_
  exact ⟨am,ao,min first2 (l.getD s 0),s+1,_,upds_of _ _ ⟨rfl,rfl,rfl,rfl,trivial⟩,M.e_inl hM ai,H⟩
 replace hM:=M.e_f hM aa
 replace aa:=dI aa
 refine W.exit ?_
 have ap:=M.e_inr hM ai
 subst ap;replace hM:=al;(try dsimp only at hM);refine kg 5 ?_;refine W.ret ?_
 have aq:=M.e_pure hM
 exact ⟨_,resE_tmp rfl,⟨first2,aq,rfl,H⟩⟩

def zbJ (ae:List Sect) (aa:List Mrk) (marks:List Int) (ac:Int):(Int × Int × Nat)->M ((Int × Int × Nat) ⊕ (Int × Int)):=fun (s2,s3,s4) =>
  bif decide ((s4:Int)<(marks.length:Int)) then (
  M.grd (decide ((s4:Int)<(marks.length:Int))) <|
  M.grd (decide ((0:Int)<=(marks.getD s4 0))&&decide ((marks.getD s4 0)<(aa.length:Int))) <|
  M.grd (decide ((0:Int)<=ac)&&decide (ac<(ae.length:Int))) <|
  bif decide (((aa.getD (Int.toNat (marks.getD s4 0)) default).place)<=((ae.getD (Int.toNat ac) default).place)) then (
  M.bind (zaG s3 ([((aa.getD (Int.toNat (marks.getD s4 0)) default).hi:Int)])) fun r2 =>
  bif decide (((ae.getD (Int.toNat ac) default).place)<=((aa.getD (Int.toNat (marks.getD s4 0)) default).place)) then (
  M.pure (.inl (max s2 ((aa.getD (Int.toNat (marks.getD s4 0)) default).lo),r2,s4+1)))
  else (
  M.pure (.inl (s2,r2,s4+1))))
  else (
  bif decide (((ae.getD (Int.toNat ac) default).place)<=((aa.getD (Int.toNat (marks.getD s4 0)) default).place)) then (
  M.pure (.inl (max s2 ((aa.getD (Int.toNat (marks.getD s4 0)) default).lo),s3,s4+1)))
  else (
  M.pure (.inl (s2,s3,s4+1)))))
  else (
  M.pure (.inr (s2,s3)))
def zas (aa:List Sect) (ac:List Mrk) (ag:List Rch) (marks:List Int) (ae:Int):M (Int × Int) :=
  M.bind (M.iter (zbJ aa ac marks ae) (0,2000,0)) fun (s5,s6) =>
  M.pure (s5,s6)
theorem zbB {R:List Chunk} {au:Nat} {az:Cells} {aA:Value} {aB:Cells} {aC:Value} {aD:Cells} {aE:Value} {aK:Nat} {aF:Cells} {av:Value} (ak:List Sect) (aa:List Mrk) (aG:List Rch) (marks:List Int) (ae:Int) (aS:Reads R az) (aT:Sl az aA ak) (aU:Reads R aB) (aV:Sl aB aC aa) (aW:Reads R aD) (aX:Sl aD aE aG) (aY:Has R (cBlk au [aA,aC,aE,.map (some aK)] 117)) (aZ:Reads R aF) (aL:Sl aF av marks) {r:(Int × Int)} (hM:(zas ak aa aG marks ae).Ends r) (w:World) (H:St w w [] R):Ret Tryz.prog 59 #[Pq au,av,I ae] w fun v w'=>∃ (y0:Int) (y1:Int),(y0,y1)=r/\v = .agg #[I y0,I y1]/\St w w' [] R:=by
 refine ret_of_W Tryz.func59 rfl rfl rfl ?_;refine kg 2 ?_;refine t_alloc (cs:=[I 0,I 0]) H Al36 rfl ?_;intro al a7 H;refine kg 3 ?_;refine s_val (x_bld (ps:=[(1,I 2000)]) (zs:=[I 0,I 0]) (L':=[I 0,I 2000]) rfl Tryz.underlying36 Al36 rfl (Bd36 Tryz.underlying36) (.cons (cs:=[I 2000]) rfl rfl rfl rfl rfl<|.nil)) ?_;refine t_alloc (cs:=[I 0,I 0]) H Al36 rfl ?_;intro am a8 H;refine t_sw 0 0 [I 0,I 2000] (.agg #[I 0,I 2000]) H rfl rfl Sz36 rfl rfl rfl rfl ?_;intro ba H
 have bb:=(aL).len_le
 refine kg 9 ?_;obtain ⟨aM,ax,aN⟩:=M.e_bind hM
 obtain ⟨bc,ax⟩:=M.e_iter ax
 refine W.loop (fun m σ W=>∃ (s2:Int) (s3:Int) (s4:Nat) (ρ:Env),σ=upds ρ [(0,Pq au),(2,I ae),(6,Pq al),(7,Pq am),(12,av),(13,I (marks.length:Int)),(14,I (s4:Int))]/\M.iterN (zbJ ak aa marks ae) m (s2,s3,s4)=some aM/\St w W [cBlk am [I s2,I s3] 36,cBlk al [I 0,I 0] 36] R) ?_ ?_
 ·exact ⟨_,0,2000,0,_,upds_of _ _ ⟨rfl,rfl,rfl,rfl,rfl,rfl,rfl,trivial⟩,ax,H⟩
 rintro bf σ bg ⟨s2,s3,s4,ρ,rfl,aH,H⟩
 obtain ⟨ap,aq,bh,hM,ao⟩:=M.e_iterN aH
 simp only [zbJ] at hM
 clear aH;refine kg 5 ?_
 refine W.cond (decide ((s4:Int)<(marks.length:Int))) rfl (fun ag=>?_) (fun ag=>?_)
 ·replace hM:=M.e_t hM ag
  replace ag:=dI ag
  obtain ⟨bi,hM⟩:=M.e_gd hM;obtain ⟨bj,hM⟩:=M.e_gd hM;refine kg 19 ?_;refine t_alloc (cs:=[I 0,I 0,I 0]) H Al80 rfl ?_;intro ay bm H;refine t_sw 0 0 [I ((aa.getD (Int.toNat (marks.getD s4 0)) default).place),I ((aa.getD (Int.toNat (marks.getD s4 0)) default).lo),I ((aa.getD (Int.toNat (marks.getD s4 0)) default).hi)] (.agg #[I ((aa.getD (Int.toNat (marks.getD s4 0)) default).place),I ((aa.getD (Int.toNat (marks.getD s4 0)) default).lo),I ((aa.getD (Int.toNat (marks.getD s4 0)) default).hi)]) H rfl rfl Sz80 rfl rfl rfl rfl ?_;intro bn H;refine kg 3 ?_;refine W.draw (fun W=>St w W [cBlk ay [I ((aa.getD (Int.toNat (marks.getD s4 0)) default).place),I ((aa.getD (Int.toNat (marks.getD s4 0)) default).lo),I ((aa.getD (Int.toNat (marks.getD s4 0)) default).hi)] 80,cBlk am [I s2,I s3] 36,cBlk al [I 0,I 0] 36] R) [(0,true),(1,true),(2,true),(3,true),(4,true),(5,true),(6,true),(7,true),(8,true),(9,true),(10,true),(11,true)] mixed (by decide +kernel) rfl ?_;intro bo ac;replace H:=H.ext ac;clear ac
  refine ⟨(H.pk [0,1,2]),?_⟩
  obtain ⟨bp,hM⟩:=M.e_gd hM;refine kg 13 ?_
  refine W.cond (decide (((aa.getD (Int.toNat (marks.getD s4 0)) default).place)<=((ak.getD (Int.toNat ae) default).place))) rfl (fun ah=>?_) (fun ah=>?_)
  ·replace hM:=M.e_t hM ah
   replace ah:=dI ah
   refine kg 6 ?_;refine t_bs (α:=Int) T28 [I ((aa.getD (Int.toNat (marks.getD s4 0)) default).hi)] [((aa.getD (Int.toNat (marks.getD s4 0)) default).hi:Int)] H rfl (.cons rfl (Flat.rep_enc _ ((aa.getD (Int.toNat (marks.getD s4 0)) default).hi:Int))<|.nil) rfl rfl rfl ?_;intro aI br H;obtain ⟨bt,aO,hM⟩:=M.e_bind hM;refine s_call cf85 [I s3,aI] rfl (zcF s3 ([((aa.getD (Int.toNat (marks.getD s4 0)) default).hi:Int)]) (rdo 0) (H.os 0) aO _ (H.gt 4)) ?_
   rintro vq bu ⟨r2,rfl,hvq,aJ⟩
   subst vq;(try dsimp only at hM);replace H:=H.bk aJ;clear aJ;refine kg 1 ?_;refine t_sw 2 1 [I r2] (I r2) H rfl rfl Sz3 rfl rfl rfl rfl ?_;intro bv H;refine kg 2 ?_;refine W.draw (fun W=>St w W [cOwn (α:=Int) 3 aI ([((aa.getD (Int.toNat (marks.getD s4 0)) default).hi:Int)]),cBlk ay [I ((aa.getD (Int.toNat (marks.getD s4 0)) default).place),I ((aa.getD (Int.toNat (marks.getD s4 0)) default).lo),I ((aa.getD (Int.toNat (marks.getD s4 0)) default).hi)] 80,cBlk am [I s2,I r2] 36,cBlk al [I 0,I 0] 36] R) [(0,true),(1,true),(2,true),(3,true),(4,true),(5,true),(6,true),(7,true),(8,true),(9,true),(10,true),(11,true)] mixed (by decide +kernel) rfl ?_;intro bw ac;replace H:=H.ext ac;clear ac
   refine ⟨(H.pk [0,1,2,3]),?_⟩
   refine kg 13 ?_
   refine W.cond (decide (((ak.getD (Int.toNat ae) default).place)<=((aa.getD (Int.toNat (marks.getD s4 0)) default).place))) rfl (fun ai=>?_) (fun ai=>?_)
   ·replace hM:=M.e_t hM ai
    replace ai:=dI ai
    refine kg 8 ?_;refine t_sw 2 0 [I (max s2 ((aa.getD (Int.toNat (marks.getD s4 0)) default).lo))] (I (max s2 ((aa.getD (Int.toNat (marks.getD s4 0)) default).lo))) H rfl rfl Sz3 rfl rfl rfl rfl ?_;intro bx H;refine s_nil ?_;replace H:=H.pk [2,3];refine kg 4 ?_
    exact ⟨ap,aq,max s2 ((aa.getD (Int.toNat (marks.getD s4 0)) default).lo),r2,s4+1,_,upds_of _ _ ⟨rfl,rfl,rfl,rfl,rfl,rfl,rfl,trivial⟩,M.e_inl hM ao,H⟩
   replace hM:=M.e_f hM ai
   replace ai:=dI ai
   refine W.skip ?_;replace H:=H.pk [2,3];refine kg 4 ?_
   exact ⟨ap,aq,s2,r2,s4+1,_,upds_of _ _ ⟨rfl,rfl,rfl,rfl,rfl,rfl,rfl,trivial⟩,M.e_inl hM ao,H⟩
  replace hM:=M.e_f hM ah
  replace ah:=dI ah
  refine kg 2 ?_;refine W.draw (fun W=>St w W [cBlk ay [I ((aa.getD (Int.toNat (marks.getD s4 0)) default).place),I ((aa.getD (Int.toNat (marks.getD s4 0)) default).lo),I ((aa.getD (Int.toNat (marks.getD s4 0)) default).hi)] 80,cBlk am [I s2,I s3] 36,cBlk al [I 0,I 0] 36] R) [(0,true),(1,true),(2,true),(3,true),(4,true),(5,true),(6,true),(7,true),(8,true),(9,true),(10,true),(11,true)] mixed (by decide +kernel) rfl ?_;intro bz ac;replace H:=H.ext ac;clear ac
  refine ⟨(H.pk [0,1,2]),?_⟩
  refine kg 13 ?_
  refine W.cond (decide (((ak.getD (Int.toNat ae) default).place)<=((aa.getD (Int.toNat (marks.getD s4 0)) default).place))) rfl (fun aj=>?_) (fun aj=>?_)
  ·replace hM:=M.e_t hM aj
   replace aj:=dI aj
   refine kg 8 ?_;refine t_sw 1 0 [I (max s2 ((aa.getD (Int.toNat (marks.getD s4 0)) default).lo))] (I (max s2 ((aa.getD (Int.toNat (marks.getD s4 0)) default).lo))) H rfl rfl Sz3 rfl rfl rfl rfl ?_;intro bA H;refine kg 5 ?_
   exact ⟨ap,aq,max s2 ((aa.getD (Int.toNat (marks.getD s4 0)) default).lo),s3,s4+1,_,upds_of _ _ ⟨rfl,rfl,rfl,rfl,rfl,rfl,rfl,trivial⟩,M.e_inl hM ao,(H.pk [1,2])⟩
  replace hM:=M.e_f hM aj
  replace aj:=dI aj
  refine kg 5 ?_
  exact ⟨ap,aq,s2,s3,s4+1,_,upds_of _ _ ⟨rfl,rfl,rfl,rfl,rfl,rfl,rfl,trivial⟩,M.e_inl hM ao,(H.pk [1,2])⟩
 replace hM:=M.e_f hM ag
 replace ag:=dI ag
 refine W.exit ?_
 have aP:=M.e_inr hM ao
 subst aP;replace hM:=aN;(try dsimp only at hM);refine kg 3 ?_;refine t_sw 1 0 [I s2,I s3] (.agg #[I s2,I s3]) H rfl rfl Sz36 rfl rfl rfl rfl ?_;intro bB H;refine s_nil ?_;refine W.ret ?_
 have aQ:=(H.bl 1)
 have aR:=M.e_pure hM
 exact ⟨_,(resE_of1 (v:=.agg #[I s2,I s3]) rfl (.cell (v:=.agg #[I s2,I s3]) rfl (run_loadVar_ag (ds:=[I s2,I s3]) Ag36 Sz36 aQ rfl rfl)<|.nil)),⟨s2,s3,aR,rfl,(H.pk [])⟩⟩

def zbz (a b:Int):M Bool :=
  M.pure (decide (a<b))
theorem zdz {R:List Chunk}  (a:Int) (b:Int)  {r:Bool} (hM:(zbz a b).Ends r) (w:World) (H:St w w [] R):Ret Tryz.prog 86 #[I a,I b] w fun v w'=>∃ (y0:Bool),y0=r/\v=B y0/\St w w' [] R:=by
 refine ret_of_W Tryz.func86 rfl rfl rfl ?_;refine kg 11 ?_;refine W.ret ?_
 have aa:=M.e_pure hM
 exact ⟨_,resE_tmp rfl,⟨(decide (a<b)),aa,rfl,H⟩⟩

def zbx (s:Span):M (Int × Int) :=
  M.pure (s.lo,s.hi)
theorem zdI {R:List Chunk}  (s:Span)  {r:(Int × Int)} (hM:(zbx s).Ends r) (w:World) (H:St w w [] R):Ret Tryz.prog 84 #[.agg #[I s.lo,I s.hi]] w fun v w'=>∃ (y0:Int) (y1:Int) (aa:Nat),(y0,y1)=r/\v = .func (.func 115) #[] #[Pq aa]/\St w w' [cBlk aa [I y0,I y1] 36] R:=by
 refine ret_of_W Tryz.func84 rfl rfl rfl ?_;refine kg 2 ?_;refine t_bx [I s.lo,I s.hi] H rfl ?_;intro ac ag H;refine kg 4 ?_;refine s_val (x_mf (fs:=[]) (cs:=[Pq ac]) rfl rfl) ?_;refine kg 2 ?_;refine W.ret ?_
 have ae:=M.e_pure hM
 exact ⟨_,resE_tmp rfl,⟨s.lo,s.hi,ac,ae,rfl,H⟩⟩

def za9 {T_:Type} (aa:T_->Int->M (Bool × T_)) (ac:Int):(Int × T_)->M ((Int × T_) ⊕ (T_ ⊕ T_)):=fun (n,t2) =>
  bif decide (n<=ac) then (
  M.bind (aa t2 n) fun (go,t) =>
  bif !go then (
  M.pure (.inr (.inl t)))
  else (
  M.grd (decide ((-9223372036854775808:Int)<=(n+1))&&decide ((n+1)<=(9223372036854775807:Int))) <|
  M.pure (.inl (n+1,t))))
  else (
  M.pure (.inr (.inr t2)))
def zap {T_:Type} (aa:T_->Int->M (Bool × T_)) (t_:T_) (ac ae:Int):M T_ :=
  M.bind (M.iter (za9 aa ae) (ac,t_)) fun x_=>match x_ with
  | (.inl t3)=>(
  M.pure t3)
  | (.inr t4)=>(
  M.pure t4)
theorem zdG {R:List Chunk} {T_:Type} {Y_:T_->List Chunk->Prop} {ae:Value} {ag:List Chunk} {ah:Nat} (ai:T_->Int->M (Bool × T_)) (t_:T_) (aj:Int) (ac:Int) (ax:YieldC Tryz.prog R arI Y_ ae ai) (ay:Y_ t_ ag) (aF:Has R (cBlk ah [I aj,I ac] 36)) {r:T_} (hM:(zap ai t_ aj ac).Ends r) (w:World) (H:St w w [cAll ag] R):Ret Tryz.prog 115 #[ae,Pq ah] w fun v w'=>∃ (y0:T_) (Ls0:List Chunk),y0=r/\v = .tuple #[]/\St w w' [cAll Ls0] R/\Y_ y0 Ls0:=by
 refine ret_of_W Tryz.func115 rfl rfl rfl ?_;refine kg 7 ?_;obtain ⟨az,ak,ap⟩:=M.e_bind hM
 obtain ⟨aG,ak⟩:=M.e_iter ak
 refine W.loop (fun m σ W=>∃ (n:Int) (t2:T_) (Ls_t2:List Chunk) (ρ:Env),σ=upds ρ [(0,ae),(1,Pq ah),(3,I n)]/\M.iterN (za9 ai ac) m (n,t2)=some az/\St w W [cAll Ls_t2] R/\Y_ t2 Ls_t2) ?_ ?_
 ·exact ⟨_,aj,t_,ag,_,upds_of _ _ ⟨rfl,rfl,rfl,trivial⟩,ak,H,ay⟩
 rintro aH σ aI ⟨n,t2,Ls_t2,ρ,rfl,aq,H,hY_t2⟩
 obtain ⟨aA,aB,aJ,hM,al⟩:=M.e_iterN aq
 simp only [za9] at hM
 clear aq;refine kg 8 ?_
 refine W.cond (decide (n<=ac)) rfl (fun aa=>?_) (fun aa=>?_)
 ·replace hM:=M.e_t hM aa
  replace aa:=dI aa
  refine kg 7 ?_
  obtain ⟨⟨go,t⟩,aC,hM⟩:=M.e_bind hM
  (try dsimp only at hM);refine t_yield (L:=[]) H ax hY_t2 rfl [I n] rfl n Reads.none rfl aC ?_;intro au aK av H;replace H:=H.nf;refine kg 2 ?_
  refine W.cond (!go) rfl (fun am=>?_) (fun am=>?_)
  ·replace hM:=M.e_t hM am;refine W.ret ?_
   have aD:=M.e_inr hM al
   subst aD;replace hM:=ap;(try dsimp only at hM)
   have ao:=M.e_pure hM
   exact ⟨_,resE_tmp0 rfl,⟨t,au,ao,rfl,H,av⟩⟩
  replace hM:=M.e_f hM am;obtain ⟨aL,hM⟩:=M.e_gd hM;refine kg 6 ?_
  exact ⟨aA,aB,n+1,t,au,_,upds_of _ _ ⟨rfl,rfl,rfl,trivial⟩,M.e_inl hM al,H,av⟩
 replace hM:=M.e_f hM aa
 replace aa:=dI aa
 refine W.exit ?_
 have aE:=M.e_inr hM al
 subst aE;replace hM:=ap;(try dsimp only at hM)
 have ao:=M.e_pure hM
 exact ⟨_,resE_tmp0 rfl,⟨t2,Ls_t2,ao,rfl,H,hY_t2⟩⟩
theorem zeV {T_:Type} {n_:Nat} {y y':T_->Int->M (Bool × T_)} (h:∀ s a,M.LeN n_ (y s a) (y' s a)) (t_:T_) (aa ac:Int):M.LeN n_ (zap y t_ aa ac) (zap y' t_ aa ac):=by
  simp only [zap,za9]
  repeat' (first | exact M.le_same _ _ | exact h _ _ | refine M.le_grd ?_ | refine M.le_if ?_ ?_ | refine M.le_bind ?_ (fun x=>?_) | refine M.le_opt ?_ | refine M.le_iter (fun x=>?_) _ | (rename_i x; cases x) | (rename_i x; obtain ⟨_,_⟩:=x))

end Go.Proofs.YtnncijcapdnlgaaGreat
end
