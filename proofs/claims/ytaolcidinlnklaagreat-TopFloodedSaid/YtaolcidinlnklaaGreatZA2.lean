/- Part 2 of the texts on which the proof rests. Conditions: none. -/
import Derived.Test.YtaolcidinlnklaaGreatProg
import Derived.Laws.StructEq
import Derived.Laws.Tables
import Derived.KernelRfl
import Derived.WideKeyRuns
import Derived.Laws.IdiomCopy
import Derived.Laws.CopyRow
import Derived.ScopeJumps
import Derived.Test.YtaolcidinlnklaaGreatZA1
set_option linter.unusedVariables false
set_option linter.unusedSimpArgs false
set_option linter.unusedSectionVars false
namespace Go.Nm
open Go
/-- A table: what is missing of 601 numbers is 0, and what is behind them is left out. -/
structure Tb where
  v:List Int
deriving Inhabited
def Tb.pad (l:List Int):List Int:=(l++List.replicate 601 0).take 601
theorem Tb.pad_len (l:List Int):(Tb.pad l).length=601:=by
  simp only [Tb.pad,List.length_take,List.length_append,List.length_replicate]; omega
theorem Tb.pad_eq {l:List Int} (h:l.length=601):Tb.pad l=l:=by
  unfold Tb.pad; rw [List.take_append_of_le_length (by omega),List.take_of_length_le (by omega)]
theorem encTb:∀ l:List Int,encF (α:=Int) l=l.map I
  | []=>rfl
  | x :: l=>by
    have:=encTb l;unfold encF at *;rw [List.map_cons,List.flatten_cons,this];rfl
instance:Flat Tb where
  rep _ cs x:=cs=List.flatten [[],encF (α:=Int) (Tb.pad x.v)]
  sz:=601
  agg:=true
  sz_pos:=by decide
  len:=fun h=>by rw [h,seg_len (Tb.pad_len _)]
  mono:=fun _ h=>h
  one:=fun h v hv=>by
    rw [h] at hv;simp only [List.flatten_cons,List.nil_append,List.flatten_nil,List.append_nil] at hv;exact List.all_eq_true.1 (encF_one _) v hv
  enc x:=List.flatten [[],encF (α:=Int) (Tb.pad x.v)]
  rep_iff:=Iff.rfl
theorem Tb.rep_of {C:Cells} {l:List Int} (h:l.length=601):Elt.rep C (List.flatten [[],encF (α:=Int) l]) (⟨l⟩:Tb):=by
  show _=List.flatten [[],encF (α:=Int) (Tb.pad l)];rw [Tb.pad_eq h]
theorem Tb_atA {C:Cells} {v:Value} {i:Int} {l:List Tb} (h:Sl C v l) (h0:0<=i) (h1:i<l.length):At C (vat v 601 i.toNat) (List.flatten [[],encF (α:=Int) (Tb.pad (l.getD i.toNat default).v)]):=by
  obtain ⟨cs,ha,hr⟩:=h.atI h0 h1 default;obtain rfl:cs=List.flatten [[],encF (α:=Int) (Tb.pad (l.getD i.toNat default).v)]:=hr;exact ha
theorem Tb_view {C:Cells} {v:Value} {i:Int} {l:List Tb} (h:Sl C v l) (h0:0<=i) (h1:i<l.length) :
    ∃ b o,vat v 601 i.toNat = .pointer (some ⟨b,o,none⟩)/\Sl C (.slice (some ⟨b,o,none⟩) 601 601) (Tb.pad (l.getD i.toNat default).v):=by
  obtain ⟨b,o,hp,hc⟩:=Tb_atA h h0 h1;refine ⟨b,o,hp,⟨some ⟨b,o,none⟩,601,by rw [Tb.pad_len],by rw [Tb.pad_len]; omega,by decide,fun k x hx=>?_⟩⟩;have hk:k<601:=by
    have:=(List.getElem?_eq_some_iff.1 hx).1
    rwa [Tb.pad_len] at this
  refine ⟨b,o,[I x],rfl,rfl,fun j y hj=>?_⟩;obtain ⟨rfl,rfl⟩:j=0/\y=I x:=by
    cases j with
    | zero=>exact ⟨rfl,by simpa using hj.symm⟩
    | succ j=>simp at hj
  have:=hc k (I x) (by
    rw [show List.flatten [[],encF (α:=Int) (Tb.pad (l.getD i.toNat default).v)]=encF (α:=Int) (Tb.pad (l.getD i.toNat default).v) by simp,encTb,List.getElem?_map,hx];rfl)
  rw [show o+k*Elt.sz Int+0=o+k from by show o+k*1+0=o+k; omega];exact this
section
variable {P:Program} {w:World} {σ:Env} {d:Nat} {ty:TypeId} {pos:String} {af:Array Edge}
theorem zero_one (n:Nat):(Builtin.zeroCells #[I 0] n).toList=encF (α:=Int) (List.replicate n 0):=by
  rw [encTb,List.map_replicate];refine List.eq_replicate_iff.2 ⟨by simp [Builtin.zeroCells],fun b hb=>?_⟩;simp only [Builtin.zeroCells,Array.toList_map,List.mem_map] at hb;obtain ⟨k,_,rfl⟩:=hb;have:k % 1=0:=Nat.mod_one k;simp [this]
variable {all rest:List Oper} {Q:Post} {w0:World} {L L' R:List Chunk} {b:Nat}
/-- A block of numbers is cleared. -/
theorem t_clrI {dst:Option Nat} {t e by' n:Nat} {x:Operand} {l:List Int} {et:TypeId} (T:SlT P t e 1 by' (I 0)) (k:Nat) (H:St w0 w L R) [hk:NthR L k (cBlk b (List.flatten [[],encF l]) et)] [hL:SetR L k (cBlk b (List.flatten [[],encF (List.replicate n (0:Int))]) et) L'] (hx:ev σ x = .slice (some ⟨b,0,none⟩) n n) (h1:l.length=n) (h0:0<n)
    (kk:∀ w',St w0 w' L' R->SL P all Q rest (updo σ dst (.tuple #[])) w'):SL P all Q (⟨dst,.call ⟨.builtin .clear,#[x],#[t]⟩,ty,pos,af,none⟩ :: rest) σ w:=by
  have e1:∀ l:List Int,(List.flatten [[],encF l])=encF l:=fun l=>by simp
  have e2:∀ l:List Int,(encF l).length=l.length:=fun l=>by rw [encF_len]; exact Nat.mul_one _
  have H':=hk.is; have L2:=hL.is;rw [e1] at H' L2;have hb:w.heap[b]?=some (.cells (encF l).toArray et (0,0)):=H.get H';obtain ⟨i,hi,hz,hsz,hby⟩:=T.parts;have hzv:∀ w,(zeroValue e).run P w = .ok (I 0) w:=fun w=>by simp [zeroValue,typeInfo,hi,hz]
  have hz1:(Builtin.zeroCells (I 0).cells n).toList=encF (α:=Int) (List.replicate n 0):=zero_one n;have hst:=run_storeCells_at P b 0 et (Builtin.zeroCells (I 0).cells n).toList 0 (encF l).toArray w hb (by rw [hz1,e2,List.length_replicate,List.size_toArray,e2]; omega) (fun v hv=>by
    rw [hz1] at hv;exact List.all_eq_true.1 (encF_one _) v hv)
  have hl:((encF l).toArray.toList.take (0+0)++(Builtin.zeroCells (I 0).cells n).toList++(encF l).toArray.toList.drop (0+0+(Builtin.zeroCells (I 0).cells n).toList.length))=encF (α:=Int) (List.replicate n 0):=by
    rw [hz1,e2,List.length_replicate,List.drop_of_length_le (by simp [e2,h1])];simp
  rw [hl] at hst;refine s_any (v:=.tuple #[]) (w':=w.setRow b (encF (α:=Int) (List.replicate n 0)).toArray) ?_ (kk _ (H.putBlk H' (.setRow hb) L2));obtain ⟨n,rfl⟩:∃ m,n=m+1:=⟨n-1,by omega⟩
  generalize w.setRow b (encF (α:=Int) (List.replicate (n+1) 0)).toArray=W2 at hst ⊢;simp [execOp,resolve,invoke,builtin,hx,Builtin.clear_,run_underlying T.und,hzv];rw [hst];rfl
theorem x_min4 {x y z u:Operand} {ts:Array TypeId} {g:Option (Nat × Bool)} {a b c e:Int} (hx:ev σ x=I a) (hy:ev σ y=I b) (hz:ev σ z=I c) (hu:ev σ u=I e) :
    (execOp (ev σ) ⟨some d,.call ⟨.builtin .min,#[x,y,z,u],ts⟩,ty,pos,af,g⟩).run P w = .ok (.value (I (min (min (min a b) c) e))) w:=by
  simp [execOp,resolve,invoke,builtin,hx,hy,hz,hu,Builtin.min_,Builtin.min2,I];by_cases hab:b<a <;> simp only [hab,if_true,if_false] <;> split <;> split <;> omega
theorem x_max4 {x y z u:Operand} {ts:Array TypeId} {g:Option (Nat × Bool)} {a b c e:Int} (hx:ev σ x=I a) (hy:ev σ y=I b) (hz:ev σ z=I c) (hu:ev σ u=I e) :
    (execOp (ev σ) ⟨some d,.call ⟨.builtin .max,#[x,y,z,u],ts⟩,ty,pos,af,g⟩).run P w = .ok (.value (I (max (max (max a b) c) e))) w:=by
  simp [execOp,resolve,invoke,builtin,hx,hy,hz,hu,Builtin.max_,Builtin.max2,I];by_cases hab:a<b <;> simp only [hab,if_true,if_false] <;> split <;> split <;> omega
end
end Go.Nm
namespace Go.Nm
open Go
section
variable {P:Program} {w:World} {σ:Env} {d:Nat} {ty:TypeId} {pos:String} {af:Array Edge} {g:Option (Nat × Bool)}
theorem x_eqS {t yt:TypeId} {x y:Operand} {xs ys:Array Value} {r:Bool} (he:(Op.equalIn 10000 t (.agg xs) (.agg ys)).run P w = .ok r w) (hm:P.eqGuardType P.depth t=false) (hx:ev σ x = .agg xs) (hy:ev σ y = .agg ys) :
    (execOp (ev σ) ⟨some d,.binOp .eql t x y yt,ty,pos,af,g⟩).run P w = .ok (.value (.bool (r))) w:=by
  simp [execOp,hx,hy,run_eqGuard_agg _ _ _ _ _ _ _ hm,run_eql_struct,he]
end
end Go.Nm
namespace Go.Proofs.YtaolcidinlnklaaGreat
open Go Go.Nm Go.Proofs
theorem eqT42 (a b:Span) (w:World):(Op.equalIn 10000 42 (.agg #[I a.lo,I a.hi]) (.agg #[I b.lo,I b.hi])).run Tryz.prog w = .ok (decide (a=b)) w:=by
  have u3:=Tryz.underlying3;have a3_:=Tryz.isAgg3;have z3:=Tryz.sizeOf3;have hS:Tryz.prog.underlying 42=some (.struct (Tryz.prog.fieldsOf 42)):=by kernel_rfl
  have hp:Tryz.prog.stoodInHeld 42=false:=by kernel_rfl
  obtain ⟨p0,p1⟩:=a;obtain ⟨q0,q1⟩:=b;rw [show (10000:Nat)=9999+1 from rfl,run_equalIn_agg w 9999 42 _ _ hS hp];simp only [Program.fieldsOf,Tryz.underlying42]
  go_simp
  by_cases h0:p0=q0 <;> by_cases h1:p1=q1 <;> simp [h0,h1]
theorem gdT42:Tryz.prog.eqGuardType Tryz.prog.depth 42=false:=by kernel_rfl
theorem eqT58 (a b:Cas) (w:World):(Op.equalIn 10000 58 (.agg #[I a.up,I a.down,I a.roughup,I a.roughdown]) (.agg #[I b.up,I b.down,I b.roughup,I b.roughdown])).run Tryz.prog w = .ok (decide (a=b)) w:=by
  have u3:=Tryz.underlying3;have a3_:=Tryz.isAgg3;have z3:=Tryz.sizeOf3;have hS:Tryz.prog.underlying 58=some (.struct (Tryz.prog.fieldsOf 58)):=by kernel_rfl
  have hp:Tryz.prog.stoodInHeld 58=false:=by kernel_rfl
  obtain ⟨p0,p1,p2,p3⟩:=a;obtain ⟨q0,q1,q2,q3⟩:=b;rw [show (10000:Nat)=9999+1 from rfl,run_equalIn_agg w 9999 58 _ _ hS hp];simp only [Program.fieldsOf,Tryz.underlying58]
  go_simp
  by_cases h0:p0=q0 <;> by_cases h1:p1=q1 <;> by_cases h2:p2=q2 <;> by_cases h3:p3=q3 <;> simp [h0,h1,h2,h3]
theorem gdT58:Tryz.prog.eqGuardType Tryz.prog.depth 58=false:=by kernel_rfl
theorem eqT65 (a b:Pt) (w:World):(Op.equalIn 10000 65 (.agg #[I a.stage,I a.flow]) (.agg #[I b.stage,I b.flow])).run Tryz.prog w = .ok (decide (a=b)) w:=by
  have u3:=Tryz.underlying3;have a3_:=Tryz.isAgg3;have z3:=Tryz.sizeOf3;have hS:Tryz.prog.underlying 65=some (.struct (Tryz.prog.fieldsOf 65)):=by kernel_rfl
  have hp:Tryz.prog.stoodInHeld 65=false:=by kernel_rfl
  obtain ⟨p0,p1⟩:=a;obtain ⟨q0,q1⟩:=b;rw [show (10000:Nat)=9999+1 from rfl,run_equalIn_agg w 9999 65 _ _ hS hp];simp only [Program.fieldsOf,Tryz.underlying65]
  go_simp
  by_cases h0:p0=q0 <;> by_cases h1:p1=q1 <;> simp [h0,h1]
theorem gdT65:Tryz.prog.eqGuardType Tryz.prog.depth 65=false:=by kernel_rfl
theorem eqT73 (a b:Rto) (w:World):(Op.equalIn 10000 73 (.agg #[I a.num,I a.den]) (.agg #[I b.num,I b.den])).run Tryz.prog w = .ok (decide (a=b)) w:=by
  have u3:=Tryz.underlying3;have a3_:=Tryz.isAgg3;have z3:=Tryz.sizeOf3;have hS:Tryz.prog.underlying 73=some (.struct (Tryz.prog.fieldsOf 73)):=by kernel_rfl
  have hp:Tryz.prog.stoodInHeld 73=false:=by kernel_rfl
  obtain ⟨p0,p1⟩:=a;obtain ⟨q0,q1⟩:=b;rw [show (10000:Nat)=9999+1 from rfl,run_equalIn_agg w 9999 73 _ _ hS hp];simp only [Program.fieldsOf,Tryz.underlying73]
  go_simp
  by_cases h0:p0=q0 <;> by_cases h1:p1=q1 <;> simp [h0,h1]
theorem gdT73:Tryz.prog.eqGuardType Tryz.prog.depth 73=false:=by kernel_rfl
theorem eqT215 (a b:Spot) (w:World):(Op.equalIn 10000 215 (.agg #[I a.sec,I a.stage]) (.agg #[I b.sec,I b.stage])).run Tryz.prog w = .ok (decide (a=b)) w:=by
  have u3:=Tryz.underlying3;have a3_:=Tryz.isAgg3;have z3:=Tryz.sizeOf3;have hS:Tryz.prog.underlying 215=some (.struct (Tryz.prog.fieldsOf 215)):=by kernel_rfl
  have hp:Tryz.prog.stoodInHeld 215=false:=by kernel_rfl
  obtain ⟨p0,p1⟩:=a;obtain ⟨q0,q1⟩:=b;rw [show (10000:Nat)=9999+1 from rfl,run_equalIn_agg w 9999 215 _ _ hS hp];simp only [Program.fieldsOf,Tryz.underlying215]
  go_simp
  by_cases h0:p0=q0 <;> by_cases h1:p1=q1 <;> simp [h0,h1]
end Go.Proofs.YtaolcidinlnklaaGreat
namespace Go.Nm
open Go
def cMemI {κ:Type} [DecidableEq κ] (kenc:κ->Value) (b:Nat) (F:κ->M Int):Chunk where
  D k:=k=b
  ex:=true
  ok w:=∃ f:κ->Option Int,(cMap kenc I b f).ok w/\∀ k v,f k=some v->(F k).Ends v
  st w w' h hs k:=by
    obtain ⟨f,h1,h2⟩:=h;exact ⟨f,(cMap kenc I b f).st w w' h1 hs k,h2⟩
  bd w k h e:=by
    obtain ⟨f,h1,h2⟩:=h;exact (cMap kenc I b f).bd w k h1 e
section
variable {κ:Type} [DecidableEq κ] {kenc:κ->Value} {b:Nat} {F:κ->M Int} {P:Program} {w w0:World} {L L' R:List Chunk}
variable {all rest:List Oper} {Q:Post} {σ:Env} {d:Nat} {ty:TypeId} {pos:String} {af:Array Edge}
theorem t_mkmemI {t':TypeId} (kenc:κ->Value) (F:κ->M Int) (H:St w0 w L R) (k:∀ b w',St w0 w' (cMemI kenc b F :: L) R->SL P all Q rest (upd σ d (.map (some b))) w'):SL P all Q (⟨some d,.makeMap t' none,ty,pos,af,none⟩ :: rest) σ w :=
  s_mkmap fun b w' hn=>k b w' (H.push (c:=cMemI kenc b F) hn.ext
    ⟨fun _=>none,⟨_,_,hn.same,MapR.nil kenc I 0⟩,fun k v h=>by cases h⟩ (fun j hj=>by rw [show j=b from hj]; exact hn.ge))
/-- The map by itself. -/
theorem St.memOpenI {i:Nat} (H:St w0 w L R) (hk:L[i]?=some (cMemI kenc b F)):∃ f:κ->Option Int,St w0 w (L.set i (cMap kenc I b f)) R/\∀ k v,f k=some v->(F k).Ends v:=by
  obtain ⟨f,h1,h2⟩:=H.get hk;exact ⟨f,H.set (c':=cMap kenc I b f) hk rfl (Keep.refl w) (fun _ _ _=>rfl) (fun b hb=>.inl hb) h1 rfl,h2⟩
theorem St.memShutI {i:Nat} {f:κ->Option Int} (H:St w0 w L R) (hk:L[i]?=some (cMap kenc I b f)) (hF:∀ k v,f k=some v->(F k).Ends v):St w0 w (L.set i (cMemI kenc b F)) R :=
  H.set (c':=cMemI kenc b F) hk rfl (Keep.refl w) (fun _ _ _=>rfl) (fun b hb=>.inl hb) ⟨f,H.get hk,hF⟩ rfl
theorem memIput {f:κ->Option Int} {k:κ} {v:Int} (hF:∀ k v,f k=some v->(F k).Ends v) (hE:(F k).Ends v):∀ k' v',updF f k v k'=some v'->(F k').Ends v':=fun k' v' h=>by
  unfold updF at h;split at h
  · rename_i e
    subst e;obtain rfl:=Option.some.inj h;exact hE
  · exact hF k' v' h
end
end Go.Nm
namespace Go.Nm
open Go
/-- A map of slices, with the rows to which they lead (they are read on only). -/
def cMem {κ α:Type} [DecidableEq κ] [Flat α] (kenc:κ->Value) (b:Nat) (B:Base) (F:κ->M (List α)):Chunk where
  D k:=k=b∨(B.D k/\k<B.w.heap.size)
  ex:=true
  ok w:=(∃ f:κ->Option Value,(cMap kenc id b f).ok w/\∀ k v,f k=some v->∃ l,(F k).Ends l/\Sl B.cells v l)/\(cRo B).ok w/\¬ (B.D b/\b<B.w.heap.size)
  st w w' h hs k:=by
    obtain ⟨⟨f,h1,h2⟩,h3,h4⟩:=h;exact ⟨⟨f,(cMap kenc id b f).st w w' h1 hs fun j hj=>k j (.inl hj),h2⟩,(cRo B).st w w' h3 hs fun j hj=>k j (.inr hj),h4⟩
  bd w k h e:=by
    obtain ⟨⟨f,h1,h2⟩,h3,h4⟩:=h;rcases e with e | e
    · exact (cMap kenc id b f).bd w k h1 e
    · exact (cRo B).bd w k h3 e
/-- A base that nothing else knows. -/
def cRx (B:Base):Chunk where
  D b:=B.D b/\b<B.w.heap.size
  ex:=true
  ok w:=(cRo B).ok w
  st w w' h hs k:=(cRo B).st w w' h hs k
  bd w b h hb:=(cRo B).bd w b h hb
section
variable {κ α:Type} [DecidableEq κ] [Flat α] {kenc:κ->Value} {b:Nat} {B:Base} {F:κ->M (List α)} {P:Program} {w w0:World} {L L' R:List Chunk} {kt et t:TypeId}
variable {all rest:List Oper} {Q:Post} {σ:Env} {d:Nat} {ty:TypeId} {pos:String} {af:Array Edge}
theorem memLe:∀ w,(cMem kenc b B F).ok w->B.cells.Le w.cell?:=fun w h=>roLe w h.2.1
/-- A new one. -/
theorem t_mkmem {t':TypeId} (kenc:κ->Value) (F:κ->M (List α)) (H:St w0 w L R) (k:∀ b B w',St w0 w' (cMem kenc b B F :: L) R->SL P all Q rest (upd σ d (.map (some b))) w'):SL P all Q (⟨some d,.makeMap t' none,ty,pos,af,none⟩ :: rest) σ w :=
  s_mkmap fun b w' hn=>k b ⟨w',fun _=>False⟩ w' (H.push (c:=cMem kenc b ⟨w',fun _=>False⟩ F) hn.ext
    ⟨⟨fun _=>none,⟨_,_,hn.same,MapR.nil kenc id 0⟩,fun k v h=>by cases h⟩,⟨Nat.le_refl _,fun _ h=>h.elim⟩,fun h=>h.1.elim⟩ (fun j hj=>by
      rcases hj with hj | hj
      · rw [hj]; exact hn.ge
      · exact hj.1.elim))
/-- The map by itself, the rows beside it. -/
theorem St.memOpen {i:Nat} (H:St w0 w L R) (hk:L[i]?=some (cMem kenc b B F)):∃ f:κ->Option Value,St w0 w (cMap kenc id b f :: cRx B :: L.eraseIdx i) R/\∀ k v,f k=some v->∃ l,(F k).Ends l/\Sl B.cells v l:=by
  have hlt:=(List.getElem?_eq_some_iff.1 hk).1;have hp:(cMem kenc b B F :: L.eraseIdx i).Perm L:=by
    have e:L.take i++cMem kenc b B F :: L.drop (i+1)=L:=by
      rw [← (List.getElem?_eq_some_iff.1 hk).2,← List.drop_eq_getElem_cons hlt,List.take_append_drop]
    rw [List.eraseIdx_eq_take_drop_succ];exact List.Perm.trans List.perm_middle.symm (by rw [e])
  have hS:Sep w (cMem kenc b B F :: (L.eraseIdx i++R)):=H.sep.perm (by rw [← List.cons_append]; exact hp.append_right R);obtain ⟨⟨⟨f,h1,h2⟩,h3,h4⟩,ha,hr⟩:=hS;refine ⟨f,⟨H.kp,h1,?_,h3,?_,hr⟩,h2⟩
  · intro c hc _ j hj hj';rcases List.mem_cons.1 hc with rfl | hc
    · rw [show j=b from hj] at hj';exact h4 hj'
    · exact ha c hc (by simp [cMem]) j (.inl hj) hj'
  · intro c hc _ j hj hj';exact ha c hc (by simp [cMem]) j (.inr hj) hj'
theorem St.memShut {f:κ->Option Value} (H:St w0 w (cMap kenc id b f :: cRx B :: L) R) (hF:∀ k v,f k=some v->∃ l,(F k).Ends l/\Sl B.cells v l):St w0 w (cMem kenc b B F :: L) R:=by
  obtain ⟨h1,ha,h3,hb,hr⟩:=H.sep;refine ⟨H.kp,⟨⟨f,h1,hF⟩,h3,fun h=>ha (cRx B) (by simp) (by simp [cMap]) b rfl h⟩,fun c hc _ j hj hj'=>?_,hr⟩;rcases hj with hj | hj
  · exact ha c (List.mem_cons_of_mem _ hc) (by simp [cMap]) j hj hj'
  · exact hb c hc (by simp [cRx]) j hj hj'
theorem St.memShut1 {f:κ->Option Value} {k:κ} {e:TypeId} {v:Value} {l:List α} (H:St w0 w (cMap kenc id b (updF f k v) :: cRx B :: cOwn (α:=α) e v l :: L) R) (hF:∀ k v,f k=some v->∃ l,(F k).Ends l/\Sl B.cells v l) (hE:(F k).Ends l) :
    ∃ B',B.cells.Le B'.cells/\Sl B'.cells v l/\St w0 w (cMem kenc b B' F :: L) R:=by
  have hS:=H.sep;obtain ⟨h1,ha,h3,hb,hown,hc,hr⟩:=hS;have hlt:∀ j,B.D j/\j<B.w.heap.size->(cRo B).D j:=fun j hj=>hj;have hBB:B.cells.Le (Base.cells ⟨w,fun j=>(B.D j/\j<B.w.heap.size)∨v.ownBlock=some j⟩):=fun a c hc=>by
    have hd:B.D a.block:=by
      unfold Base.cells at hc;split at hc
      · assumption
      · cases hc
    have hlt:a.block<B.w.heap.size:=by
      unfold Base.cells at hc;rw [if_pos hd] at hc;exact World.block_lt_of_cell? B.w a hc
    unfold Base.cells;rw [if_pos (show (B.D a.block/\a.block<B.w.heap.size)∨v.ownBlock=some a.block from .inl ⟨hd,hlt⟩)];exact roLe w h3 a c hc
  have hvl:Sl (Base.cells ⟨w,fun j=>(B.D j/\j<B.w.heap.size)∨v.ownBlock=some j⟩) v l:=(ownSl hown).mono fun a c hc=>by
    have h1:=ownLe w hown a c hc;unfold Base.cells;rw [if_pos (Or.inr ?_)]
    · exact h1
    · unfold rowC at hc;split at hc
      · rename_i p _ _
        split at hc
        · rename_i ha
          rw [ha]; rfl
        · cases hc
      · cases hc
  refine ⟨⟨w,fun j=>(B.D j/\j<B.w.heap.size)∨v.ownBlock=some j⟩,hBB,hvl,H.kp,⟨⟨updF f k v,h1,fun k' v' hk'=>?_⟩,⟨Nat.le_refl _,fun _ _ _=>rfl⟩,fun h=>?_⟩,fun c hc' _ j hj hj'=>?_,hr⟩
  · unfold updF at hk';split at hk'
    · rename_i ek
      subst ek;obtain rfl:=Option.some.inj hk';exact ⟨l,hE,hvl⟩
    · obtain ⟨l',e1,e2⟩:=hF k' v' hk';exact ⟨l',e1,e2.mono hBB⟩
  · rcases h.1 with h | h
    · exact ha (cRx B) (by simp) (by simp [cMap]) b rfl h
    · exact ha (cOwn (α:=α) e v l) (by simp) (by simp [cMap]) b rfl h
  · rcases hj with hj | ⟨hj | hj,_⟩
    · exact ha c (List.mem_cons_of_mem _ (List.mem_cons_of_mem _ hc')) (by simp [cMap]) j hj hj'
    · exact hb c (List.mem_cons_of_mem _ hc') (by simp [cRx]) j hj hj'
    · exact hc c hc' (by simp [cOwn]) j hj hj'
end
end Go.Nm
namespace Go.Nm
open Go
section
variable {P:Program} {all rest:List Oper} {Q:Post} {σ:Env} {w:World} {ty:TypeId} {pos:String} {af:Array Edge}
/-- Which function a method's name means at a type. -/
def MethodIs (P:Program) (t:TypeId) (name:String) (f:FuncId):Prop:=∀ (v:Value) (w:World),(method (P.types.size+Made.depth) t v name).run P w = .ok (f,v) w
theorem s_calli {t:TypeId} {v:Value} {name:String} {f:FuncId} {dst:Option Nat} {x:Operand} {ops:Array Operand} {ts:Array TypeId} {R:Value->World->Prop} (hx:ev σ x = .iface t v)
    (hm:MethodIs P t name f) (hcf:CF P f) (args:List Value) (ha:ops.toList.map (ev σ)=args)
    (hc:Ret P f (v :: args).toArray w R) (k:∀ v w',R v w'->SL P all Q rest (updo σ dst v) w') :
    SL P all Q (⟨dst,.call ⟨.invoke x name,ops,ts⟩,ty,pos,af,none⟩ :: rest) σ w:=by
  have h:(execOp (ev σ) ⟨dst,.call ⟨.invoke x name,ops,ts⟩,ty,pos,af,none⟩).run P w = .ok (.enter f (v :: args).toArray) w:=by
    subst ha;have h1:=hm v w;simp [execOp,resolve,hx,invoke,callMethod,run_program,h1,run_callFunc hcf,amap];exact List.take_of_length_le (by simp)
  simp only [SL,opW,h];exact Calls.mono hc fun e w' ⟨v,he,hr⟩=>⟨v,he,k v w' hr⟩
/-- A quotient without rest, of any sign. -/
theorem x_quoD {t yt:TypeId} {d:Nat} {x y:Operand} {a b:Int} {g:Option (Nat × Bool)} (hx:ev σ x = .int .i64 a) (hy:ev σ y = .int .i64 b) (h:-9223372036854775808<=a/\a<=9223372036854775807/\0<b/\a % b=0) :
    (execOp (ev σ) ⟨some d,.binOp .quo t x y yt,ty,pos,af,g⟩).run P w = .ok (.value (.int .i64 (a / b))) w:=by
  obtain ⟨h1,h2,h3,h4⟩:=h;have hd:b ∣ a:=Int.dvd_of_emod_eq_zero h4;have e1:a.tdiv b=a / b:=Int.tdiv_eq_ediv_of_dvd hd;have e2:b*(a / b)=a:=Int.mul_ediv_cancel' hd;have h5:b ≠ 0:=by omega
  have lo:-9223372036854775808<=a / b:=by
    by_cases hq:a / b<=0
    · have:b*(a / b)<=1*(a / b):=Int.mul_le_mul_of_nonpos_right (by omega) hq;omega
    · omega
  have hi:a / b<=9223372036854775807:=by
    by_cases hq:0<=a / b
    · have:1*(a / b)<=b*(a / b):=Int.mul_le_mul_of_nonneg_right (by omega) hq;omega
    · omega
  simp [execOp,hx,hy,eqGuard,binOp,Op.intDiv,e1,h5,wrap64 (a:=a / b) (by omega)]
end
end Go.Nm
namespace Go.Nm
open Go
section
variable {κ ν:Type} [DecidableEq κ] {kenc:κ->Value} {venc:ν->Value} {P:Program} {w w0:World} {L L' R:List Chunk} {t kt et:TypeId} {b:Nat} {m:List (κ × ν)}
variable {all rest:List Oper} {Q:Post} {σ:Env} {ty:TypeId} {pos:String} {af:Array Edge}
end
end Go.Nm
namespace Go.Nm
open Go
section
variable {P:Program} {w w0:World}
theorem Sl.flat {α:Type} [Flat α] {C:Cells} {v:Value} {l:List α} (h:Sl C v l) (hle:C.Le w.cell?) (h0:l ≠ []):∃ b o c,v = .slice (some ⟨b,o,none⟩) l.length c/\∀ j u,(l.flatMap Flat.enc:List Value)[j]?=some u->w.cell? ((⟨b,o,none⟩:Addr).add j)=some u:=by
  obtain ⟨a,c,hv,hlc,hcm,hh⟩:=h.ex;have hpos:0<l.length:=List.length_pos_iff.2 h0;obtain ⟨b,o,cs0,ha,_,_⟩:=hh 0 l[0] (by simp);subst ha;refine ⟨b,o,c,hv,fun j u hj=>?_⟩;obtain ⟨k,x,r,hk,hr,hjk⟩:=flat_inv l j u hj;obtain ⟨b',o',cs,hab,hrep,hy⟩:=hh k x hk;have hcs:=Flat.rep_iff.1 hrep;subst hcs;simp only [Option.some.injEq,Addr.mk.injEq,and_true] at hab;obtain ⟨rfl,rfl⟩:=hab;rw [add_lit,hjk];have:=hle _ _ (hy r u hr)
  rwa [Nat.add_assoc] at this
variable {all rest:List Oper} {Q:Post} {σ:Env} {d:Nat} {ty:TypeId} {pos:String} {af:Array Edge} {L L' R:List Chunk}
end
end Go.Nm
namespace Go.Nm
open Go
section
variable {P:Program} {w w0:World}
variable {all rest:List Oper} {Q:Post} {σ:Env} {ty:TypeId} {pos:String} {af:Array Edge} {L L' R:List Chunk}
end
end Go.Nm
namespace Go.Nm
open Go
section
variable {P:Program} {n:Nat} {Q:PostD} {σ:Env} {w:World} {Ds:List Nat}
theorem WD.seqJ {x y:Code} (J:Env->World->Prop) (h:W P n x (thenQ J (fun e σ w=>Q e Ds σ w)) σ w) (k:∀ σ' w',J σ' w'->WD P n Ds y Q σ' w'):WD P n Ds (.seq x y) Q σ w:=by
  refine WD.seq (WD.of fun ds a ha=>wpIn_mono (h ds a ha) ?_);rintro e a' w' ⟨s,hs,h'⟩;cases e with
  | normal=>exact ⟨s,hs,k _ _ h'⟩
  | _=>exact ⟨s,hs,h'⟩
end
end Go.Nm
namespace Go.Nm
open Go
theorem mr_old (w:World) (o:Obj) {j:Nat} (h:j<w.heap.size):(w.alloc o).heap[j]?=w.heap[j]?:=by
  show (w.heap.push o)[j]?=_;rw [Array.getElem?_push,if_neg (by omega)]
/-! ### What was given, pinned to what lies there now -/
/-- A part that stays as it is in a world. -/
def pin (w:World) (c:Chunk):Chunk where
  D:=c.D
  ex:=c.ex
  ok w':=c.ok w/\w.heap.size<=w'.heap.size/\∀ b,c.D b->w'.heap[b]?=w.heap[b]?
  st w1 w2 h hs hk:=⟨h.1,Nat.le_trans h.2.1 hs,fun b hb=>(hk b hb).trans (h.2.2 b hb)⟩
  bd w' b h hb:=Nat.lt_of_lt_of_le (c.bd w b h.1 hb) h.2.1
theorem Sep.pin {w:World}:∀ {R:List Chunk},Sep w R->Sep w (R.map (pin w))
  | [],_=>trivial
  | c :: R,h=>by
    refine ⟨⟨h.1,Nat.le_refl _,fun _ _=>rfl⟩,fun d hd=>?_,Sep.pin h.2.2⟩;obtain ⟨d',hd',rfl⟩:=List.mem_map.1 hd;exact h.2.1 d' hd'
theorem Sep.unpin {w w':World}:∀ {L R:List Chunk},Sep w' (L++R.map (Go.Nm.pin w))->Sep w' (L++R)
  | [],[],_=>trivial
  | [],c :: R,h=>by
    refine ⟨c.st w w' h.1.1 h.1.2.1 h.1.2.2,fun d hd=>?_,Sep.unpin (L:=[]) h.2.2⟩;exact h.2.1 (Go.Nm.pin w d) (List.mem_map.2 ⟨d,hd,rfl⟩)
  | c :: L,R,h=>by
    refine ⟨h.1,fun d hd=>?_,Sep.unpin (L:=L) h.2.2⟩;rcases List.mem_append.1 hd with hd | hd
    · exact h.2.1 d (List.mem_append_left _ hd)
    · exact h.2.1 (Go.Nm.pin w d) (List.mem_append_right _ (List.mem_map.2 ⟨d,hd,rfl⟩))
theorem St.pin {w:World} {R:List Chunk} (H:St w w [] R):St w w [] (R.map (Go.Nm.pin w)):=⟨H.kp,H.sep.pin⟩
theorem St.unpin {w0 w w':World} {L R:List Chunk} (H:St w0 w' L (R.map (Go.Nm.pin w))):St w0 w' L R:=⟨H.kp,H.sep.unpin⟩
theorem Has.pin {w:World} {R:List Chunk} {c:Chunk} (h:Has R c):Has (R.map (Go.Nm.pin w)) c:=⟨fun w' hs=>h.of w' (Sep.unpin (L:=[]) hs)⟩
theorem Reads.pin {w:World} {R:List Chunk} {C:Cells} (h:Reads R C):Reads (R.map (Go.Nm.pin w)) C:=⟨fun w' hs=>h.le w' (Sep.unpin (L:=[]) hs)⟩
theorem Fld.pin {w:World} {R:List Chunk} {b:Nat} {pre:List Value} (h:Fld R b pre):Fld (R.map (Go.Nm.pin w)) b pre:=fun w' hs=>h w' (Sep.unpin (L:=[]) hs)
/-- A map as it lies there. -/
def cMe (b:Nat) (es:Array MapEntry) (n:Nat):Chunk where
  D k:=k=b
  ex:=true
  ok w:=w.heap[b]?=some (.map es n)
  st w w' h _ k:=(k b rfl).trans h
  bd w k h e:=by rw [e]; exact heap_lt h
section
variable {κ ν:Type} [DecidableEq κ] {kenc:κ->Value} {venc:ν->Value}
theorem Has.map {w:World} {R:List Chunk} {b:Nat} {m:List (κ × ν)} (h:Has R (cMl kenc venc b m)) (hs:Sep w R):∃ es n,MapL kenc venc es n m/\(m.map Prod.fst).Nodup/\Has (R.map (Go.Nm.pin w)) (cMe b es n):=by
  obtain ⟨es,n,hb,hm,hn⟩:=h.of w hs;refine ⟨es,n,hm,hn,?_⟩;have hc:∃ c∈R,c.D b:=by
    refine Classical.byContradiction fun hno=>?_;have hno':∀ c∈R,¬ c.D b:=fun c hc hD=>hno ⟨c,hc,hD⟩;have hs':Sep { w with heap:=w.heap.setIfInBounds b (.cells #[] 0 (0,0)) } R:=by
      refine hs.old (by simp) fun c hc k hk=>?_;have hne:b ≠ k:=fun e=>hno' c hc (by rw [e]; exact hk);show (w.heap.setIfInBounds b _)[k]?=_;rw [Array.getElem?_setIfInBounds_ne hne]
    obtain ⟨es',n',hb',_⟩:=h.of _ hs';have:(w.heap.setIfInBounds b (.cells #[] 0 (0,0)))[b]?=some (.map es' n'):=hb';rw [Array.getElem?_setIfInBounds_self_of_lt (heap_lt hb)] at this;cases this
  obtain ⟨c,hc,hD⟩:=hc;refine ⟨fun w' hs'=>?_⟩;have:=hs'.get (List.mem_map.2 ⟨c,hc,rfl⟩);exact (this.2.2 b hD).trans hb
/-- An iterator over such a map: which entries are left, and which one came last. -/
def cIr (b r:Nat) (es:Array MapEntry) (n:Nat) (left:List Bool) (last:Option Nat):Chunk where
  D k:=k=r
  ex:=true
  ok w:=∃ (seen:Array Nat) (c0:Nat),w.heap[r]?=some (.mapIter (some b) n seen c0)/\n<=c0/\left=es.toList.map (fun e=>!seen.contains e.born)/\∀ i,last=some i->c0=n/\∃ (e:MapEntry) (seen0:Array Nat),es.toList[i]?=some e/\seen=seen0.push e.born
  st w w':=fun ⟨seen,c0,h1,h2⟩ _ k=>⟨seen,c0,(k r rfl).trans h1,h2⟩
  bd w k:=fun ⟨_,_,h,_⟩ e=>by rw [e]; exact heap_lt h
variable {P:Program} {w w0:World} {L L' R:List Chunk} {t kt et:TypeId} {b r:Nat} {es:Array MapEntry} {n:Nat} {m:List (κ × ν)}
variable {all rest:List Oper} {Q:Post} {σ:Env} {d:Nat} {ty:TypeId} {pos:String} {af:Array Edge} {g:Option (Nat × Bool)}
/-- The loop over a map begins. -/
theorem t_rangeR {x:Operand} (ht:P.underlying t=some (.map kt et)) (H:St w0 w L R) (hb:w.heap[b]?=some (.map es n)) (hm:MapL kenc venc es n m) (hx:ev σ x = .map (some b))
    (kk:∀ r w',St w0 w' (cIr b r es n (List.replicate m.length true) none :: L) R->SL P all Q rest (upd σ d (.pointer (some ⟨r,0,none⟩))) w'):SL P all Q (⟨some d,.range t x,ty,pos,af,none⟩ :: rest) σ w:=by
  have hr:=run_range_map (P:=P) w t kt et b es n ht hb;refine s_any (v:=.pointer (some ⟨w.heap.size,0,none⟩)) (w':=w.alloc (.mapIter (some b) n #[] n)) (by simp [execOp,hx,hr]) (kk _ _ ?_);have hx:Ext w (w.alloc (.mapIter (some b) n #[] n)):=⟨rfl,rfl,by show w.heap.size<=(w.heap.push _).size; simp,fun j hj=>mr_old w _ hj,fun a=>by
    unfold World.frozen?;by_cases e:a.block<w.heap.size
    · rw [mr_old w _ e]
    · by_cases e2:a.block=w.heap.size
      · rw [e2,heap_alloc_new]; simp
      · have:(w.alloc (.mapIter (some b) n #[] n)).heap[a.block]?=none:=by
          rw [Array.getElem?_eq_none]; show (w.heap.push _).size<=_; rw [Array.size_push]; omega
        rw [this,Array.getElem?_eq_none (by omega)]⟩
  have hlen:es.toList.length=m.length:=by have:=congrArg List.length hm.1; simpa using this
  refine H.push (c:=cIr b w.heap.size es n (List.replicate m.length true) none) hx ⟨#[],n,heap_alloc_new w _,Nat.le_refl _,?_,fun i h=>by cases h⟩ (fun j hj=>by rw [show j=w.heap.size from hj]; exact Nat.le_refl _);rw [← hlen];apply List.ext_getElem?;intro j;rw [List.getElem?_replicate,List.getElem?_map];split
  · rename_i hj
    rw [List.getElem?_eq_getElem hj];simp
  · rename_i hj
    rw [List.getElem?_eq_none (by omega)];rfl
/-- The next entry: none is left, or one of those that are. -/
theorem t_nextR {x:Operand} {i:Nat} {left:List Bool} {last:Option Nat} (H:St w0 w L R) (hb:w.heap[b]?=some (.map es n)) (hm:MapL kenc venc es n m) (hk:L[i]?=some (cIr b r es n left last)) (hx:ev σ x = .pointer (some ⟨r,0,none⟩))
    (h0:(∀ j:Nat,left.getD j false=false)->SL P all Q rest (upd σ d (.tuple #[.bool false])) w)
    (h1:∀ (j:Nat) (k:κ) (v:ν) w',left.getD j false=true->m[j]?=some (k,v)->St w0 w' (L.set i (cIr b r es n (left.set j false) (some j))) R->SL P all Q rest (upd σ d (.tuple #[.bool true,kenc k,venc v])) w') :
    SL P all Q (⟨some d,.next x false,ty,pos,af,none⟩ :: rest) σ w:=by
  obtain ⟨seen,c0,hr,hsc,hleft,hlast⟩:=H.get hk;have hold:=hm.2.2;have hlen:es.toList.length=m.length:=by have:=congrArg List.length hm.1; simpa using this
  have hget:∀ j:Nat,left.getD j false=((es.toList[j]?).map fun e=>!seen.contains e.born).getD false:=fun j=>by
    rw [hleft,List.getD_eq_getElem?_getD,List.getElem?_map]
  rcases run_next_at (P:=P) w ty r b n c0 seen es n hr hb hold hsc with ⟨hz,hrun⟩ | ⟨e,he,w1,hw1,hrun⟩
  · refine s_any (v:=.tuple #[.bool false]) (w':=w) (by simp [execOp,hx,hrun]) (h0 fun j=>?_);rw [hget];cases hj:es.toList[j]? with
    | none=>rfl
    | some e =>
      simp only [Option.map_some,Option.getD_some];cases hc:seen.contains e.born with
      | true=>rfl
      | false =>
        have hm:e∈leftOf es seen:=Array.mem_filter.2 ⟨Array.mem_toList_iff.1 (List.mem_of_getElem? hj),by rw [hc]; rfl⟩;have:=Array.size_pos_of_mem hm;omega
  · obtain ⟨hes,hse⟩:=mem_left he;obtain ⟨j,hj⟩:=List.getElem?_of_mem hes;have hjl:j<es.toList.length:=(List.getElem?_eq_some_iff.1 hj).1;have hmj:∃ k v,m[j]?=some (k,v)/\e.key=kenc k/\e.val=venc v:=by
      have h3:(es.toList.map (fun e=>(e.key,e.val)))[j]?=(m.map (fun p=>(kenc p.1,venc p.2)))[j]?:=by rw [hm.1]
      rw [List.getElem?_map,List.getElem?_map,hj] at h3;cases hq:m[j]? with
      | none=>rw [hq] at h3; simp at h3
      | some q=>rw [hq] at h3; simp at h3; exact ⟨q.1,q.2,rfl,h3.1,h3.2⟩
    obtain ⟨k,v,hk1,hk2,hk3⟩:=hmj;rw [hk2,hk3] at hrun;refine s_any (v:=.tuple #[.bool true,kenc k,venc v]) (w':=ChangeMaps.setBlock w1 r (.mapIter (some b) n (seen.push e.born) n)) (by simp [execOp,hx,hrun]) (h1 j k v _ ?_ hk1 ?_)
    · rw [hget,hj];simp only [Option.map_some,Option.getD_some,hse];rfl
    · have hw:w1.heap=w.heap/\w1.os=w.os/\w1.output=w.output:=by rcases hw1 with rfl | rfl <;> exact ⟨rfl,rfl,rfl⟩
      have hrl:=heap_lt hr;have hsame:(ChangeMaps.setBlock w1 r (.mapIter (some b) n (seen.push e.born) n)).heap[r]?=some (.mapIter (some b) n (seen.push e.born) n):=by
        show (w1.heap.setIfInBounds r _)[r]?=_;rw [Array.getElem?_setIfInBounds_self_of_lt (by rw [hw.1]; exact hrl)]
      have hoth:∀ q,q ≠ r->(ChangeMaps.setBlock w1 r (.mapIter (some b) n (seen.push e.born) n)).heap[q]?=w.heap[q]?:=fun q hq=>by
        show (w1.heap.setIfInBounds r _)[q]?=_;rw [Array.getElem?_setIfInBounds_ne (Ne.symm hq),hw.1]
      refine H.set (c':=cIr b r es n (left.set j false) (some j)) hk rfl ⟨hw.2.1,hw.2.2,by show _<=(w1.heap.setIfInBounds r _).size; rw [Array.size_setIfInBounds,hw.1]; exact Nat.le_refl _⟩ (fun q _ hq=>hoth q (fun e=>hq e)) (fun q hq=>.inl hq)
        ⟨seen.push e.born,n,hsame,Nat.le_refl _,?_,fun q hq=>?_⟩ rfl
      · rw [hleft];apply List.ext_getElem?;intro q;rw [List.getElem?_set,List.getElem?_map,List.getElem?_map,List.length_map];by_cases hq:j=q
        · subst hq;rw [if_pos rfl,if_pos hjl,hj];simp
        · rw [if_neg hq];cases hq2:es.toList[q]? with
          | none=>rfl
          | some e2 =>
            have hne:e2.born ≠ e.born:=fun h4=>by
              have hnd:=hm.2.1;have hql:q<es.toList.length:=(List.getElem?_eq_some_iff.1 hq2).1;have a1:(es.toList.map (·.born))[q]?=(es.toList.map (·.born))[j]?:=by rw [List.getElem?_map,List.getElem?_map,hq2,hj]; simp [h4]
              exact hq ((List.getElem?_inj (by simpa using hql) hnd).1 a1).symm
            simp only [Option.map_some]
            congr 1
            rw [Array.contains_push];simp [hne]
      · injection hq with hq
        subst hq;exact ⟨rfl,e,seen,hj,rfl⟩
/-- The entry that came last. -/
theorem x_entryR {x:Operand} {left:List Bool} {j:Nat} {k:κ} {v:ν} (ho:(cIr b r es n left (some j)).ok w) (hb:w.heap[b]?=some (.map es n)) (hm:MapL kenc venc es n m) (hj:m[j]?=some (k,v)) (hx:ev σ x = .pointer (some ⟨r,0,none⟩)) :
    (execOp (ev σ) ⟨some d,.entry x,ty,pos,af,g⟩).run P w = .ok (.value (.tuple #[kenc k,venc v])) w:=by
  obtain ⟨seen,c0,hr,hsc,hleft,hlast⟩:=ho;obtain ⟨rfl,e,seen0,he,rfl⟩:=hlast j rfl;have hrun:=run_entry_at (P:=P) w r b c0 seen0 es _ e hr hb (List.mem_of_getElem? he) hm.2.1;have h3:(es.toList.map (fun e=>(e.key,e.val)))[j]?=(m.map (fun p=>(kenc p.1,venc p.2)))[j]?:=by rw [hm.1]
  rw [List.getElem?_map,List.getElem?_map,he,hj] at h3;simp only [Option.map_some,Option.some.injEq,Prod.mk.injEq] at h3;rw [h3.1,h3.2] at hrun;simp [execOp,hx,hrun]
end
end Go.Nm
namespace Go.Nm
open Go
/-- A row of elements each of which leads to a row, all the call's own. -/
def dpL {α β:Type} [Flat α] [Flat β] (iv:β->Value) (e1 e2:TypeId) (v:Value) (us:List β) (T:List (List α)):List Chunk:=cOwn e1 v us :: (us.zip T).map fun p=>cOwn e2 (iv p.1) p.2
def cDp {α β:Type} [Flat α] [Flat β] (iv:β->Value) (e1 e2:TypeId) (v:Value) (us:List β) (T:List (List α)):Chunk:=cAll (dpL iv e1 e2 v us T)
section
set_option linter.unusedSectionVars false
variable {α β:Type} [Flat α] [Flat β] [Inhabited β] {iv:β->Value} {e1 e2:TypeId} {v:Value} {us:List β} {T:List (List α)} {w0 w:World} {L L' R:List Chunk}
theorem dpGet (hl:us.length=T.length) {i:Nat} (hi:i<T.length):(dpL iv e1 e2 v us T)[i+1]?=some (cOwn e2 (iv (us.getD i default)) (T.getD i [])):=by
  have h1:i<us.length:=by omega
  simp only [dpL,List.getElem?_cons_succ,List.getElem?_map];rw [List.getElem?_zip_eq_some (z:=(us.getD i default,T.getD i [])) |>.2 ⟨getD_some us h1 _,getD_some T hi _⟩];rfl
variable {P:Program} {all rest:List Oper} {Q:Post} {σ:Env} {d:Nat} {ty:TypeId} {pos:String} {af:Array Edge}
end
end Go.Nm
namespace Go.Nm
open Go
def ivO (r:Raw 0):Value:=r.cs.getD 0 (.bool false)
def OldM (r:Raw 0) (_:List Int):Prop:=r.cs=[ivO r]
def psd (dl:List (List Int)):List (List Int):=dl
def cDO (e1 e2:TypeId) (v:Value) (us:List (Raw 0)) (dl:List (List Int)):Chunk where
  D b:=(cDp ivO e1 e2 v us (psd dl)).D b
  ex:=true
  ok w:=(cDp ivO e1 e2 v us (psd dl)).ok w/\us.length=dl.length/\∀ i,i<dl.length->OldM (us.getD i default) (dl.getD i default)
  st w w' h hs k:=⟨(cDp ivO e1 e2 v us (psd dl)).st w w' h.1 hs k,h.2⟩
  bd w b h hb:=(cDp ivO e1 e2 v us (psd dl)).bd w b h.1 hb
section
variable {e1 e2:TypeId} {v:Value} {us:List (Raw 0)} {dl:List (List Int)} {w0 w:World} {L L' R:List Chunk}
variable {P:Program} {all rest:List Oper} {Q:Post} {σ:Env} {d:Nat} {ty:TypeId} {pos:String} {af:Array Edge}
/-- A row that has grown, or shrunk, and is not yet stored. -/
def cDG (e1 e2:TypeId) (v:Value) (us:List (Raw 0)) (dl:List (List Int)) (i:Nat) (v':Value) (row:List Int):Chunk where
  D b:=(cAll ((dpL ivO e1 e2 v us (psd dl)).set (i+1) (cOwn e2 v' row))).D b
  ex:=true
  ok w:=(cAll ((dpL ivO e1 e2 v us (psd dl)).set (i+1) (cOwn e2 v' row))).ok w/\us.length=dl.length
  st w w' h hs k:=⟨(cAll ((dpL ivO e1 e2 v us (psd dl)).set (i+1) (cOwn e2 v' row))).st w w' h.1 hs k,h.2⟩
  bd w b h hb:=(cAll ((dpL ivO e1 e2 v us (psd dl)).set (i+1) (cOwn e2 v' row))).bd w b h.1 hb
theorem St.inner {k:Nat} (H:St w0 w L R) (hk:L[k]?=some (cDO e1 e2 v us dl)) {i:Nat} (hi:i<dl.length) {v':Value} {row:List Int} {w':World} (ho:OwnF 0 e2 w' v' row) (hg:Grow 0 (ivO (us.getD i default)) w w') (hne:∀ b,b<w.heap.size->(ivO (us.getD i default)).ownBlock ≠ some b->v'.ownBlock ≠ some b):St w0 w' (L.set k (cDG e1 e2 v us dl i v' row)) R:=by
  have hok:=H.get hk;have hl:=hok.2.1;have hc:(dpL ivO e1 e2 v us (psd dl))[i+1]?=some (cOwn e2 (ivO (us.getD i default)) (dl.getD i default)):=dpGet hl hi;have new:∀ b,(cOwn e2 v' row).D b->(cOwn e2 (ivO (us.getD i default)) (dl.getD i default)).D b∨w.heap.size<=b:=fun b hb=>by
    by_cases h:b<w.heap.size
    · by_cases h2:(ivO (us.getD i default)).ownBlock=some b
      · exact .inl h2
      · exact absurd hb (hne b h h2)
    · exact .inr (by omega)
  refine H.set (c':=cDG e1 e2 v us dl i v' row) hk rfl hg.keep (fun b hb hn=>hg.blk b hb (fun hc'=>hn ⟨_,List.mem_of_getElem? hc,hc'⟩)) (fun b hb=>?_) ⟨?_,hl⟩ rfl
  · obtain ⟨c,hc',hd⟩:=hb;rcases List.mem_or_eq_of_mem_set hc' with hc' | rfl
    · exact .inl ⟨c,hc',hd⟩
    · rcases new b hd with q | q
      · exact .inl ⟨_,List.mem_of_getElem? hc,q⟩
      · exact .inr q
  · exact Sep.set (c:=cOwn e2 (ivO (us.getD i default)) (dl.getD i default)) (c':=cOwn e2 v' row) rfl hg.size (fun b hb hn=>hg.blk b hb hn) new ho (i+1) _ hok.1 hc
end
section
variable {P:Program} {w:World}
end
section
variable {e1 e2:TypeId} {v:Value} {us:List (Raw 0)} {dl:List (List Int)} {w0 w:World} {L L' R:List Chunk} {P:Program} {all rest:List Oper} {Q:Post} {σ:Env} {d:Nat} {ty:TypeId} {pos:String} {af:Array Edge}
end
end Go.Nm
namespace Go.Nm
open Go
section
variable {P:Program} {ops:Array Oper} {md:Region.Mode} {C:World->Prop} {zs:List Nat}
def onOf (md:Region.Mode) (ops:Array Oper) (j:Nat):List Nat:=match ops[j]? with
  | some o=>(o.after.toList.filter (Region.binds md)).map (·.on)
  | none=>[]
def downs (md:Region.Mode) (ops:Array Oper) (z:Nat):List Nat:=(List.range ops.size).reverse.foldl (fun acc j=>bif acc.contains j then onOf md ops j++acc else acc) (onOf md ops z)
/-- What an operation that is listed comes behind is listed, too. -/
def ClosedL (md:Region.Mode) (ops:Array Oper) (listed:Array Bool):Prop:=∀ j,listed.getD j false=true->∀ i∈onOf md ops j,listed.getD i false=true
theorem onOf_ready {listed:Array Bool} {j:Nat} (hj:j∈Region.ready md ops listed):∀ i∈onOf md ops j,listed.getD i false=true:=by
  obtain ⟨_,o,ho,hall⟩:=mem_ready.1 hj;intro i hi;unfold onOf at hi;simp only [ho] at hi;obtain ⟨e,he,rfl⟩:=List.mem_map.1 hi;rw [List.mem_filter] at he;exact hall e (by simpa using he.1) he.2
theorem ClosedL.set {listed:Array Bool} {j:Nat} (h:ClosedL md ops listed) (hj:j∈Region.ready md ops listed):ClosedL md ops (listed.setIfInBounds j true):=fun k hk i hi=>by
  refine getD_set_true ?_;by_cases e:j=k
  · subst e;exact onOf_ready hj i hi
  · rw [getD_set_ne false e] at hk;exact h k hk i hi
theorem downs_listed {listed:Array Bool} {z:Nat} (h:ClosedL md ops listed) (hz:z∈Region.ready md ops listed):∀ i∈downs md ops z,listed.getD i false=true:=by
  unfold downs;generalize hacc:onOf md ops z=acc;have h0:∀ i∈acc,listed.getD i false=true:=fun i hi=>onOf_ready hz i (by rw [hacc]; exact hi);clear hacc;generalize (List.range ops.size).reverse=l;induction l generalizing acc with
  | nil=>exact h0
  | cons j r ih =>
    rw [List.foldl_cons];refine ih _ fun i hi=>?_;cases hc:acc.contains j with
    | false=>rw [hc] at hi; exact h0 i hi
    | true =>
      rw [hc] at hi;rcases List.mem_append.1 hi with hi | hi
      · exact h j (h0 j (by simpa using hc)) i hi
      · exact h0 i hi
def wpAnyS (P:Program) (md:Region.Mode) (ops:Array Oper) (C:World->Prop) (zs:List Nat) (Q:Act->World->Prop):Nat->Array Bool->Act->World->Prop
  | 0,listed,a,w=>Region.ready md ops listed=[]/\Q a w
  | fuel+1,listed,a,w =>
    (Region.ready md ops listed=[]->Q a w) ∧
    ∀ i∈Region.ready md ops listed,lOp P ops i (fun a' w'=>(i ∉ zs->C w')/\wpAnyS P md ops C zs Q fuel (listed.setIfInBounds i true) a' w') a w
theorem wpAny_of_S {r:Option Nat} {Q:Act->World->Prop} {Q':Exit->Act->World->Prop} (hQ:∀ a w,Q a w->Q' .normal a w):∀ (fuel:Nat) (listed:Array Bool) (a:Act) (w:World),
    wpAnyS P md ops C zs Q fuel listed a w->wpAnyIn (FR r) 0 P md ops Q' fuel listed a w
  | 0,_,_,_,h=>⟨h.1,hQ _ _ h.2⟩
  | fuel+1,_,_,_,h=>⟨fun h0=>hQ _ _ (h.1 h0),fun i hi=>lOp_wpOp (lOp_mono (fun a' w' hh=>wpAny_of_S hQ fuel _ a' w' hh.2) (h.2 i hi))⟩
theorem wpAnyS_first {Q:Act->World->Prop} {i:Nat} {oi:Oper} {v:Value} (hi:ops[i]?=some oi) (hz:i ∉ zs) (hb:∀ z∈zs,i∈downs md ops z) (hsel:∀ (j:Nat) (o:Oper) cs b,ops[j]?=some o->o.op ≠ .select cs b) :
    ∀ (fuel:Nat) (listed:Array Bool) (a:Act) (w:World),C w->ClosedL md ops listed →
      (∀ j oj,ops[j]?=some oj->j ≠ i->listed.getD j true=false->(∀ e∈oj.after,Region.binds md e=true->e.on ≠ i)->oi.apart ops oj=true) →
      i∈Region.ready md ops listed->YV P ops C oi v a →
      wpAnyS P md ops C zs Q fuel (listed.setIfInBounds i true) (a.put oi.dst v) w->wpAnyS P md ops C zs Q (fuel+1) listed a w:=by
  intro fuel;induction fuel with
  | zero =>
    intro listed a w hC _ _ hr hy H;refine ⟨fun h=>(by rw [h] at hr; cases hr),fun j hj=>?_⟩;by_cases hji:j=i
    · subst hji; exact hy.lOp hi hC ⟨fun _=>hC,H⟩
    · have:=ready_mono hj hji;rw [H.1] at this;cases this
  | succ fuel ih =>
    intro listed a w hC hcl hfree hr hy H;refine ⟨fun h=>(by rw [h] at hr; cases hr),fun j hj=>?_⟩;by_cases hji:j=i
    · subst hji; exact hy.lOp hi hC ⟨fun _=>hC,H⟩
    · have h1:=H.2 j (ready_mono hj hji);obtain ⟨hjun,oj,hoj,hall⟩:=mem_ready.1 hj;have hno:¬ listed.getD i false=true:=fun h1=>by
        have h0:=(mem_ready.1 hr).1;rcases Nat.lt_or_ge i listed.size with h' | h'
        · simp [h'] at h0 h1; rw [h0] at h1; cases h1
        · simp [Array.getElem?_eq_none h'] at h1
      have hnot:∀ e∈oj.after,Region.binds md e=true->e.on ≠ i:=fun e he hb heq=>by
        have h1:=hall e he hb;rw [heq] at h1;exact hno h1
      have hjz:j ∉ zs:=fun e=>hno (downs_listed hcl hj i (hb j e));have h2:=lOp_put hoj (hfree j oj hoj hji hjun hnot) (fun cs b=>hsel i oi cs b hi) (fun cs b=>hsel j oj cs b hoj) hy h1;have hfree':∀ k ok,ops[k]?=some ok->k ≠ i->(listed.setIfInBounds j true).getD k true=false →
          (∀ e∈ok.after,Region.binds md e=true->e.on ≠ i)->oi.apart ops ok=true:=fun k ok hk hki hun hno=>by
        refine hfree k ok hk hki ?_ hno;by_cases hjk:j=k
        · subst hjk; exact hjun
        · rw [getD_set_ne true hjk] at hun; exact hun
      refine lOp_mono (fun a' w' h3=>⟨fun _=>h3.2.1 hjz,ih (listed.setIfInBounds j true) a' w' (h3.2.1 hjz) (hcl.set hj) hfree' (ready_mono hr (Ne.symm hji)) h3.1 ?_⟩) h2;rw [Array.setIfInBounds_comm _ _ hji];exact h3.2.2
def canonRow (md:Region.Mode) (ops:Array Oper):List Nat->Array Bool->Bool
  | [],listed=>(Region.ready md ops listed).isEmpty
  | z :: r,listed=>(Region.ready md ops listed==[z])&&canonRow md ops r (listed.setIfInBounds z true)
def canonTS (md:Region.Mode) (ops:Array Oper) (zs:List Nat):Ord->Nat->Array Bool->Bool
  | .nil,0,listed=>canonRow md ops zs listed
  | .q k r,n+1,listed=>(Region.ready md ops listed).contains k&&Region.free md ops listed k&&!zs.contains k&&zs.all (fun z=>(downs md ops z).contains k)&&canonTS md ops zs r n (listed.setIfInBounds k true)
  | .l k r,n+1,listed=>(Region.ready md ops listed==[k])&&!zs.contains k&&canonTS md ops zs r n (listed.setIfInBounds k true)
  | .l2 k1 r1 k2 r2,n+1,listed=>(Region.ready md ops listed==[k1,k2])&&!zs.contains k1&&!zs.contains k2&&canonTS md ops zs r1 n (listed.setIfInBounds k1 true)&&canonTS md ops zs r2 n (listed.setIfInBounds k2 true)
  | .l3 k1 r1 k2 r2 k3 r3,n+1,listed=>(Region.ready md ops listed==[k1,k2,k3])&&canonTS md ops zs r1 n (listed.setIfInBounds k1 true)&&canonTS md ops zs r2 n (listed.setIfInBounds k2 true)&&canonTS md ops zs r3 n (listed.setIfInBounds k3 true)
  | _,_,_=>false
def runRow (P:Program) (ops:Array Oper) (Q:Act->World->Prop):List Nat->Act->World->Prop
  | [],a,w=>Q a w
  | z :: r,a,w=>lOp P ops z (fun a' w'=>runRow P ops Q r a' w') a w
def runTS (P:Program) (ops:Array Oper) (C:World->Prop) (zs:List Nat) (Q:Act->World->Prop):Ord->Act->World->Prop
  | .nil,a,w=>runRow P ops Q zs a w
  | .q k r,a,w=>∃ o v,ops[k]?=some o/\YV P ops C o v a/\runTS P ops C zs Q r (a.put o.dst v) w
  | .l k r,a,w=>lOp P ops k (fun a' w'=>C w'/\runTS P ops C zs Q r a' w') a w
  | .l2 k1 r1 k2 r2,a,w=>lOp P ops k1 (fun a' w'=>C w'/\runTS P ops C zs Q r1 a' w') a w/\lOp P ops k2 (fun a' w'=>C w'/\runTS P ops C zs Q r2 a' w') a w
  | .l3 k1 r1 k2 r2 k3 r3,a,w=>lOp P ops k1 (fun a' w'=>C w'/\runTS P ops C zs Q r1 a' w') a w/\lOp P ops k2 (fun a' w'=>C w'/\runTS P ops C zs Q r2 a' w') a w/\lOp P ops k3 (fun a' w'=>C w'/\runTS P ops C zs Q r3 a' w') a w
theorem wpAnyS_row {Q:Act->World->Prop}:∀ (l:List Nat),(∀ z∈l,z∈zs)->∀ (listed:Array Bool) (a:Act) (w:World),canonRow md ops l listed=true->runRow P ops Q l a w->wpAnyS P md ops C zs Q l.length listed a w
  | [],_,_,_,_,hB,h=>⟨by simpa [canonRow] using hB,h⟩
  | z :: r,hz,listed,a,w,hB,h=>by
    simp only [canonRow,Bool.and_eq_true,beq_iff_eq] at hB;obtain ⟨hr,hB'⟩:=hB;refine ⟨fun h0=>by rw [hr] at h0; simp at h0,fun i hi=>?_⟩;rw [hr] at hi;obtain rfl:i=z:=by simpa using hi
    exact lOp_mono (fun a' w' hh=>⟨fun h=>absurd (hz i (by simp)) h,wpAnyS_row r (fun y hy=>hz y (by simp [hy])) _ _ _ hB' hh⟩) h
theorem wpAnyS_canonT {Q:Act->World->Prop} (hs:Region.noSelect ops=true):∀ (l:Ord) (n:Nat) (listed:Array Bool) (a:Act) (w:World),C w->ClosedL md ops listed →
    canonTS md ops zs l n listed=true->runTS P ops C zs Q l a w->wpAnyS P md ops C zs Q (n+zs.length) listed a w
  | .nil,0,listed,a,w,_,_,hB,h=>by
    rw [Nat.zero_add];exact wpAnyS_row zs (fun _ h=>h) _ _ _ (by simpa only [canonTS] using hB) h
  | .q k r,n+1,listed,a,w,hC,hcl,hB,h=>by
    simp only [canonTS,Bool.and_eq_true,Bool.not_eq_true',List.all_eq_true] at hB;obtain ⟨⟨⟨⟨hr,hf⟩,hz⟩,hb⟩,hB'⟩:=hB;obtain ⟨o,v,h0,hy,hK⟩:=h;have hr':k∈Region.ready md ops listed:=by simpa using hr
    rw [Nat.succ_add];exact wpAnyS_first h0 (by simpa using hz) (fun z hz=>by simpa using hb z hz) (Region.noSelect_spec hs) (n+zs.length) listed a w hC hcl (Region.free_spec h0 hf) hr' hy (wpAnyS_canonT hs r n _ _ _ hC (hcl.set hr') hB' hK)
  | .l k r,n+1,listed,a,w,hC,hcl,hB,h=>by
    simp only [canonTS,Bool.and_eq_true,beq_iff_eq] at hB;obtain ⟨⟨hr,_⟩,hB'⟩:=hB;rw [Nat.succ_add];refine ⟨fun h0=>by rw [hr] at h0; simp at h0,fun i hi=>?_⟩;have hc:=hcl.set hi;rw [hr] at hi;obtain rfl:i=k:=by simpa using hi
    exact lOp_mono (fun a' w' hh=>⟨fun _=>hh.1,wpAnyS_canonT hs r n _ _ _ hh.1 hc hB' hh.2⟩) h
  | .l2 k1 r1 k2 r2,n+1,listed,a,w,hC,hcl,hB,h=>by
    simp only [canonTS,Bool.and_eq_true,beq_iff_eq] at hB;obtain ⟨⟨⟨⟨hr,_⟩,_⟩,hB1⟩,hB2⟩:=hB;rw [Nat.succ_add];refine ⟨fun h0=>by rw [hr] at h0; simp at h0,fun i hi=>?_⟩;have hc:=hcl.set hi;rw [hr] at hi;rcases List.mem_cons.1 hi with rfl | hi
    · exact lOp_mono (fun a' w' hh=>⟨fun _=>hh.1,wpAnyS_canonT hs r1 n _ _ _ hh.1 hc hB1 hh.2⟩) h.1
    · obtain rfl:i=k2:=by simpa using hi
      exact lOp_mono (fun a' w' hh=>⟨fun _=>hh.1,wpAnyS_canonT hs r2 n _ _ _ hh.1 hc hB2 hh.2⟩) h.2
  | .l3 k1 r1 k2 r2 k3 r3,n+1,listed,a,w,hC,hcl,hB,h=>by
    simp only [canonTS,Bool.and_eq_true,beq_iff_eq] at hB;obtain ⟨⟨⟨hr,hB1⟩,hB2⟩,hB3⟩:=hB;rw [Nat.succ_add];refine ⟨fun h0=>by rw [hr] at h0; simp at h0,fun i hi=>?_⟩;have hc:=hcl.set hi;rw [hr] at hi;rcases List.mem_cons.1 hi with rfl | hi
    · exact lOp_mono (fun a' w' hh=>⟨fun _=>hh.1,wpAnyS_canonT hs r1 n _ _ _ hh.1 hc hB1 hh.2⟩) h.1
    · rcases List.mem_cons.1 hi with rfl | hi
      · exact lOp_mono (fun a' w' hh=>⟨fun _=>hh.1,wpAnyS_canonT hs r2 n _ _ _ hh.1 hc hB2 hh.2⟩) h.2.1
      · obtain rfl:i=k3:=by simpa using hi
        exact lOp_mono (fun a' w' hh=>⟨fun _=>hh.1,wpAnyS_canonT hs r3 n _ _ _ hh.1 hc hB3 hh.2⟩) h.2.2
  | .nil,_+1,_,_,_,_,_,hB,_=>by simp [canonTS] at hB
  | .q _ _,0,_,_,_,_,_,hB,_=>by simp [canonTS] at hB
  | .l _ _,0,_,_,_,_,_,hB,_=>by simp [canonTS] at hB
  | .l2 _ _ _ _,0,_,_,_,_,_,hB,_=>by simp [canonTS] at hB
  | .l3 _ _ _ _ _ _,0,_,_,_,_,_,hB,_=>by simp [canonTS] at hB
theorem ClosedL.none (n:Nat):ClosedL md ops (Array.replicate n false):=fun j h=>by
  rcases Nat.lt_or_ge j n with h' | h'
  · simp [h'] at h
  · simp [Array.getElem?_replicate,Nat.not_lt.2 h'] at h
end
def SLR (P:Program) (all:List Oper) (Q:Post):List Nat->Env->World->Prop
  | [],σ,w=>Q .normal σ w
  | z :: r,σ,w=>∃ o,all[z]?=some o/\SL P all (loudQ (fun _=>True) (SLR P all Q r)) [o] σ w
def SLTS (P:Program) (all:List Oper) (C:World->Prop) (zs:List Nat) (Q:Post):Ord->Env->World->Prop
  | .nil,σ,w=>SLR P all Q zs σ w
  | .q k r,σ,w=>∃ o v,all[k]?=some o/\(bif wantedE all o σ then ∀ w',C w'->(execOp (ev σ) o).run P w' = .ok (.value v) w' else v=undef)/\SLTS P all C zs Q r (updo σ o.dst v) w
  | .l k r,σ,w=>∃ o,all[k]?=some o/\SL P all (loudQ C (SLTS P all C zs Q r)) [o] σ w
  | .l2 k1 r1 k2 r2,σ,w=>(∃ o,all[k1]?=some o/\SL P all (loudQ C (SLTS P all C zs Q r1)) [o] σ w)/\∃ o,all[k2]?=some o/\SL P all (loudQ C (SLTS P all C zs Q r2)) [o] σ w
  | .l3 k1 r1 k2 r2 k3 r3,σ,w=>(∃ o,all[k1]?=some o/\SL P all (loudQ C (SLTS P all C zs Q r1)) [o] σ w)/\(∃ o,all[k2]?=some o/\SL P all (loudQ C (SLTS P all C zs Q r2)) [o] σ w)/\∃ o,all[k3]?=some o/\SL P all (loudQ C (SLTS P all C zs Q r3)) [o] σ w
theorem SLR_run {P:Program} {ds:List Deferred} {n:Nat} {Q:Post} (all:List Oper) (hok:∀ o∈all,∀ d,o.dst=some d->d<n):∀ (l:List Nat) (σ:Env) (w:World) (a:Act),Fr ds n σ a →
    SLR P all Q l σ w->runRow P all.toArray (fun a' w'=>∃ σ',Fr ds n σ' a'/\Q .normal σ' w') l a w
  | [],σ,_,_,ha,h=>⟨σ,ha,h⟩
  | _ :: r,_,_,_,ha,⟨_,ho,h⟩=>lOp_mono (fun _ _ hh=>hh.2) (SL_lOp all hok (fun σ' w' a' ha' h'=>SLR_run all hok r σ' w' a' ha' h') ho ha h)
theorem SLTS_runTS {P:Program} {ds:List Deferred} {n:Nat} {C:World->Prop} {zs:List Nat} {Q:Post} (all:List Oper) (hok:∀ o∈all,∀ d,o.dst=some d->d<n):∀ (l:Ord) (σ:Env) (w:World) (a:Act),Fr ds n σ a →
    SLTS P all C zs Q l σ w->runTS P all.toArray C zs (fun a' w'=>∃ σ',Fr ds n σ' a'/\Q .normal σ' w') l a w
  | .nil,σ,w,a,ha,h=>SLR_run all hok zs σ w a ha h
  | .q k r,σ,w,a,ha,⟨o,v,ho,hv,hK⟩=>by
    have hmem:o∈all:=List.mem_of_getElem? ho;refine ⟨o,v,by simpa using ho,?_,SLTS_runTS all hok r _ _ _ (ha.puto (hok o hmem) v) hK⟩;unfold YV;rw [wanted_eq ha all hok,ha.eval];cases hw:wantedE all o σ with
    | true=>rw [hw] at hv; exact .inl ⟨rfl,hv⟩
    | false=>rw [hw] at hv; exact .inr ⟨rfl,hv⟩
  | .l k r,σ,w,a,ha,⟨o,ho,h⟩=>SL_lOp all hok (fun σ' w' a' ha' h'=>SLTS_runTS all hok r σ' w' a' ha' h') ho ha h
  | .l2 k1 r1 k2 r2,σ,w,a,ha,⟨⟨o,ho,h⟩,⟨o',ho',h'⟩⟩ =>
    ⟨SL_lOp all hok (fun σ' w' a' ha' h'=>SLTS_runTS all hok r1 σ' w' a' ha' h') ho ha h,SL_lOp all hok (fun σ' w' a' ha' h'=>SLTS_runTS all hok r2 σ' w' a' ha' h') ho' ha h'⟩
  | .l3 k1 r1 k2 r2 k3 r3,σ,w,a,ha,⟨⟨o,ho,h⟩,⟨o',ho',h'⟩,⟨o'',ho'',h''⟩⟩ =>
    ⟨SL_lOp all hok (fun σ' w' a' ha' h'=>SLTS_runTS all hok r1 σ' w' a' ha' h') ho ha h,SL_lOp all hok (fun σ' w' a' ha' h'=>SLTS_runTS all hok r2 σ' w' a' ha' h') ho' ha h',SL_lOp all hok (fun σ' w' a' ha' h'=>SLTS_runTS all hok r3 σ' w' a' ha' h') ho'' ha h''⟩
theorem W.drawTS {r:Option Nat} {P:Program} {n:Nat} {Q:Post} {σ:Env} {w:World} {id:Nat} {l:List Oper} (C:World->Prop) (order:Ord) (m:Nat) (zs:List Nat) (hm:P.follows .mixedOrders=true)
    (hB:(Region.noSelect l.toArray&&Nat.beq (m+zs.length) l.length&&canonTS .any l.toArray zs order m (Array.replicate l.length false))=true)
    (hok:okDst n l=true) (h:∀ w1,Ext w w1->C w1/\SLTS P l C zs Q order σ w1):WR r P n (.region id l.toArray true) Q σ w:=by
  intro ds a ha;simp only [Bool.and_eq_true] at hB;obtain ⟨⟨hs,hl⟩,hB⟩:=hB;have hl':=Nat.eq_of_beq_eq_true hl;obtain ⟨hC,hS⟩:=h w.drew (.drew w);refine wpIn_region_any hm (wpAny_of_S (C:=C) (zs:=zs) (Q:=fun a' w'=>∃ σ',Fr ds n σ' a'/\Q .normal σ' w') (fun _ _ h=>h) _ _ _ _ ?_);have:=wpAnyS_canonT (P:=P) (md:=.any) (Q:=fun a' w'=>∃ σ',Fr ds n σ' a'/\Q .normal σ' w') hs order m (Array.replicate l.length false) a w.drew hC (ClosedL.none _) hB (SLTS_runTS l (okDst_spec hok) order σ w.drew a ha hS);rw [hl'] at this
  simpa using this
section
variable {P:Program} {all:List Oper} {C:World->Prop} {zs:List Nat} {z:Nat} {Q:Post} {r r2:Ord} {σ:Env} {w:World}
theorem ts_nil (h:SLR P all Q zs σ w):SLTS P all C zs Q .nil σ w:=h
theorem sr_l {o:Oper} (ho:all[z]?=some o) (h:SL P all (loudQ (fun _=>True) (SLR P all Q zs)) [o] σ w):SLR P all Q (z :: zs) σ w:=⟨o,ho,h⟩
theorem sr_nil (h:Q .normal σ w):SLR P all Q [] σ w:=h
theorem ts_q {k d:Nat} {op:Op} {ty:TypeId} {pos:String} {af:Array Edge} {v:Value} (ho:all[k]?=some ⟨some d,op,ty,pos,af,none⟩)
    (h:∀ w',C w'->(execOp (ev σ) ⟨some d,op,ty,pos,af,none⟩).run P w' = .ok (.value v) w') (hk:SLTS P all C zs Q r (upd σ d v) w):SLTS P all C zs Q (.q k r) σ w :=
  ⟨_,v,ho,h,hk⟩
theorem ts_l {k:Nat} {o:Oper} (ho:all[k]?=some o) (h:SL P all (loudQ C (SLTS P all C zs Q r)) [o] σ w):SLTS P all C zs Q (.l k r) σ w:=⟨o,ho,h⟩
theorem ts_l2 {k k2:Nat} {o o2:Oper} (ho:all[k]?=some o) (ho2:all[k2]?=some o2) (h:SL P all (loudQ C (SLTS P all C zs Q r)) [o] σ w) (h2:SL P all (loudQ C (SLTS P all C zs Q r2)) [o2] σ w) :
    SLTS P all C zs Q (.l2 k r k2 r2) σ w:=⟨⟨o,ho,h⟩,⟨o2,ho2,h2⟩⟩
end
end Go.Nm
namespace Go.Nm
open Go
section
variable {P:Program} {ops:Array Oper} {md:Region.Mode} {C:World->Prop} {zs fr:List Nat}
/-- No store of the row has come. -/
def Unl (zs:List Nat) (listed:Array Bool):Prop:=∀ z∈zs,listed.getD z false=false
theorem Unl.of {listed:Array Bool} {i:Nat} (h:Unl zs (listed.setIfInBounds i true)):Unl zs listed:=fun z hz=>by
  cases q:listed.getD z false with
  | false=>rfl
  | true =>
    have:=h z hz;rw [getD_set_true q] at this;cases this
theorem Unl.set {listed:Array Bool} {i:Nat} (h:Unl zs listed) (hi:i ∉ zs):Unl zs (listed.setIfInBounds i true):=fun z hz=>by
  rw [getD_set_ne false (fun e:i=z=>hi (e ▸ hz))];exact h z hz
end
section
variable {P:Program} {all:List Oper} {C:World->Prop} {zs fr:List Nat} {Q:Post} {r r2:Ord} {σ:Env} {w:World}
end
end Go.Nm
namespace Go.Nm
open Go
theorem perm_sub {α:Type} [DecidableEq α]:∀ (a b:List α),a.Nodup->(∀ x∈a,x∈b)->b.length<=a.length->a.Perm b
  | [],b,_,_,h=>by
    have:b=[]:=List.length_eq_zero_iff.1 (by simpa using h);rw [this]
  | x :: a,b,hn,hs,h=>by
    rw [List.nodup_cons] at hn;have hx:=hs x (by simp);refine List.Perm.trans (List.Perm.cons x (perm_sub a (b.erase x) hn.2 (fun y hy=>?_) ?_)) (List.perm_cons_erase hx).symm
    · exact (List.mem_erase_of_ne (fun e:y=x=>hn.1 (by rw [← e]; exact hy))).2 (hs y (by simp [hy]))
    · rw [List.length_erase_of_mem hx];rw [List.length_cons] at h;omega
theorem inj_map {α β:Type} {f:α->β}:∀ {l:List α},(l.map f).Nodup->∀ {x y},x∈l->y∈l->f x=f y->x=y
  | [],_,_,_,h,_,_=>by cases h
  | z :: l,hn,x,y,hx,hy,e=>by
    rw [List.map_cons,List.nodup_cons] at hn;rcases List.mem_cons.1 hx with hx | hx <;> rcases List.mem_cons.1 hy with hy | hy
    · rw [hx,hy]
    · exact absurd (List.mem_map.2 ⟨y,hy,by rw [← e,hx]⟩) hn.1
    · exact absurd (List.mem_map.2 ⟨x,hx,by rw [e,hy]⟩) hn.1
    · exact inj_map hn.2 hx hy e
theorem St.perm {w0 w:World} {L L' R:List Chunk} (h:St w0 w L R) (p:L.Perm L'):St w0 w L' R:=by
  refine ⟨h.kp,?_⟩;have hS:=h.sep;rw [Sep.iff] at hS ⊢;have q:(L++R).Perm (L'++R):=p.append_right R;exact ⟨fun c hc=>hS.1 c (q.mem_iff.2 hc),(q.pairwise_iff fun h=>Apart.symm h).1 hS.2⟩
/-- What is allocated: where its pointer goes, its type, its cells. -/
abbrev Alc:=Nat × TypeId × List Value
def mixE (ds:List Nat) (g:Nat->Value) (σ:Env):Env:=fun t=>bif ds.contains t then g t else σ t
theorem beqF {t d:Nat} (e:t ≠ d):Nat.beq t d=false:=by
  rw [← Bool.not_eq_true];exact fun hb=>e (Nat.eq_of_beq_eq_true hb)
theorem mix_upd {ds:List Nat} {g:Nat->Value} {σ:Env} {d:Nat} {v:Value} (h:ds.contains d=false):upd (mixE ds g σ) d v=mixE ds g (upd σ d v):=by
  funext t
  show (bif Nat.beq t d then v else bif ds.contains t then g t else σ t)=bif ds.contains t then g t else bif Nat.beq t d then v else σ t;by_cases e:t=d
  · subst e;rw [h,Nat.beq_refl];rfl
  · rw [beqF e];rfl
theorem mix_put {ds:List Nat} {g:Nat->Value} {σ:Env} {d:Nat} {v:Value} (h:ds.contains d=true):upd (mixE ds g σ) d v=mixE ds (fun t=>bif Nat.beq t d then v else g t) σ:=by
  funext t
  show (bif Nat.beq t d then v else bif ds.contains t then g t else σ t)=bif ds.contains t then (bif Nat.beq t d then v else g t) else σ t;by_cases e:t=d
  · subst e;rw [h,Nat.beq_refl];rfl
  · rw [beqF e];rfl
def ptrOf (b:Nat):Value:=.pointer (some ⟨b,0,none⟩)
/-- Behind all of them: each has its block. -/
def FinA:List Alc->List Chunk->Env->(List Chunk->Env->Prop)->Prop
  | [],acc,σ,K=>K acc σ
  | (d,t,z) :: r,acc,σ,K=>∀ b,FinA r (acc++[cBlk b z t]) (upd σ d (.pointer (some ⟨b,0,none⟩))) K
theorem FinA.go {K:List Chunk->Env->Prop} (b:Nat->Nat):∀ (sp:List Alc) (acc:List Chunk) (σ:Env),FinA sp acc σ K->K (acc++sp.map fun x=>cBlk (b x.1) x.2.2 x.2.1) (sp.foldl (fun σ x=>upd σ x.1 (ptrOf (b x.1))) σ)
  | [],acc,σ,h=>by simpa [FinA] using h
  | (d,t,z) :: r,acc,σ,h=>by
    have:=FinA.go b r _ _ (h (b d));rw [List.append_assoc] at this;exact this
theorem fold_mix (b:Nat->Nat):∀ (sp:List Alc) (σ:Env),sp.foldl (fun σ x=>upd σ x.1 (ptrOf (b x.1))) σ=mixE (sp.map (·.1)) (fun t=>ptrOf (b t)) σ
  | [],σ=>rfl
  | (d,t,z) :: r,σ=>by
    rw [List.foldl_cons,fold_mix b r]
    funext k
    show (bif (r.map fun x:Alc=>x.1).contains k then ptrOf (b k) else bif Nat.beq k d then ptrOf (b d) else σ k)=bif (d :: r.map fun x:Alc=>x.1).contains k then ptrOf (b k) else σ k;rw [List.contains_cons];by_cases e:k=d
    · subst e;rw [Nat.beq_refl,beq_self_eq_true,Bool.true_or];cases (List.map (fun x:Alc=>x.1) r).contains k <;> rfl
    · have h2:(k==d)=false:=beq_eq_false_iff_ne.2 e;rw [beqF e,h2,Bool.false_or];rfl
/-- The check: what may come at each time is the next one of the row, or a block. -/
def canonA (md:Region.Mode) (ops:Array Oper) (A:List Nat) (tail:Ord) (nt:Nat):Nat->List (Nat × Bool)->Array Bool->Bool
  | 0,[],listed=>canonT md ops tail nt listed
  | n+1,[],listed=>!(Region.ready md ops listed).isEmpty&&(Region.ready md ops listed).all fun i=>A.contains i&&canonA md ops A tail nt n [] (listed.setIfInBounds i true)
  | n+1,(k,true) :: r,listed=>(Region.ready md ops listed).contains k&&Region.free md ops listed k&&canonA md ops A tail nt n r (listed.setIfInBounds k true)
  | n+1,(k,false) :: r,listed=>!(Region.ready md ops listed).isEmpty&&(Region.ready md ops listed).all fun i=>(i==k&&canonA md ops A tail nt n r (listed.setIfInBounds k true))||(!(i==k)&&A.contains i&&canonA md ops A tail nt n ((k,false) :: r) (listed.setIfInBounds i true))
  | 0,_ :: _,_=>false
section
variable (P:Program) (all:List Oper) (C:World->Prop) (w0:World) (R:List Chunk) (ds:List Nat) (Fin:Env->List Chunk->Prop)
/-- The row, whatever blocks there are beside. -/
def SLA:List (Nat × Bool)->Env->List Chunk->Prop
  | [],σ,L=>(∀ Lx w,St w0 w (L++Lx) R->C w)/\Fin σ L
  | (k,true) :: r,σ,L=>(∀ Lx w,St w0 w (L++Lx) R->C w)/\∃ o d v,all[k]?=some o/\o.dst=some d/\o.guard=none/\ds.contains d=false/\(∀ g w',C w'->(execOp (ev (mixE ds g σ)) o).run P w' = .ok (.value v) w')/\SLA r (upd σ d v) L
  | (k,false) :: r,σ,L=>(∀ Lx w,St w0 w (L++Lx) R->C w)/\∃ o,all[k]?=some o/\∀ g Lx w,St w0 w (L++Lx) R->SL P all (loudQ C fun σ' w'=>∃ σ'' L',σ'=mixE ds g σ''/\St w0 w' (L'++Lx) R/\SLA r σ'' L') [o] (mixE ds g σ) w
end
theorem SLA.cl {P:Program} {all:List Oper} {C:World->Prop} {w0:World} {R:List Chunk} {ds:List Nat} {Fin:Env->List Chunk->Prop} {r:List (Nat × Bool)} {σ:Env} {L:List Chunk} (h:SLA P all C w0 R ds Fin r σ L):∀ Lx w,St w0 w (L++Lx) R->C w:=by
  match r,h with
  | [],h=>exact h.1
  | (k,true) :: r,h=>exact h.1
  | (k,false) :: r,h=>exact h.1
theorem listed_lt {md:Region.Mode} {ops:Array Oper} {listed:Array Bool} {i:Nat} (h:i∈Region.ready md ops listed):listed.getD i true=false:=(mem_ready.1 h).1
/-- How far the allocations are. -/
structure AlS (P:Program) (all:List Oper) (sp:List (Nat × Alc)) (done:List Alc) (g:Nat->Value) (Lx:List Chunk):Prop where
  ex:∃ b:Nat->Nat,(∀ x∈done,g x.1=ptrOf (b x.1))/\Lx.Perm (done.map fun x=>cBlk (b x.1) x.2.2 x.2.1)
theorem wpAnyC_A {P:Program} {ds:List Deferred} {n:Nat} {C:World->Prop} {Q:Post} {md:Region.Mode} (all:List Oper) (hok:∀ o∈all,∀ d,o.dst=some d->d<n) (hs:Region.noSelect all.toArray=true) (w0:World) (R:List Chunk) (sp:List (Nat × Alc)) (tail:Ord) (nt:Nat)
    (hal:∀ x∈sp,∃ ty pos af,all[x.1]?=some ⟨some x.2.1,.alloc x.2.2.1,ty,pos,af,none⟩/\∃ z,(P.info? x.2.2.1).map (·.zero)=some (some z)/\z.cells=x.2.2.2.toArray) (hnd:(sp.map fun x=>x.2.1).Nodup) (hnd1:(sp.map fun x=>x.1).Nodup) :
    ∀ (m:Nat) (r:List (Nat × Bool)) (listed:Array Bool) (a:Act) (w:World) (σ:Env) (g:Nat->Value) (L Lx:List Chunk) (done:List (Nat × Alc)) (b:Nat->Nat),
      (∀ x∈done,x∈sp/\listed.getD x.1 true=true)->done.Nodup->(∀ x∈done,g x.2.1=ptrOf (b x.2.1))->Lx.Perm (done.map fun x=>cBlk (b x.2.1) x.2.2.2 x.2.2.1) →
      m+done.length=(r.length+sp.length) →
      Fr ds n (mixE (sp.map fun x=>x.2.1) g σ) a->St w0 w (L++Lx) R →
      canonA md all.toArray (sp.map fun x=>x.1) tail nt m r listed=true →
      SLA P all C w0 R (sp.map fun x=>x.2.1) (fun σ L=>FinA (sp.map fun x=>x.2) [] σ fun acc σ=>∀ w,St w0 w (L++acc) R->SLT P all C Q tail σ w) r σ L →
      wpAnyC P md all.toArray C (fun a' w'=>∃ σ',Fr ds n σ' a'/\Q .normal σ' w') (m+nt) listed a w:=by
  intro m;induction m with
  | zero =>
    intro r listed a w σ g L Lx done b hd hdn hg hp hm ha H hB hS;cases r with
    | cons x r=>simp [canonA] at hB
    | nil =>
      simp only [canonA] at hB;obtain ⟨hcl,hF⟩:=hS;have hF:=FinA.go b _ _ _ hF
      -- all of them are done
      have hperm:done.Perm sp:=by
        classical
        exact perm_sub done sp hdn (fun x hx=>(hd x hx).1) (by simp at hm; omega)
      have hL:Lx.Perm ((sp.map fun x=>x.2).map fun x:Alc=>cBlk (b x.1) x.2.2 x.2.1):=by
        rw [List.map_map];exact hp.trans (hperm.map _)
      have hσ:mixE (sp.map fun x=>x.2.1) g σ=(sp.map fun x=>x.2).foldl (fun σ x=>upd σ x.1 (ptrOf (b x.1))) σ:=by
        rw [fold_mix,List.map_map]
        funext t
        unfold mixE;by_cases e:(sp.map fun x=>x.2.1).contains t=true
        · have e':(List.map ((fun x:Alc=>x.1) ∘ fun x:Nat × Alc=>x.2) sp).contains t=true:=e;rw [e,e'];obtain ⟨x,hx,rfl⟩:=List.mem_map.1 (List.contains_iff_mem.1 e);exact hg x (hperm.mem_iff.2 hx)
        · have e1:(sp.map fun x=>x.2.1).contains t=false:=by simpa using e
          have e':(List.map ((fun x:Alc=>x.1) ∘ fun x:Nat × Alc=>x.2) sp).contains t=false:=e1;rw [e1,e'];rfl
      rw [hσ] at ha;rw [List.nil_append] at hF;have H2:=H.perm (hL.append_left L);rw [Nat.zero_add];exact wpAnyC_canonT hs tail nt listed a w (hcl _ _ H) hB (SLT_runT all hok tail _ w a ha (hF w H2))
  | succ m ih =>
    intro r listed a w σ g L Lx done b hd hdn hg hp hm ha H hB hS;have hC:=hS.cl _ _ H;rw [show m+1+nt=(m+nt)+1 by omega]
    -- a block
    have alc:∀ i,i∈Region.ready md all.toArray listed->(sp.map fun x=>x.1).contains i=true->canonA md all.toArray (sp.map fun x=>x.1) tail nt m r (listed.setIfInBounds i true)=true →
        lOp P all.toArray i (fun a' w'=>C w'/\wpAnyC P md all.toArray C (fun a' w'=>∃ σ',Fr ds n σ' a'/\Q .normal σ' w') (m+nt) (listed.setIfInBounds i true) a' w') a w:=by
      intro i hi hiA hB';obtain ⟨⟨i',d,t,zs⟩,hx,e0⟩:=List.mem_map.1 (List.contains_iff_mem.1 hiA);dsimp only at e0;subst e0;obtain ⟨ty,pos,af,ho,z,hz,hzc⟩:=hal _ hx;dsimp only at ho hz hzc;have hnew:(i',d,t,zs) ∉ done:=fun hh=>by
        have h1:=(hd _ hh).2;have h2:=listed_lt hi;dsimp only at h1;rw [h2] at h1;cases h1
      have hdx:(sp.map fun x=>x.2.1).contains d=true:=List.contains_iff_mem.2 (List.mem_map.2 ⟨_,hx,rfl⟩);refine SL_lOp (C:=C) (K:=fun σ' w'=>∃ b',σ'=upd (mixE (sp.map fun x=>x.2.1) g σ) d (ptrOf b')/\St w0 w' (cBlk b' zs t :: (L++Lx)) R) (K':=fun a' w'=>wpAnyC P md all.toArray C (fun a' w'=>∃ σ',Fr ds n σ' a'/\Q .normal σ' w') (m+nt) (listed.setIfInBounds i' true) a' w') all hok ?_ ho ha ?_
      · rintro σ' w' a' ha' ⟨b',rfl,H'⟩;rw [mix_put hdx] at ha';have hsz:i'<listed.size:=by
          have h2:=listed_lt hi;rcases Nat.lt_or_ge i' listed.size with h' | h'
          · exact h'
          · rw [Array.getD_eq_getD_getElem?,Array.getElem?_eq_none h'] at h2;cases h2
        have hne:∀ x∈done,x.2.1 ≠ d:=fun x hxd e=>by
          have h1:=(hd x hxd).1;have:x=(i',d,t,zs):=inj_map hnd h1 hx e;rw [this] at hxd;exact hnew hxd
        refine ih r _ a' w' σ _ L (cBlk b' zs t :: Lx) ((i',d,t,zs) :: done) (fun k=>if k=d then b' else b k) ?_ (List.nodup_cons.2 ⟨hnew,hdn⟩) ?_ ?_ (by rw [List.length_cons]; omega) ha' (H'.perm List.perm_middle.symm) hB' hS
        · intro x hx';rcases List.mem_cons.1 hx' with rfl | hx'
          · refine ⟨hx,?_⟩;dsimp only;rw [Array.getD_eq_getD_getElem?,Array.getElem?_setIfInBounds_self_of_lt hsz];rfl
          · refine ⟨(hd x hx').1,?_⟩;by_cases e:i'=x.1
            · rw [← e,Array.getD_eq_getD_getElem?,Array.getElem?_setIfInBounds_self_of_lt hsz];rfl
            · rw [getD_set_ne true e];exact (hd x hx').2
        · intro x hx';rcases List.mem_cons.1 hx' with rfl | hx'
          · dsimp only;rw [Nat.beq_refl,if_pos rfl];rfl
          · have e:=hne x hx';rw [beqF e,if_neg e];exact hg x hx'
        · rw [List.map_cons,if_pos rfl];refine List.Perm.cons _ (hp.trans (List.Perm.of_eq (List.map_congr_left fun x hx'=>?_)));rw [if_neg (hne x hx')]
      · exact t_alloc (cs:=zs) H hz hzc fun b' w' H'=>⟨hS.cl _ _ (H'.perm List.perm_middle.symm),b',rfl,H'⟩
    match r,hS,hB,hm,ih,alc with
    | [],hS,hB,hm,ih,alc =>
      simp only [canonA,Bool.and_eq_true,Bool.not_eq_true',List.isEmpty_eq_false_iff,List.all_eq_true] at hB;exact ⟨fun h0=>absurd h0 hB.1,fun i hi=>alc i hi (hB.2 i hi).1 (hB.2 i hi).2⟩
    | (k, true) :: r, ⟨_, o, d, v, ho, hdst, hgd, hdd, hv, hK⟩, hB, hm, ih, alc =>
      simp only [canonA,Bool.and_eq_true] at hB;obtain ⟨⟨hr,hf⟩,hB'⟩:=hB;have hmem:o∈all:=List.mem_of_getElem? ho;have ho':all.toArray[k]?=some o:=by simpa using ho
      refine wpAnyC_first ho' (Region.noSelect_spec hs) (m+nt) listed a w hC (Region.free_spec ho' hf) (by simpa using hr) (v:=v) ?_ ?_
      · unfold YV;rw [wanted_eq ha all hok,ha.eval];unfold wantedE;rw [hgd];exact .inl ⟨rfl,fun w' hw'=>hv g w' hw'⟩
      · rw [hdst];have ha2:=ha.put (hok o hmem d hdst) v;rw [mix_upd hdd] at ha2;refine ih r _ _ w _ g L Lx done b (fun x hx=>⟨(hd x hx).1,?_⟩) hdn hg hp (by rw [List.length_cons] at hm; omega) ha2 H hB' hK;by_cases e:k=x.1
        · have:=listed_lt (md:=md) (ops:=all.toArray) (listed:=listed) (i:=k) (by simpa using hr);rw [e,(hd x hx).2] at this;cases this
        · rw [getD_set_ne true e];exact (hd x hx).2
    | (k, false) :: r, ⟨hcl, o, ho, hK⟩, hB, hm, ih, alc =>
      simp only [canonA,Bool.and_eq_true,Bool.not_eq_true',List.isEmpty_eq_false_iff,List.all_eq_true] at hB;refine ⟨fun h0=>absurd h0 hB.1,fun i hi=>?_⟩;have hBi:=hB.2 i hi;by_cases e:i=k
      · subst e;have hB':canonA md all.toArray (sp.map fun x=>x.1) tail nt m r (listed.setIfInBounds i true)=true:=by
          simpa using hBi
        refine (SL_lOp (C:=C) (K':=fun a' w'=>wpAnyC P md all.toArray C (fun a' w'=>∃ σ',Fr ds n σ' a'/\Q .normal σ' w') (m+nt) (listed.setIfInBounds i true) a' w') all hok ?_ ho ha (hK g Lx w H));rintro σ' w' a' ha' ⟨σ'',L',rfl,H',hS'⟩;refine ih r _ a' w' σ'' g L' Lx done b (fun x hx=>⟨(hd x hx).1,?_⟩) hdn hg hp (by rw [List.length_cons] at hm; omega) ha' H' hB' hS';by_cases e:i=x.1
        · have:=listed_lt hi;rw [e,(hd x hx).2] at this;cases this
        · rw [getD_set_ne true e];exact (hd x hx).2
      · have h2:(i==k)=false:=beq_eq_false_iff_ne.2 e;rw [h2] at hBi;simp only [Bool.false_and,Bool.not_false,Bool.true_and,Bool.false_or,Bool.and_eq_true] at hBi;exact alc i hi hBi.1 hBi.2
theorem W.drawA {r:Option Nat} {P:Program} {n:Nat} {Q:Post} {σ:Env} {w w0:World} {id:Nat} {l:List Oper} {L R:List Chunk} (C:World->Prop) (row:List (Nat × Bool)) (sp:List (Nat × Alc)) (tail:Ord) (nt:Nat) (hm:P.follows .mixedOrders=true)
    (hB:(Region.noSelect l.toArray&&Nat.beq (row.length+sp.length+nt) l.length&&canonA .any l.toArray (sp.map fun x=>x.1) tail nt (row.length+sp.length) row (Array.replicate l.length false))=true)
    (hok:okDst n l=true) (hal:∀ x∈sp,∃ ty pos af,l[x.1]?=some ⟨some x.2.1,.alloc x.2.2.1,ty,pos,af,none⟩/\∃ z,(P.info? x.2.2.1).map (·.zero)=some (some z)/\z.cells=x.2.2.2.toArray) (hnd:(sp.map fun x=>x.2.1).Nodup) (hnd1:(sp.map fun x=>x.1).Nodup)
    (H:St w0 w L R) (h:SLA P l C w0 R (sp.map fun x=>x.2.1) (fun σ L=>FinA (sp.map fun x=>x.2) [] σ fun acc σ=>∀ w,St w0 w (L++acc) R->SLT P l C Q tail σ w) row σ L):WR r P n (.region id l.toArray true) Q σ w:=by
  intro ds a ha;simp only [Bool.and_eq_true] at hB;obtain ⟨⟨hs,hl⟩,hB⟩:=hB;have hl':=Nat.eq_of_beq_eq_true hl;refine wpIn_region_any hm (wpAny_of_C (C:=C) (Q:=fun a' w'=>∃ σ',Fr ds n σ' a'/\Q .normal σ' w') (fun _ _ h=>h) _ _ _ _ ?_);have hself:mixE (sp.map fun x=>x.2.1) σ σ=σ:=by
    funext t
    unfold mixE;cases (sp.map fun x=>x.2.1).contains t <;> rfl
  have:=wpAnyC_A (P:=P) (md:=.any) (Q:=Q) (C:=C) (ds:=ds) (n:=n) l (okDst_spec hok) hs w0 R sp tail nt hal hnd hnd1 (row.length+sp.length) row (Array.replicate l.length false) a w.drew σ σ L [] [] (fun _=>0) (by simp) List.nodup_nil (by simp) List.Perm.nil (by simp) (by rw [hself]; exact ha) (by rw [List.append_nil]; exact H.ext (.drew w)) hB h;rw [hl'] at this
  simpa using this
section
variable {P:Program} {all:List Oper} {C:World->Prop} {w0:World} {R:List Chunk} {ds:List Nat} {Fin:Env->List Chunk->Prop} {r:List (Nat × Bool)} {σ:Env} {L:List Chunk}
theorem sa_nil (h1:∀ Lx w,St w0 w (L++Lx) R->C w) (h:Fin σ L):SLA P all C w0 R ds Fin [] σ L:=⟨h1,h⟩
theorem sa_q {k d:Nat} {op:Op} {ty:TypeId} {pos:String} {af:Array Edge} {v:Value} (h1:∀ Lx w,St w0 w (L++Lx) R->C w) (ho:all[k]?=some ⟨some d,op,ty,pos,af,none⟩) (hd:ds.contains d=false)
    (h:∀ g w',C w'->(execOp (ev (mixE ds g σ)) ⟨some d,op,ty,pos,af,none⟩).run P w' = .ok (.value v) w') (hk:SLA P all C w0 R ds Fin r (upd σ d v) L):SLA P all C w0 R ds Fin ((k,true) :: r) σ L :=
  ⟨h1,_,d,v,ho,rfl,rfl,hd,h,hk⟩
theorem sa_l {k:Nat} {o:Oper} (h1:∀ Lx w,St w0 w (L++Lx) R->C w) (ho:all[k]?=some o) (h:∀ g Lx w,St w0 w (L++Lx) R->SL P all (loudQ C fun σ' w'=>∃ σ'' L',σ'=mixE ds g σ''/\St w0 w' (L'++Lx) R/\SLA P all C w0 R ds Fin r σ'' L') [o] (mixE ds g σ) w) :
    SLA P all C w0 R ds Fin ((k,false) :: r) σ L:=⟨h1,o,ho,h⟩
end
end Go.Nm
namespace Go.Nm
open Go
section
variable {md:Region.Mode} {ops:Array Oper}
end
end Go.Nm
namespace Go.Nm
open Go
section
variable {P:Program} {ops:Array Oper} {md:Region.Mode} {C:World->Prop} {z:Nat}
end
section
variable {P:Program} {all:List Oper} {C:World->Prop} {z:Nat} {Q:Post} {r:List Nat} {σ:Env} {w:World}
end
end Go.Nm
namespace Go.Nm
open Go
section
variable {P:Program} {ops:Array Oper} {md:Region.Mode} {C:World->Prop} {z:Nat}
end
section
variable {P:Program} {all:List Oper} {C:World->Prop} {z:Nat} {Q:Post} {r r2:Ord} {σ:Env} {w:World}
end
end Go.Nm
namespace Go.Nm
open Go
/-- As Q; a jump to the label: K. -/
def jumpQ (l:Nat) (K:Env->World->Prop) (Q:Post):Post
  | .goto l',σ,w=>l'=l/\K σ w
  | e,σ,w=>Q e σ w
section
variable {P:Program} {n:Nat} {Q:Post} {σ:Env} {w:World}
theorem W.goto {r:Option Nat} {l:Nat} (h:Q (.goto l) σ w):WR r P n (.goto l) Q σ w:=fun _ _ ha=>wpIn_goto ⟨σ,ha,h⟩
theorem W.jump {c rest:Code} (l:Nat) (hf:findLabel c l=some rest) (I:Nat->Env->World->Prop) (first:W P n c (jumpQ l (fun σ w=>∃ m,I m σ w) Q) σ w)
    (pass:∀ m σ w,I m σ w->W P n rest (jumpQ l (fun σ' w'=>∃ m',m'<m/\I m' σ' w') Q) σ w):W P n (.scope c) Q σ w:=by
  intro ds a ha
  classical
  let J:Act->World->Prop:=fun a w=>∃ m σ,Fr ds n σ a/\I m σ w
  have hmin:∀ a w,J a w->∃ m,(∃ σ,Fr ds n σ a/\I m σ w)/\∀ m',(∃ σ,Fr ds n σ a/\I m' σ w)->m<=m':=by
    rintro a w ⟨m,σ,h1,h2⟩;have key:∀ k m,m<=k->(∃ σ,Fr ds n σ a/\I m σ w)->∃ m,(∃ σ,Fr ds n σ a/\I m σ w)/\∀ m',(∃ σ,Fr ds n σ a/\I m' σ w)->m<=m':=by
      intro k;induction k with
      | zero=>intro m hm h; exact ⟨m,h,fun m' _=>by omega⟩
      | succ k ih =>
        intro m hm h;by_cases hx:∃ m',m'<m/\∃ σ,Fr ds n σ a/\I m' σ w
        · obtain ⟨m',hlt,h'⟩:=hx;exact ih m' (by omega) h'
        · exact ⟨m,h,fun m' h'=>Nat.le_of_not_lt fun hlt=>hx ⟨m',hlt,h'⟩⟩
    exact key m m (Nat.le_refl _) ⟨σ,h1,h2⟩
  let μ:Act->World->Nat:=fun a w=>if h:J a w then (hmin a w h).choose else 0
  refine (wpIn_wide (n:=0)).2 (wp_scope_jumps l J μ hf ?_ ?_)
  · refine wp_mono ((wpIn_wide (n:=0)).1 (first ds a ha)) ?_;rintro e a' w' ⟨s,hs,h'⟩;cases e with
    | goto l'=>exact ⟨h'.1,h'.2.choose,s,hs,h'.2.choose_spec⟩
    | _=>exact ⟨s,hs,h'⟩
  · intro a w hJ;obtain ⟨σ,hσ,hI⟩:=(hmin a w hJ).choose_spec.1;refine wp_mono ((wpIn_wide (n:=0)).1 (pass _ σ w hI ds a hσ)) ?_;rintro e a' w' ⟨s,hs,h'⟩;cases e with
    | goto l' =>
      obtain ⟨rfl,m',hlt,hI'⟩:=h';have hJ':J a' w':=⟨m',s,hs,hI'⟩
      refine ⟨rfl,hJ',?_⟩;have h1:=(hmin a' w' hJ').choose_spec.2 m' ⟨s,hs,hI'⟩;have e1:μ a' w'=(hmin a' w' hJ').choose:=dif_pos hJ';have e2:μ a w=(hmin a w hJ).choose:=dif_pos hJ;rw [e1,e2];omega
    | _=>exact ⟨s,hs,h'⟩
/-- What is asked where a jump leads: some way to tell the passes. -/
def JG (P:Program) (n l:Nat) (R:Code) (Q:Post) (σ:Env) (w:World):Prop :=
  ∃ I:Nat->Env->World->Prop,∃ m,I m σ w/\∀ m σ w,I m σ w->W P n R (jumpQ l (fun σ' w'=>∃ m',m'<m/\I m' σ' w') Q) σ w
theorem jumpQ_mono {l:Nat} {K K':Env->World->Prop} (h:∀ σ w,K σ w->K' σ w):∀ e σ w,jumpQ l K Q e σ w->jumpQ l K' Q e σ w:=fun e σ w hh=>by
  cases e with
  | goto l'=>exact ⟨hh.1,h _ _ hh.2⟩
  | _=>exact hh
theorem W.jumpS {c R:Code} (l:Nat) (hf:findLabel c l=some R) (first:W P n c (jumpQ l (JG P n l R Q) Q) σ w):W P n (.scope c) Q σ w :=
  W.jump l hf (fun m σ w=>∃ I:Nat->Env->World->Prop,I m σ w/\∀ m σ w,I m σ w->W P n R (jumpQ l (fun σ' w'=>∃ m',m'<m/\I m' σ' w') Q) σ w)
    (W.mono first (jumpQ_mono fun _ _ ⟨I,m,h,p⟩=>⟨m,I,h,p⟩))
    fun m σ w ⟨I,h,p⟩=>W.mono (p m σ w h) (jumpQ_mono fun _ _ ⟨m',hlt,h'⟩=>⟨m',hlt,I,h',p⟩)
theorem W.jumpL {R:Code} {l:Nat} (I:Nat->Env->World->Prop) (h0:∃ m,I m σ w) (pass:∀ m σ w,I m σ w->W P n R (jumpQ l (fun σ' w'=>∃ m',m'<m/\I m' σ' w') Q) σ w) :
    W P n (.seq (.label l) R) (jumpQ l (JG P n l (.seq .skip R) Q) Q) σ w:=by
  obtain ⟨m,h⟩:=h0;exact W.seq (W.label (W.mono (pass m σ w h) (jumpQ_mono fun _ _ ⟨m',_,h'⟩=>⟨I,m',h',fun m σ w hh=>W.seq (W.skip (pass m σ w hh))⟩)))
end
end Go.Nm
namespace Go.Nm
open Go
def noGotoD (Q:PostD):PostD
  | .goto _,_,_,_=>False
  | e,Ds,σ,w=>Q e Ds σ w
theorem WD.scope {P:Program} {n:Nat} {Q:PostD} {σ:Env} {w:World} {Ds:List Nat} {c:Code} (h:WD P n Ds c (noGotoD Q) σ w):WD P n Ds (.scope c) Q σ w:=by
  intro a ha;refine (wpIn_wide (n:=0)).2 (wp_scope_straight (wp_mono ((wpIn_wide (n:=0)).1 (h a ha)) ?_));rintro e a' w' ⟨d,s,hs,h'⟩;cases e with
  | goto l=>exact h'.elim
  | _=>exact ⟨d,s,hs,h'⟩
section
variable {P:Program} {w:World} {σ:Env} {d:Nat} {ty:TypeId} {pos:String} {af:Array Edge} {g:Option (Nat × Bool)}
/-! ### Values of any type, and what type they are of -/
theorem x_mi {t:TypeId} {x:Operand} {v:Value} {D:TypeDesc} (hu:P.underlying t=some D) (hn:∀ m,D ≠ .interface m) (hx:ev σ x=v) :
    (execOp (ev σ) ⟨some d,.makeInterface t x,ty,pos,af,g⟩).run P w = .ok (.value (.iface t v)) w:=by
  cases D <;> first | exact absurd rfl (hn _) | simp [execOp,Instr.makeInterface,run_underlying hu,hx]
theorem x_ushr1 {t yt:TypeId} {x y:Operand} {a:Int} (hx:ev σ x = .int .u64 a) (hy:ev σ y = .int .u64 1) :
    (execOp (ev σ) ⟨some d,.binOp .shr t x y yt,ty,pos,af,g⟩).run P w = .ok (.value (.int .u64 (a / 2))) w:=by
  have e:a.fdiv 2=a / 2:=Int.fdiv_eq_ediv_of_nonneg _ (by decide);simp only [execOp,hx,hy,eqGuard,binOp,Op.shift];simp;exact e
end
/-- An iterator hands over a number and a span. -/
def arISpan:Cells->List Value->Int × Span->Prop:=fun _ vs x=>vs=[I x.1,.agg #[I x.2.lo,I x.2.hi]]
theorem arISpan_len {k:Nat} (hk:k=2):∀ C vs x,arISpan C vs x->vs.length=k:=fun _ _ _ h=>by rw [show _=_ from h,hk]; rfl
end Go.Nm
namespace Go.Nm
open Go
section
variable {P:Program} {w:World} {σ:Env} {d:Nat} {ty:TypeId} {pos:String} {af:Array Edge} {g:Option (Nat × Bool)}
end
end Go.Nm
namespace Go.Nm
open Go
theorem fat_fat {p:Value} (hp:∃ b o,p = .pointer (some ⟨b,o,none⟩)) (a c:Nat):fat (fat p a) c=fat p (a+c):=by
  obtain ⟨b,o,rfl⟩:=hp;simp [fat,add_lit,Nat.add_assoc]
section
variable {P:Program} {w:World}
theorem fa_pl2 {s:TypeId} {k off a c:Nat} {ft:TypeId}
    (h:(P.underlying s).bind (fun d=>match d with | .struct fs=>(fs[k]?).map (fun f=>(f.offset,f.type)) | _=>none)=some (off,ft))
    {n:Nat} (hn:(P.info? ft).map (·.size)=some (n+1)) {p:Value} (hp:∃ b o,p = .pointer (some ⟨b,o,none⟩)) (hc:a+off=c):(Instr.fieldAt s (fat p a) k).run P w = .ok (fat p c) w:=by
  subst hc;rw [fa_pl h hn (p:=fat p a) (by obtain ⟨b,o,rfl⟩:=hp; exact ⟨b,o+a,by simp [fat,add_lit]⟩),fat_fat hp]
end
end Go.Nm
namespace Go.Nm
open Go
end Go.Nm
namespace Go.Nm
open Go
universe u
/-- What a test says, as a proposition. -/
class DcQ (b c:Bool) (p:outParam Prop):Prop where
  to:b=c->p
instance (priority:=low) {b c:Bool}:DcQ b c (b=c):=⟨fun h=>h⟩
instance {p:Prop} [Decidable p]:DcQ (decide p) true p:=⟨of_decide_eq_true⟩
instance {p:Prop} [Decidable p]:DcQ (decide p) false (¬p):=⟨of_decide_eq_false⟩
instance {α:Type _} [BEq α] [LawfulBEq α] {a b:α}:DcQ (a==b) true (a=b):=⟨beq_iff_eq.1⟩
instance {α:Type _} [BEq α] [LawfulBEq α] {a b:α}:DcQ (a==b) false (a ≠ b):=⟨beq_eq_false_iff_ne.1⟩
instance {α:Type _} [BEq α] [LawfulBEq α] {a b:α}:DcQ (a != b) true (a ≠ b):=⟨bne_iff_ne.1⟩
instance {α:Type _} [BEq α] [LawfulBEq α] {a b:α}:DcQ (a != b) false (a=b):=⟨bne_eq_false_iff_eq.1⟩
/-- What a guard says, as a proposition. -/
class DeQ (b:Bool) (p:outParam Prop):Prop where
  iff:b=true↔p
instance (priority:=low) {b:Bool}:DeQ b (b=true):=⟨Iff.rfl⟩
instance {p:Prop} [Decidable p]:DeQ (decide p) p:=⟨decide_eq_true_iff⟩
instance {a b:Bool} {p q:Prop} [ha:DeQ a p] [hb:DeQ b q]:DeQ (a&&b) (p/\q):=⟨by rw [Bool.and_eq_true,ha.iff,hb.iff]⟩
theorem M.e_gq {α:Type} {b:Bool} {p:Prop} [h:DeQ b p] {k:M α} {r:α} (hk:(M.grd b k).Ends r):p/\k.Ends r:=⟨h.iff.1 (M.e_grd hk).1,(M.e_grd hk).2⟩
/-! ### Facts on types, found by their numbers -/
class FdC (P:Program) (s k:Nat) (off ft:outParam Nat):Prop where
  h:(P.underlying s).bind (fun d=>match d with | .struct fs=>(fs[k]?).map (fun f=>(f.offset,f.type)) | _=>none)=some (off,ft)
class ScC (P:Program) (t:Nat):Prop where
  h:isSc (P.underlying t)=true
class AgC (P:Program) (t:Nat):Prop where
  h:isAg (P.underlying t)=true
class SzC (P:Program) (t:Nat) (n:outParam Nat):Prop where
  h:(P.info? t).map (·.size)=some n
class TlC (P:Program) (t:Nat) (e sz by':outParam Nat) (z:outParam Value):Prop where
  h:SlT P t e sz by' z
class AlC (P:Program) (t:Nat) (z:outParam Value):Prop where
  h:(P.info? t).map (·.zero)=some (some z)
class BdC (P:Program) (t:Nat) (pl:outParam (List (Nat × Nat))):Prop where
  h:∃ fs:Array Field,P.underlying t=some (.struct fs)/\fs.toList.mapM (fun f=>(P.info? f.type).map fun i=>(f.offset,i.size))=some pl
class CfC (P:Program) (f:FuncId):Prop where
  h:CF P f
class AddC (a b:Nat) (c:outParam Nat):Prop where
  h:a+b=c
instance (priority:=low) {a b:Nat}:AddC a b (a+b):=⟨rfl⟩
instance {a:Nat}:AddC a 0 a:=⟨rfl⟩
instance {b:Nat}:AddC 0 b b:=⟨Nat.zero_add b⟩
/-- An index as a number. -/
class IxC (i:Int) (n:outParam Nat):Prop where
  h:i.toNat=n
instance (priority:=low) {i:Int}:IxC i i.toNat:=⟨rfl⟩
instance {n:Nat}:IxC (n:Int) n:=⟨rfl⟩
instance:IxC 0 0:=⟨rfl⟩
instance:IxC 1 1:=⟨rfl⟩
instance:IxC 2 2:=⟨rfl⟩
instance:IxC 3 3:=⟨rfl⟩
instance:IxC 4 4:=⟨rfl⟩
instance:IxC 5 5:=⟨rfl⟩
instance:IxC 6 6:=⟨rfl⟩
instance:IxC 7 7:=⟨rfl⟩
instance:IxC 8 8:=⟨rfl⟩
instance:IxC 9 9:=⟨rfl⟩
/-- What is read beyond a list's end. -/
class DfC (α:Type) (d:outParam α):Prop where
  h:True
instance (priority:=low) {α:Type} [Inhabited α]:DfC α default:=⟨trivial⟩
instance:DfC Int 0:=⟨trivial⟩
instance:DfC Bool false:=⟨trivial⟩
/-- The cells of a thing, written out. -/
class EncL {α:Type} [Flat α] (x:α) (ds:outParam (List Value)):Prop where
  h:Flat.enc x=ds
/-- Some of a list's entries. -/
class SubR {α:Type u} (l:List α) (k n:Nat) (o:outParam (List α)):Prop where
  h:(l.drop k).take n=o
instance {α:Type u} {l:List α}:SubR l 0 0 []:=⟨rfl⟩
instance {α:Type u} {l o:List α} {x:α} {n:Nat} [h:SubR l 0 n o]:SubR (x :: l) 0 (n+1) (x :: o):=⟨by have:=h.h; simp at this; simp [this]⟩
instance {α:Type u} {l o:List α} {x:α} {k n:Nat} [h:SubR l k n o]:SubR (x :: l) (k+1) n o:=⟨by rw [List.drop_succ_cons]; exact h.h⟩
/-- A block among the parts. -/
class BlkR (L:List Chunk) (b:Nat) (cs:outParam (List Value)) (t:outParam TypeId):Prop where
  h:∃ k:Nat,L[k]?=some (cBlk b cs t)
instance {c:Chunk} {L:List Chunk} {b:Nat} {cs:List Value} {t:TypeId} [h:BlkR L b cs t]:BlkR (c :: L) b cs t:=⟨by obtain ⟨k,h⟩:=h.h; exact ⟨k+1,by simpa using h⟩⟩
instance {L:List Chunk} {b:Nat} {cs:List Value} {t:TypeId}:BlkR (cBlk b cs t :: L) b cs t:=⟨⟨0,rfl⟩⟩
/-- A block among the parts that is changed. -/
class BlkW (L:List Chunk) (b:Nat) (cs:List Value) (cs':List Value) (t:TypeId) (o:outParam (List Chunk)):Prop where
  h:∃ k:Nat,L[k]?=some (cBlk b cs t)/\L.set k (cBlk b cs' t)=o
instance {c:Chunk} {L o:List Chunk} {b:Nat} {cs cs':List Value} {t:TypeId} [h:BlkW L b cs cs' t o]:BlkW (c :: L) b cs cs' t (c :: o):=⟨by obtain ⟨k,h1,h2⟩:=h.h; exact ⟨k+1,by simpa using h1,by rw [List.set_cons_succ,h2]⟩⟩
instance {L:List Chunk} {b:Nat} {cs cs':List Value} {t:TypeId}:BlkW (cBlk b cs t :: L) b cs cs' t (cBlk b cs' t :: L):=⟨⟨0,rfl,rfl⟩⟩
/-- A field of an element. -/
class FldC (α:Type) [Elt α] (k:Nat) (e:outParam α) (f:outParam (α->Value)):Prop where
  h:∀ {C:Cells} {v:Value} {l:List α} {n:Nat},Sl C v l->n<l.length->At C (fat (vat v (Elt.sz α) n) k) [f (l.getD n e)]
section
variable {w0 w:World} {L R:List Chunk}
theorem St.bq {b:Nat} {cs:List Value} {t:TypeId} (H:St w0 w L R) [h:BlkR L b cs t]:w.heap[b]?=some (.cells cs.toArray t (0,0)):=by
  obtain ⟨k,hk⟩:=h.h;exact H.get hk
end
section
variable {P:Program} {w:World} {σ:Env} {d:Nat} {ty:TypeId} {pos:String} {af:Array Edge} {g:Option (Nat × Bool)}
theorem pos_succ {m:Nat} (h:Nat.blt 0 m=true):∃ n,m=n+1:=by
  cases m with
  | zero=>cases h
  | succ n=>exact ⟨n,rfl⟩
theorem y_fab {s k off ft m b o c:Nat} {x:Operand} (hx:ev σ x = .pointer (some ⟨b,o,none⟩)) [f:FdC P s k off ft] [z:SzC P ft m] (a:AddC o off c) (hm:Nat.blt 0 m=true) :
    (execOp (ev σ) ⟨some d,.fieldAddr s x k,ty,pos,af,g⟩).run P w = .ok (.value (.pointer (some ⟨b,c,none⟩))) w:=by
  obtain ⟨n,rfl⟩:=pos_succ hm;have:=fa_blk (w:=w) (b:=b) (o:=o) f.h z.h;rw [a.h] at this;exact x_fa hx this
theorem y_fap {s k off ft m:Nat} {x:Operand} {p:Value} (hx:ev σ x=p) [f:FdC P s k off ft] [z:SzC P ft m] (hm:Nat.blt 0 m=true) (hp:∃ b o,p = .pointer (some ⟨b,o,none⟩)) :
    (execOp (ev σ) ⟨some d,.fieldAddr s x k,ty,pos,af,g⟩).run P w = .ok (.value (fat p off)) w:=by
  obtain ⟨n,rfl⟩:=pos_succ hm;exact x_fa hx (fa_pl f.h z.h hp)
theorem y_fav {α:Type} {_:Elt α} {s k off ft m sz n:Nat} {x:Operand} {C:Cells} {v:Value} {l:List α} (hx:ev σ x=vat v sz n) [f:FdC P s k off ft] [z:SzC P ft m] (hm:Nat.blt 0 m=true) (hs:Sl C v l) (hz:Elt.sz α=sz) (h1:n<l.length) :
    (execOp (ev σ) ⟨some d,.fieldAddr s x k,ty,pos,af,g⟩).run P w = .ok (.value (fat (vat v sz n) off)) w:=by
  subst hz;have:=Sl.pl hs (i:=(n:Int)) (by omega) (by omega);exact y_fap hx hm (by simpa using this)
theorem y_faw {α:Type} {_:Elt α} {s k off ft m sz n a c:Nat} {x:Operand} {C:Cells} {v:Value} {l:List α} (hx:ev σ x=fat (vat v sz n) a) [f:FdC P s k off ft] [z:SzC P ft m] (ad:AddC a off c) (hm:Nat.blt 0 m=true) (hs:Sl C v l) (hz:Elt.sz α=sz) (h1:n<l.length) :
    (execOp (ev σ) ⟨some d,.fieldAddr s x k,ty,pos,af,g⟩).run P w = .ok (.value (fat (vat v sz n) c)) w:=by
  subst hz;obtain ⟨b,o,hp⟩:=Sl.pl hs (i:=(n:Int)) (by omega) (by omega);have e:vat v (Elt.sz α) n = .pointer (some ⟨b,o,none⟩):=by simpa using hp
  have:=y_fap (P:=P) (w:=w) (d:=d) (ty:=ty) (pos:=pos) (af:=af) (g:=g) hx (f:=f) (z:=z) hm ⟨b,o+a,by rw [e]; simp [fat,add_lit]⟩;rw [this,e,← ad.h];simp [fat,add_lit,Nat.add_assoc]
theorem y_ldb {t:TypeId} {b off:Nat} {cs:List Value} {et:TypeId} {fr:Nat × Nat} {x:Operand} {v:Value} (hx:ev σ x = .pointer (some ⟨b,off,none⟩)) [s:ScC P t] (h:w.heap[b]?=some (.cells cs.toArray et fr)) (hv:(cs.drop off).take 1=[v]) :
    (execOp (ev σ) ⟨some d,.load t x,ty,pos,af,g⟩).run P w = .ok (.value v) w:=x_ld hx (ldb_sc s.h h hv)
theorem y_lda {t:TypeId} {b off n:Nat} {cs ds:List Value} {et:TypeId} {fr:Nat × Nat} {x:Operand} (hx:ev σ x = .pointer (some ⟨b,off,none⟩)) [s:AgC P t] [z:SzC P t n] (h:w.heap[b]?=some (.cells cs.toArray et fr)) (q:SubR cs off n ds) (hn:ds.length=n) :
    (execOp (ev σ) ⟨some d,.load t x,ty,pos,af,g⟩).run P w = .ok (.value (.agg ds.toArray)) w:=x_ld hx (ldb_ag s.h z.h h q.h hn)
theorem At.flat {α:Type} [Flat α] {C:Cells} {v:Value} {l:List α} (hs:Sl C v l) {n:Nat} (h1:n<l.length) (e:α):At C (vat v (Elt.sz α) n) (Flat.enc (l.getD n e)):=by
  obtain ⟨cs,ha,hr⟩:=hs.atI (i:=(n:Int)) (by omega) (by omega) e;rw [Flat.rep_iff] at hr;subst hr
  simpa using ha
theorem y_lds {α:Type} {_:Flat α} {t sz n:Nat} {x:Operand} {C:Cells} {v u:Value} {l:List α} {e:α} (hx:ev σ x=vat v sz n) [s:ScC P t] (hs:Sl C v l) {ds:List Value} (de:DfC α e) (en:EncL (l.getD n e) ds) (hz:Elt.sz α=sz) (hu:ds=[u]) (hle:C.Le w.cell?) (h1:n<l.length) :
    (execOp (ev σ) ⟨some d,.load t x,ty,pos,af,g⟩).run P w = .ok (.value u) w:=by
  subst hz;have:=(At.flat hs h1 e).mono hle;rw [en.h,hu] at this;exact x_ld hx (ld_sc s.h this)
theorem y_ldf {α:Type} {_:Flat α} {t sz n k:Nat} {x:Operand} {C:Cells} {v u:Value} {l:List α} {e:α} (hx:ev σ x=fat (vat v sz n) k) [s:ScC P t] (hs:Sl C v l) {ds:List Value} (de:DfC α e) (en:EncL (l.getD n e) ds) (hz:Elt.sz α=sz) (hu:(ds.drop k).take 1=[u]) (hle:C.Le w.cell?) (h1:n<l.length) :
    (execOp (ev σ) ⟨some d,.load t x,ty,pos,af,g⟩).run P w = .ok (.value u) w:=by
  subst hz;have:=((At.flat hs h1 e).mono hle).fld k 1;rw [en.h,hu] at this;exact x_ld hx (ld_sc s.h this)
theorem y_ldA {α:Type} {_:Flat α} {t sz n:Nat} {x:Operand} {C:Cells} {v:Value} {l:List α} {e:α} (hx:ev σ x=vat v sz n) [s:AgC P t] [z:SzC P t sz] (hs:Sl C v l) {ds:List Value} (de:DfC α e) (en:EncL (l.getD n e) ds) (hz:Elt.sz α=sz) (hle:C.Le w.cell?) (h1:n<l.length) :
    (execOp (ev σ) ⟨some d,.load t x,ty,pos,af,g⟩).run P w = .ok (.value (.agg ds.toArray)) w:=by
  subst hz;have:=(At.flat hs h1 e).mono hle;rw [en.h] at this;refine x_ld hx (ld_ag s.h ?_ this);rw [z.h,← en.h,Flat.enc_len]
theorem y_ldg {α:Type} {_:Elt α} {t sz n k:Nat} {x:Operand} {C:Cells} {v:Value} {l:List α} {e:α} {f:α->Value} (hx:ev σ x=fat (vat v sz n) k) [s:ScC P t] (hs:Sl C v l) (fc:FldC α k e f) (hz:Elt.sz α=sz) (hle:C.Le w.cell?) (h1:n<l.length) :
    (execOp (ev σ) ⟨some d,.load t x,ty,pos,af,g⟩).run P w = .ok (.value (f (l.getD n e))) w:=by
  subst hz;exact x_ld hx (ld_sc s.h ((fc.h hs h1).mono hle))
theorem y_ldp {t:TypeId} {x:Operand} {p v:Value} (hx:ev σ x=p) [s:ScC P t] (ha:At w.cell? p [v]) :
    (execOp (ev σ) ⟨some d,.load t x,ty,pos,af,g⟩).run P w = .ok (.value v) w:=x_ld hx (ld_sc s.h ha)
theorem y_bld {t:TypeId} {z:Value} {zs:List Value} (L':List Value) {pl:List (Nat × Nat)} {parts:Array (Nat × Operand)} {ps:List (Nat × Value)}
    (hps:parts.toList.map (fun x=>(x.1,ev σ x.2))=ps) [a:AlC P t z] (hzc:z.cells=zs.toArray) [b:BdC P t pl] (hf:Fill pl zs ps L') :
    (execOp (ev σ) ⟨some d,.build t parts,ty,pos,af,g⟩).run P w = .ok (.value (.agg L'.toArray)) w:=by
  obtain ⟨fs,hu,hp⟩:=b.h;exact x_bld hps hu a.h hzc hp hf
theorem y_len {α:Type} {_:Elt α} {t e sz by':Nat} {z:Value} {x:Operand} {C:Cells} {v:Value} {l:List α} [T:TlC P t e sz by' z] (h:ev σ x=v) (hs:Sl C v l) :
    (execOp (ev σ) ⟨some d,.call ⟨.builtin .len,#[x],#[t]⟩,ty,pos,af,g⟩).run P w = .ok (.value (.int .i64 l.length)) w:=x_lenS T.h.und h hs
theorem y_ix {α:Type} {_:Elt α} {t e sz by' n:Nat} {z:Value} {x y:Operand} {C:Cells} {v:Value} {l:List α} {kd:IntKind} {i:Int} [T:TlC P t e sz by' z] (hx:ev σ x=v) (hy:ev σ y = .int kd i) (ix:IxC i n) (hs:Sl C v l) (hz:Elt.sz α=sz) (h0:0<=i) (h1:i<l.length) :
    (execOp (ev σ) ⟨some d,.indexAddr t x y,ty,pos,af,g⟩).run P w = .ok (.value (vat v sz n)) w:=by
  subst hz;have:=Sl.ix (w:=w) (kd:=kd) T.h.und T.h.size hs h0 h1;rw [ix.h] at this;exact x_ix hx hy this
end
section
variable {P:Program} {all rest:List Oper} {Q:Post} {σ:Env} {w0 w:World} {L L' R:List Chunk} {ty:TypeId} {pos:String} {af:Array Edge}
theorem y_alloc {d:Nat} {e:TypeId} {z:Value} {cs:List Value} (H:St w0 w L R) [a:AlC P e z] (hv:z.cells=cs.toArray)
    (k:∀ b w',St w0 w' (cBlk b cs e :: L) R->SL P all Q rest (upd σ d (.pointer (some ⟨b,0,none⟩))) w'):SL P all Q (⟨some d,.alloc e,ty,pos,af,none⟩ :: rest) σ w:=t_alloc H a.h hv k
theorem y_sw {dst:Option Nat} {t:TypeId} {x y:Operand} {b off n:Nat} {cs vs cs':List Value} {v:Value} {et:TypeId} (H:St w0 w L R) (hx:ev σ x = .pointer (some ⟨b,off,none⟩)) (hy:ev σ y=v) (hv:v.cells=vs.toArray)
    (hk:BlkR L b cs et) [z:SzC P t n] (hc:OverR cs off vs cs') (hL:BlkW L b cs cs' et L') (hn:vs.length=n) (hl:Nat.ble (off+n) cs.length=true) (h1:vs.all (·.oneCell')=true)
    (kk:∀ w',St w0 w' L' R->SL P all Q rest (updo σ dst undef) w'):SL P all Q (⟨dst,.store t x y,ty,pos,af,none⟩ :: rest) σ w:=by
  obtain ⟨k,h2,h3⟩:=hL.h;exact t_st (k:=k) H h2 hx hy z.h hv hn hl h1 (by rw [← hn]; exact hc.is) h3 kk
end
theorem W.cnd {rr:Option Nat} {P:Program} {n:Nat} {Q:Post} {σ:Env} {w:World} {α:Type} {b:Bool} {x y:M α} {r:α} {c:Operand} {cx cy:Code} {p p':Prop} (hM:(bif b then x else y).Ends r) (hc:ev σ c = .bool b) [h1:DcQ b true p] [h2:DcQ b false p']
    (ht:p->x.Ends r->WR rr P n cx Q σ w) (hf:p'->y.Ends r->WR rr P n cy Q σ w):WR rr P n (.cond c cx cy) Q σ w :=
  W.cond b hc (fun e=>ht (h1.to e) (M.e_t hM e)) (fun e=>hf (h2.to e) (M.e_f hM e))
instance {x:Int}:EncL x [I x]:=⟨rfl⟩
instance {x:Bool}:EncL x [B x]:=⟨rfl⟩
/-- A slice that reads as a list. -/
theorem jS {A:Prop} (h:A:=by first | assumption | exact H.os 0 | exact H.os 1 | exact H.os 2 | exact H.os 3 | exact H.os 4 | exact H.os 5 | exact H.os 6 | exact H.os 7 | exact H.os 8 | exact H.os 9 | exact (by assumption:_=true->Sl _ _ _) hg):A:=h
/-- Cells that can be read. -/
theorem jL {A:Prop} (h:A:=by first | exact Reads.at (by assumption) H | exact H.ol 0 | exact H.ol 1 | exact H.ol 2 | exact H.ol 3 | exact H.ol 4 | exact H.ol 5 | exact H.ol 6 | exact H.ol 7 | exact H.ol 8 | exact H.ol 9):A:=h
/-- A bound. -/
theorem jO {A:Prop} (h:A:=by first | omega | (have hx_:=hg; simp at hx_; omega) | (have hx_:=hg; simp at hx_; simp only [hg,Bool.true_eq_false,Bool.false_eq_true,reduceCtorEq,false_or,true_or,Bool.not_true,Bool.not_false] at *; omega) | (simp only [hg,Bool.true_eq_false,Bool.false_eq_true,reduceCtorEq,false_or,true_or,Bool.not_true,Bool.not_false] at *; omega)):A:=h
/-- A guard. -/
theorem jB {A:Prop} (h:A:=by first | exact hb | (rw [hb]; rfl) | simp_all):A:=h
/-- A frame. -/
theorem jQ {A:Prop} (h:A:=by exact upds_of _ _ (by repeat (first | exact trivial | refine And.intro rfl ?_))):A:=h
/-- A struct that is filled. -/
theorem jF {A:Prop} (h:A:=by repeat (first | exact Fill.nil | refine Fill.cons rfl rfl rfl rfl rfl ?_ | refine Fill.cons (Sl.cells (by assumption)) rfl rfl rfl rfl ?_ | refine Fill.cons (Sl.cells jS) rfl rfl rfl rfl ?_)):A:=h
/-- A value under a guard, or none. -/
theorem jG {A:Prop} (h:A:=by first | exact gd_of hg _ | ((conv=>lhs; whnf) <;> rfl)):A:=h
/-- A value. -/
theorem jE {A:Prop} (h:A:=by ((conv=>lhs; whnf) <;> rfl)):A:=h
/-- One operation. -/
theorem jU {A:Prop} (h:A:=by 
    first
      | (apply x_mv; exact jE)
      | (apply x_as; exact jE)
      | (apply y_fab; rfl; exact inferInstance; rfl)
      | (apply y_ldb; rfl; exact H.bq; rfl)
      | (apply x_cmp; rfl; rfl; rfl)
      | (apply y_len; exact jE; exact jS)
      | (apply y_ix; exact jE; rfl; exact inferInstance; exact jS; rfl; exact jO; exact jO)
      | (apply y_fav; rfl; rfl; exact jS; rfl; exact jO)
      | (apply y_faw; rfl; exact inferInstance; rfl; exact jS; rfl; exact jO)
      | (apply y_lds; rfl; exact jS; exact inferInstance; exact inferInstance; rfl; rfl; exact jL; exact jO)
      | (apply y_ldf; rfl; exact jS; exact inferInstance; exact inferInstance; rfl; rfl; exact jL; exact jO)
      | (apply y_ldg; rfl; exact jS; exact inferInstance; rfl; exact jL; exact jO)
      | (apply y_ldA; rfl; exact jS; exact inferInstance; exact inferInstance; rfl; exact jL; exact jO)
      | (apply y_ldp; rfl; exact At.mono (by assumption) jL)
      | (apply x_ari; rfl; rfl; rfl; exact jO)
      | (apply x_ext; rfl; rfl)
      | (apply x_nc; rfl)
      | (apply y_lda; rfl; exact H.bq; exact inferInstance; rfl)
      | (apply y_ldb; rfl; exact (by assumption:Has _ (cBlk _ _ _)).blk H; rfl)
      | (apply x_not; rfl)
      | (apply x_max; rfl; rfl)
      | (apply x_min; rfl; rfl)
      | (apply x_quo; rfl; rfl; exact jO)
      | (apply x_por; rfl; rfl; exact fun hb=>gd_of jB _)
      | (apply x_pand; rfl; exact fun hb=>gd_of jB _; rfl)):A:=h
/-- One operation under a guard. -/
theorem jV {A:Prop} (h:A:=by 
    first
      | (apply x_mv; exact jG)
      | (apply x_as; exact jG)
      | (apply y_fab; exact jG; exact inferInstance; rfl)
      | (apply y_ldb; exact jG; exact H.bq; rfl)
      | (apply x_cmp; exact jG; exact jG; rfl)
      | (apply y_len; exact jG; exact jS)
      | (apply y_ix; exact jG; exact jG; exact inferInstance; exact jS; rfl; exact jO; exact jO)
      | (apply y_fav; exact jG; rfl; exact jS; rfl; exact jO)
      | (apply y_faw; exact jG; exact inferInstance; rfl; exact jS; rfl; exact jO)
      | (apply y_lds; exact jG; exact jS; exact inferInstance; exact inferInstance; rfl; rfl; exact jL; exact jO)
      | (apply y_ldf; exact jG; exact jS; exact inferInstance; exact inferInstance; rfl; rfl; exact jL; exact jO)
      | (apply y_ldg; exact jG; exact jS; exact inferInstance; rfl; exact jL; exact jO)
      | (apply y_ldA; exact jG; exact jS; exact inferInstance; exact inferInstance; rfl; exact jL; exact jO)
      | (apply y_ldp; exact jG; exact At.mono (by assumption) jL)
      | (apply x_ari; exact jG; exact jG; rfl; exact jO)
      | (apply x_ext; exact jG; rfl)
      | (apply x_nc; exact jG)
      | (apply y_lda; exact jG; exact H.bq; exact inferInstance; rfl)
      | (apply y_ldb; exact jG; exact (by assumption:Has _ (cBlk _ _ _)).blk H; rfl)
      | (apply x_not; exact jG)
      | (apply x_max; exact jG; exact jG)
      | (apply x_min; exact jG; exact jG)
      | (apply x_quo; exact jG; exact jG; exact jO)
      | (apply x_por; exact jG; exact jG; exact fun hb=>gd_of jB _)
      | (apply x_pand; exact jG; exact fun hb=>gd_of jB _; exact jG)):A:=h
/-- What is left. -/
structure Left (B:Prop):Prop where
  h:B
/-- How many steps are left. -/
structure Cnt (n:Nat):Prop where
  h:n=n
theorem Cnt.dn {n:Nat} (c:Cnt (n+1)):Cnt n:=⟨rfl⟩
/-- So many plain steps. -/
theorem kg {A B:Prop} (n:Nat) (q:B) (f:Cnt n->Left B->A:=by
    intro cnt q
    (repeat (replace cnt:=Cnt.dn cnt; first
      | (apply s_val; exact jU)
      | refine s_nil ?_
      | refine W.seq ?_
      | refine W.region rfl ?_
      | refine W.skip ?_
      | refine W.block ?_
      | (apply d_q; rfl; (intro w' H; exact jU))
      | (apply t_q; rfl; (intro w' H; exact jU))
      | (apply ts_q; rfl; (intro w' H; exact jU))
      | (apply g_val; (first | exact gy_t rfl | exact gy_f rfl | exact gy_gt rfl rfl | exact gy_gf rfl rfl); (intro hg; exact jV))
      | (apply d_qg; rfl; (first | exact gy_t rfl | exact gy_f rfl | exact gy_gt rfl rfl | exact gy_gf rfl rfl); (intro hg w' H; exact jV))
      | (apply t_qg; rfl; (first | exact gy_t rfl | exact gy_f rfl | exact gy_gt rfl rfl | exact gy_gf rfl rfl); (intro hg w' H; exact jV))
      | refine t_nil ?_
      | refine d_nil ?_
      | refine ts_nil ?_))
    exact q.h):A:=f ⟨rfl⟩ ⟨q⟩
/-- A store. -/
theorem ksw {A B:Prop} (q:B) (f:Left B->A:=by intro q; apply y_sw H; rfl; exact jE; rfl; exact inferInstance; exact inferInstance; exact inferInstance; rfl; rfl; rfl; exact q.h):A:=f ⟨q⟩
/-- New memory. -/
theorem kal {A B:Prop} (q:B) (f:Left B->A:=by intro q; apply y_alloc H; rfl; exact q.h):A:=f ⟨q⟩
/-- A box. -/
theorem kbx {A B:Prop} (q:B) (f:Left B->A:=by intro q; apply t_box H; exact jE; rfl; exact q.h):A:=f ⟨q⟩
/-- Returns. -/
theorem rt {A:Prop} (h:A:=by
    refine W.ret ⟨_,(by first | exact resE_tmp rfl | exact resE_tmp2 rfl | exact resE_tmp3 rfl | exact resE_tmp4 rfl),?_⟩;first
      | exact ⟨_,M.e_pure hM,rfl,H⟩
      | exact ⟨_,M.e_pure hM,rfl,H.pk []⟩
      | exact ⟨_,_,M.e_pure hM,rfl,H⟩
      | exact ⟨_,_,M.e_pure hM,rfl,H.pk []⟩
      | exact ⟨_,_,_,M.e_pure hM,rfl,H⟩
      | exact ⟨_,_,_,M.e_pure hM,rfl,H.pk []⟩
      | exact ⟨_,_,_,_,M.e_pure hM,rfl,H⟩
      | exact ⟨_,_,_,_,M.e_pure hM,rfl,H.pk []⟩
      | exact ⟨_,_,_,_,_,M.e_pure hM,rfl,H⟩
      | exact ⟨_,_,_,_,_,M.e_pure hM,rfl,H.pk []⟩
      | exact ⟨_,_,_,_,_,_,M.e_pure hM,rfl,H⟩
      | exact ⟨_,_,_,_,_,_,M.e_pure hM,rfl,H.pk []⟩
      | exact ⟨_,_,_,_,_,_,_,M.e_pure hM,rfl,H⟩
      | exact ⟨_,_,_,_,_,_,_,M.e_pure hM,rfl,H.pk []⟩
      | exact ⟨_,_,_,_,_,_,_,_,M.e_pure hM,rfl,H⟩
      | exact ⟨_,_,_,_,_,_,_,_,M.e_pure hM,rfl,H.pk []⟩
      | exact ⟨_,_,_,_,_,_,_,_,_,M.e_pure hM,rfl,H⟩
      | exact ⟨_,_,_,_,_,_,_,_,_,M.e_pure hM,rfl,H.pk []⟩
      | exact ⟨_,_,_,_,_,_,_,_,_,_,M.e_pure hM,rfl,H⟩
      | exact ⟨_,_,_,_,_,_,_,_,_,_,M.e_pure hM,rfl,H.pk []⟩):A:=h
end Go.Nm
section
set_option maxRecDepth 100000
set_option maxHeartbeats 16000000
namespace Go.Nm
open Go
universe u
/-- A function that can be called. -/
def cfb (P:Program) (f:Nat):Bool:=match P.funcs[f]? with
  | some fn => fn.body.isSome && !(fn.name == "runtime.NumGoroutine")
  | none=>false
theorem cfb_of {P:Program} {f:Nat} (h:cfb P f=true):CF P f:=by
  unfold cfb at h;cases e:P.funcs[f]? with
  | none=>rw [e] at h; cases h
  | some fn =>
    rw [e] at h;simp only [Bool.and_eq_true,Bool.not_eq_true'] at h;exact ⟨fn,e,h.1,h.2⟩
/-- Operands' values, one by one. -/
inductive Evs (σ:Env):List Operand->List Value->Prop
  | nil:Evs σ [] []
  | cons {x:Operand} {v:Value} {xs:List Operand} {vs:List Value} (h:ev σ x=v) (t:Evs σ xs vs):Evs σ (x :: xs) (v :: vs)
theorem Evs.is {σ:Env} {xs:List Operand} {vs:List Value} (h:Evs σ xs vs):xs.map (ev σ)=vs:=by
  induction h with
  | nil=>rfl
  | cons h _ ih=>rw [List.map_cons,h,ih]
/-- The parts of a struct with their values, laid one after the other. -/
inductive FilE (σ:Env) (pl:List (Nat × Nat)):List Value->List (Nat × Operand)->List Value->Prop
  | nil {L:List Value}:FilE σ pl L [] L
  | cons {L cs L1 L':List Value} {i off n:Nat} {x:Operand} {v:Value} {rest:List (Nat × Operand)} (hx:ev σ x=v) (hv:v.cells=cs.toArray) (hp:pl[i]?=some (off,n)) (hn:cs.length=n) (ho:OverR L off cs L1) (hle:Nat.ble (off+n) L.length=true)
      (h:FilE σ pl L1 rest L'):FilE σ pl L ((i,x) :: rest) L'
theorem FilE.is {σ:Env} {pl:List (Nat × Nat)} {L:List Value} {ps:List (Nat × Operand)} {L':List Value} (h:FilE σ pl L ps L'):Fill pl L (ps.map fun x=>(x.1,ev σ x.2)) L':=by
  induction h with
  | nil=>exact .nil
  | cons hx hv hp hn ho hle _ ih=>exact .cons (by rw [hx]; exact hv) hp hn hle (by rw [← hn]; exact ho.is) ih
/-- Values of a slice literal. -/
inductive PtE (σ:Env):Nat->List (Nat × Operand)->List Value->Prop
  | nil {k:Nat}:PtE σ k [] []
  | cons {k:Nat} {x:Operand} {v:Value} {xs:List (Nat × Operand)} {vs:List Value} (h:ev σ x=v) (t:PtE σ (k+1) xs vs):PtE σ k ((k,x) :: xs) (v :: vs)
theorem PtE.is {σ:Env} {k:Nat} {xs:List (Nat × Operand)} {vs:List Value} (h:PtE σ k xs vs):xs.map (fun x=>(x.1,ev σ x.2))=(vs.zipIdx k).map fun x=>(x.2,x.1):=by
  induction h with
  | nil=>rfl
  | cons h _ ih=>rw [List.map_cons,List.zipIdx_cons,List.map_cons,ih]; simp [h]
/-- Values of plain data. -/
inductive RepE {α:Type} [Flat α]:List Value->List α->Prop
  | nil:RepE [] []
  | cons {v:Value} {x:α} {vs:List Value} {l:List α} (h:v.cells=(Flat.enc x:List Value).toArray) (t:RepE vs l):RepE (v :: vs) (x :: l)
theorem RepE.is {α:Type} [Flat α] {C:Cells} {vs:List Value} {l:List α} (h:RepE vs l):Reps C vs l:=by
  induction h with
  | nil=>exact .nil
  | cons h _ ih=>exact .cons h (Flat.rep_enc _ _) ih
theorem all_c {α:Type u} {f:α->Bool} {a:α} {l:List α} (h:f a=true) (t:l.all f=true):(a :: l).all f=true:=by simp [h,t]
/-- A slice that reads as a list; cells that a callee reads. -/
theorem jSl {α:Type} {_:Elt α} {C:Cells} {v:Value} {l:List α} (h:Sl C v l:=by first | assumption | exact H.os 0 | exact H.os 1 | exact H.os 2 | exact H.os 3 | exact H.os 4 | exact H.os 5 | exact H.os 6 | exact H.os 7 | exact H.os 8 | exact H.os 9 | exact H.os 10 | exact H.os 11):Sl C v l:=h
theorem jRd {R:List Chunk} {C:Cells} (h:Reads R C:=by first | assumption | exact Reads.none | exact Reads.app (by assumption) _ | exact rdo 0 | exact rdo 1 | exact rdo 2 | exact rdo 3 | exact rdo 4 | exact rdo 5 | exact rdo 6 | exact rdo 7 | exact rdo 8 | exact rdo 9 | exact rdo 10 | exact rdo 11):Reads R C:=h
/-- One-cell values. -/
theorem jK {A:Prop} (h:A:=by first | rfl | (repeat (first | exact List.all_nil | (refine all_c (by first | rfl | exact Sl.oc jSl) ?_)))):A:=h
theorem jA {A:Prop} (h:A:=by (repeat (first | exact Evs.nil | (apply Evs.cons; exact jE))); fail_if_success focus skip):A:=h
theorem jFE {A:Prop} (h:A:=by (repeat (first | exact FilE.nil | (apply FilE.cons; exact jE; (first | exact Sl.cells jSl | rfl); rfl; rfl; exact inferInstance; rfl))); fail_if_success focus skip):A:=h
theorem jPt {A:Prop} (h:A:=by (repeat (first | exact PtE.nil | (apply PtE.cons; exact jE))); fail_if_success focus skip):A:=h
/-- A list of numbers that is handed on. -/
structure PkS (l:List Nat):Prop where
  h:l=l
/-- A term that is handed on. -/
structure TmS {α:Sort u} (a:α):Prop where
  h:a=a
section
variable {w0 w:World} {L L' L1 R:List Chunk}
theorem St.gtA (h:St w0 w L R) [n:NfR L L1]:St w w [] (L1++R):=h.nf.give rfl
theorem St.pkS {l:List Nat} (h:St w0 w L R) (c:PkS l) [n:NfR L L1] [p:PickR L1 l L'] (hn:l.Nodup:=by decide):St w0 w L' R:=h.nf.pick l hn p.is
end
section
variable {P:Program} {w:World} {σ:Env} {d:Nat} {ty:TypeId} {pos:String} {af:Array Edge} {g:Option (Nat × Bool)}
theorem y_bldE {t:TypeId} {z:Value} {zs L':List Value} {pl:List (Nat × Nat)} {parts:Array (Nat × Operand)} [a:AlC P t z] [b:BdC P t pl] (hzc:z.cells=zs.toArray) (hf:FilE σ pl zs parts.toList L') :
    (execOp (ev σ) ⟨some d,.build t parts,ty,pos,af,g⟩).run P w = .ok (.value (.agg L'.toArray)) w:=by
  obtain ⟨fs,hu,hp⟩:=b.h;exact x_bld rfl hu a.h hzc hp hf.is
theorem y_rla {t:TypeId} {b off n:Nat} {cs ds:List Value} {et:TypeId} {fr:Nat × Nat} [s:AgC P t] [z:SzC P t n] (h:w.heap[b]?=some (.cells cs.toArray et fr)) (q:SubR cs off n ds) (hn:ds.length=n) :
    (loadVar t ⟨b,off,none⟩).run P w = .ok (.agg ds.toArray) w:=run_loadVar_ag s.h z.h h q.h hn
theorem y_rls {t:TypeId} {b off:Nat} {cs:List Value} {et:TypeId} {fr:Nat × Nat} {v:Value} [s:ScC P t] (h:w.heap[b]?=some (.cells cs.toArray et fr)) (hv:(cs.drop off).take 1=[v]) :
    (loadVar t ⟨b,off,none⟩).run P w = .ok v w:=run_loadVar_sc s.h h hv
end
section
variable {P:Program} {all rest:List Oper} {Q:Post} {σ:Env} {w0 w:World} {L L' L1 R:List Chunk} {ty:TypeId} {pos:String} {af:Array Edge}
theorem s_calle {f:FuncId} {dst:Option Nat} {ops:Array Operand} {ts:Array TypeId} {args:List Value} {R:Value->World->Prop} (hcf:CF P f) (ha:Evs σ ops.toList args)
    (hc:Ret P f args.toArray w R) (k:∀ v w',R v w'->SL P all Q rest (updo σ dst v) w') :
    SL P all Q (⟨dst,.call ⟨.value (.func f),ops,ts⟩,ty,pos,af,none⟩ :: rest) σ w:=s_call hcf args ha.is hc k
theorem y_bs {α:Type} [Flat α] {d:Nat} {t e sz by':Nat} {z:Value} {parts:Array (Nat × Operand)} [T:TlC P t e sz by' z] {l:List α} {vs:List Value} (cl:TmS l) (H:St w0 w L R) (hz:Elt.sz α=sz)
    (hp:PtE σ 0 parts.toList vs) (hr:RepE vs l) {n:Nat} (hn:l.length=n) (h0:Nat.blt 0 n=true) (aa:Nat.ble (n*sz) 16777216=true)
    (k:∀ u w',St w0 w' (cOwn e u l :: L) R->SL P all Q rest (upd σ d u) w'):SL P all Q (⟨some d,.buildSlice t n parts,ty,pos,af,none⟩ :: rest) σ w:=by
  subst hz;exact t_bs T.h vs l H hp.is hr.is hn h0 aa k
/-- An own row of a value, found among the parts. -/
class OwnW {α:Type} [Flat α] (L:List Chunk) (v:Value) (e:outParam TypeId) (l:outParam (List α)) (o:outParam (Value->List α->List Chunk)):Prop where
  h:∃ k:Nat,L[k]?=some (cOwn e v l)/\∀ v' l',L.set k (cOwn e v' l')=o v' l'
instance {α:Type} [Flat α] {L:List Chunk} {v:Value} {e:TypeId} {l:List α}:OwnW (cOwn e v l :: L) v e l (fun v' l'=>cOwn e v' l' :: L):=⟨⟨0,rfl,fun _ _=>rfl⟩⟩
instance (priority:=low) {α:Type} [Flat α] {c:Chunk} {L:List Chunk} {v:Value} {e:TypeId} {l:List α} {o:Value->List α->List Chunk} [h:OwnW L v e l o]:OwnW (c :: L) v e l (fun v' l'=>c :: o v' l'):=⟨by
  obtain ⟨k,h1,h2⟩:=h.h;exact ⟨k+1,by simpa using h1,fun v' l'=>by rw [List.set_cons_succ,h2]⟩⟩
theorem y_app {α:Type} {_:Flat α} {d:Nat} {t e sz by':Nat} {z:Value} {x y:Operand} {v vy:Value} {l l2:List α} {C:Cells} {o:Value->List α->List Chunk} (H:St w0 w L R) (hx:ev σ x=v) (hy:ev σ y=vy) (hs:Sl C vy l2) (hk:OwnW L v e l o)
    [T:TlC P t e sz by' z] (hz:Elt.sz α=sz) (hb:Nat.blt 0 by'=true) (hle:C.Le w.cell?) (hn:(l.length+l2.length)*by'<=140737488355328)
    (kk:∀ v' w',St w0 w' (o v' (l++l2)) R->SL P all Q rest (upd σ d v') w') :
    SL P all Q (⟨some d,.call ⟨.builtin .append,#[x,y],#[t,t]⟩,ty,pos,af,none⟩ :: rest) σ w:=by
  subst hz;obtain ⟨k,h1,h2⟩:=hk.h;exact t_app T.h hb H h1 hx hy hs hle rfl hn fun v' w' H'=>kk v' w' (by rw [← h2]; exact H')
theorem y_ost {α:Type} {_:Flat α} {dst:Option Nat} {e t sz n:Nat} {x y:Operand} {v val:Value} {l:List α} {o:Value->List α->List Chunk} {a:α} (ca:TmS a) (H:St w0 w L R) (hx:ev σ x=vat v sz n) (hk:OwnW L v e l o) (hz:Elt.sz α=sz) [hs:SzC P t sz] (h1:n<l.length) (hy:ev σ y=val) (hv:val.cells=(Flat.enc a:List Value).toArray)
    (kk:∀ w',St w0 w' (o v (l.set n a)) R->SL P all Q rest (updo σ dst undef) w'):SL P all Q (⟨dst,.store t x y,ty,pos,af,none⟩ :: rest) σ w:=by
  subst hz;obtain ⟨k,h2,h3⟩:=hk.h;exact t_ost (i:=(n:Int)) H h2 hs.h (by omega) (by omega) a (by simpa using hx) hy hv rfl rfl fun w' H'=>kk w' (by rw [← h3]; simpa using H')
theorem y_fst {α:Type} {_:Flat α} {dst:Option Nat} {e t sz n m off:Nat} {x y:Operand} {v val:Value} {l:List α} {o:Value->List α->List Chunk} {a:α} (ca:TmS a) (H:St w0 w L R) (hx:ev σ x=fat (vat v sz n) off) (hk:OwnW L v e l o) (hz:Elt.sz α=sz) [hs:SzC P t m] (h1:n<l.length) {d:α} (de:DfC α d) (hy:ev σ y=val) {vs:List Value} (hv:val.cells=vs.toArray) (hn:vs.length=m) (hoff:Nat.ble (off+m) sz=true)
    (hone:vs.all (·.oneCell')=true) (he:(Flat.enc a:List Value)=(Flat.enc (l.getD n d)).take off++vs++(Flat.enc (l.getD n d)).drop (off+vs.length))
    (kk:∀ w',St w0 w' (o v (l.set n a)) R->SL P all Q rest (updo σ dst undef) w'):SL P all Q (⟨dst,.store t x y,ty,pos,af,none⟩ :: rest) σ w:=by
  subst hz;obtain ⟨k,h2,h3⟩:=hk.h;exact t_fst (i:=(n:Int)) H h2 hs.h (by omega) (by omega) (l.getD n d) a (by simp [List.getD_eq_getElem?_getD,h1]) (by simpa using hx) hy vs hv hn hoff hone he rfl rfl fun w' H'=>kk w' (by rw [← h3]; simpa using H')
/-- An order: all quiet, one behind the other, but for some. -/
inductive OrdI:Nat->Nat->List Nat->List (Nat × Bool)->Prop
  | nil {k:Nat} {ls:List Nat}:OrdI k 0 ls []
  | l {k n:Nat} {ls:List Nat} {o:List (Nat × Bool)} (h:OrdI (k+1) n ls o):OrdI k (n+1) (k :: ls) ((k,false) :: o)
  | q {k n:Nat} {ls:List Nat} {o:List (Nat × Bool)} (h:OrdI (k+1) n ls o):OrdI k (n+1) ls ((k,true) :: o)
theorem jOr {A:Prop} (h:A:=by (repeat (first | exact OrdI.nil | apply OrdI.l | apply OrdI.q)); fail_if_success focus skip):A:=h
theorem W.drw {r:Option Nat} {n:Nat} {id m:Nat} {l:List Oper} {i ls:List Nat} {order:List (Nat × Bool)} (H:St w0 w L R) (ci:PkS i) (cl:PkS ls) [h1:NfR L L1] [h2:PickR L1 i L'] (hm:P.follows .mixedOrders=true) (hl:l.length=m) (ho:OrdI 0 m ls order) (hn:i.Nodup)
    (hB:(Region.noSelect l.toArray&&Nat.beq order.length l.length&&canonB .any l.toArray order (Array.replicate l.length false))=true)
    (hok:okDst n l=true) (h:∀ w1,St w0 w1 L R->SLD P l (fun W=>St w0 W L' R) Q order σ w1):WR r P n (.region id l.toArray true) Q σ w :=
  W.draw (fun W=>St w0 W L' R) order hm hB hok fun w1 hx=>⟨(H.ext hx).pk i hn,h w1 (H.ext hx)⟩
theorem W.drwo {r:Option Nat} {n:Nat} {id:Nat} {l:List Oper} {i:List Nat} {order:List (Nat × Bool)} (H:St w0 w L R) (ci:PkS i) (co:TmS order) [h1:NfR L L1] [h2:PickR L1 i L'] (hm:P.follows .mixedOrders=true) (hn:i.Nodup)
    (hB:(Region.noSelect l.toArray&&Nat.beq order.length l.length&&canonB .any l.toArray order (Array.replicate l.length false))=true)
    (hok:okDst n l=true) (h:∀ w1,St w0 w1 L R->SLD P l (fun W=>St w0 W L' R) Q order σ w1):WR r P n (.region id l.toArray true) Q σ w :=
  W.draw (fun W=>St w0 W L' R) order hm hB hok fun w1 hx=>⟨(H.ext hx).pk i hn,h w1 (H.ext hx)⟩
theorem W.drwT {r:Option Nat} {n:Nat} {id:Nat} {l:List Oper} {i:List Nat} {order:Ord} (H:St w0 w L R) (ci:PkS i) (co:TmS order) [h1:NfR L L1] [h2:PickR L1 i L'] (hm:P.follows .mixedOrders=true) (hn:i.Nodup)
    (hB:(Region.noSelect l.toArray&&canonT .any l.toArray order l.length (Array.replicate l.length false))=true)
    (hok:okDst n l=true) (h:∀ w1,St w0 w1 L R->SLT P l (fun W=>St w0 W L' R) Q order σ w1):WR r P n (.region id l.toArray true) Q σ w :=
  W.drawT (fun W=>St w0 W L' R) order hm hB hok fun w1 hx=>⟨(H.ext hx).pk i hn,h w1 (H.ext hx)⟩
theorem W.drwTS {r:Option Nat} {n:Nat} {id:Nat} {l:List Oper} {i:List Nat} {order:Ord} {m:Nat} {zs:List Nat} (H:St w0 w L R) (ci:PkS i) (co:TmS order) (cm:TmS m) (cz:PkS zs) [h1:NfR L L1] [h2:PickR L1 i L'] (hm:P.follows .mixedOrders=true) (hn:i.Nodup)
    (hB:(Region.noSelect l.toArray&&Nat.beq (m+zs.length) l.length&&canonTS .any l.toArray zs order m (Array.replicate l.length false))=true)
    (hok:okDst n l=true) (h:∀ w1,St w0 w1 L R->SLTS P l (fun W=>St w0 W L' R) zs Q order σ w1):WR r P n (.region id l.toArray true) Q σ w :=
  W.drawTS (fun W=>St w0 W L' R) order m zs hm hB hok fun w1 hx=>⟨(H.ext hx).pk i hn,h w1 (H.ext hx)⟩
end
/-- What stands at a place of a list. -/
class FindR {α:Type u} (l:List α) (x:α) (k:outParam Nat):Prop where
  is:l[k]?=some x
instance {α:Type u} {l:List α} {x:α}:FindR (x :: l) x 0:=⟨rfl⟩
instance (priority:=low) {α:Type u} {l:List α} {x y:α} {k:Nat} [h:FindR l x k]:FindR (y :: l) x (k+1):=⟨h.is⟩
class PickF {α:Type u} (l:List α) (o:List α) (i:outParam (List Nat)):Prop where
  is:i.mapM (fun j=>l[j]?)=some o
instance {α:Type u} {l:List α}:PickF l [] []:=⟨rfl⟩
instance {α:Type u} {l o:List α} {i:Nat} {is:List Nat} {x:α} [h:FindR l x i] [k:PickF l o is]:PickF l (x :: o) (i :: is):=⟨by rw [List.mapM_cons,h.is,k.is]; rfl⟩
theorem St.pf {w0 w:World} {L L1 L' R:List Chunk} {i:List Nat} (h:St w0 w L R) [n:NfR L L1] [p:PickF L1 L' i] (hn:i.Nodup:=by decide):St w0 w L' R:=h.nf.pick i hn p.is
/-! ### Steps -/
theorem kgC {A B:Prop} {n:Nat} (c:Cnt n) (q:B) (f:Cnt n->Left B->A:=by
    intro cnt q
    (repeat (replace cnt:=Cnt.dn cnt; first
      | (apply s_val; exact jU)
      | refine s_nil ?_
      | refine W.seq ?_
      | refine W.region rfl ?_
      | refine W.skip ?_
      | refine W.block ?_
      | (apply d_q; rfl; (intro w' H; exact jU))
      | (apply t_q; rfl; (intro w' H; exact jU))
      | (apply ts_q; rfl; (intro w' H; exact jU))
      | (apply g_val; (first | exact gy_t rfl | exact gy_f rfl | exact gy_gt rfl rfl | exact gy_gf rfl rfl); (intro hg; exact jV))
      | (apply d_qg; rfl; (first | exact gy_t rfl | exact gy_f rfl | exact gy_gt rfl rfl | exact gy_gf rfl rfl); (intro hg w' H; exact jV))
      | (apply t_qg; rfl; (first | exact gy_t rfl | exact gy_f rfl | exact gy_gt rfl rfl | exact gy_gf rfl rfl); (intro hg w' H; exact jV))
      | refine t_nil ?_
      | refine d_nil ?_
      | refine ts_nil ?_
      | refine d_l rfl ?_
      | refine t_l rfl ?_
      | refine sr_l rfl ?_
      | refine ts_l rfl ?_
      | (apply s_val; apply y_bldE; rfl; exact jFE)
      | (apply d_q; rfl; (intro w' H; apply y_bldE; rfl; exact jFE))
      | (apply t_q; rfl; (intro w' H; apply y_bldE; rfl; exact jFE))
      | (apply ts_q; rfl; (intro w' H; apply y_bldE; rfl; exact jFE))))
    exact q.h):A:=f c ⟨q⟩
/-- So many plain steps. -/
theorem kG {A B:Prop} (n:Nat) (q:B) (f:Cnt n->Left B->A:=by intro c_ q_; exact kgC c_ q_.h):A:=f ⟨rfl⟩ ⟨q⟩
/-- A store. -/
theorem kS {A B:Prop} (n:Nat) (q:B) (f:Cnt n->Left B->A:=by intro c_ q_; refine kgC c_ ?_; apply y_sw H; rfl; exact jE; (first | exact Sl.cells jSl | rfl); exact inferInstance; exact inferInstance; exact inferInstance; rfl; rfl; exact jK; exact q_.h):A:=f ⟨rfl⟩ ⟨q⟩
/-- New memory. -/
theorem kA {A B:Prop} (n:Nat) (q:B) (f:Cnt n->Left B->A:=by intro c_ q_; refine kgC c_ ?_; apply y_alloc H; rfl; exact q_.h):A:=f ⟨rfl⟩ ⟨q⟩
/-- A box. -/
theorem kB {A B:Prop} (n:Nat) (q:B) (f:Cnt n->Left B->A:=by intro c_ q_; refine kgC c_ ?_; apply t_box H; exact jE; (first | exact Sl.cells jSl | exact FnM.cells (by assumption) | rfl); exact q_.h):A:=f ⟨rfl⟩ ⟨q⟩
/-- A condition. -/
theorem kI {A B C:Prop} (n:Nat) (p:B) (q:C) (f:Cnt n->Left B->Left C->A:=by intro c_ p_ q_; refine kgC c_ ?_; exact W.cnd hM rfl p_.h q_.h):A:=f ⟨rfl⟩ ⟨p⟩ ⟨q⟩
/-- A slice literal of plain data. -/
theorem jRe {A:Prop} (h:A:=by (repeat (first | exact RepE.nil | refine RepE.cons rfl ?_ | refine RepE.cons (Sl.cells jSl) ?_)); fail_if_success focus skip):A:=h
theorem kL {α:Type} {A B:Prop} (n:Nat) (l:List α) (q:B) (f:Cnt n->TmS l->Left B->A:=by
    intro c_ l_ q_;refine kgC c_ ?_;apply y_bs l_ H; rfl; exact jPt; exact jRe; rfl; rfl; rfl;exact q_.h):A:=f ⟨rfl⟩ ⟨rfl⟩ ⟨q⟩
/-- A store into an own row; into a field of a row's element. -/
theorem kO {α:Type} {A B:Prop} (n:Nat) (a:α) (q:B) (f:Cnt n->TmS a->Left B->A:=by
    intro c_ l_ q_;refine kgC c_ ?_;first
      | (apply y_ost l_ H; rfl; exact inferInstance; rfl; exact jO; exact jE; rfl; intro w_ H; revert H; revert w_; exact q_.h)
      | (apply y_fst l_ H; rfl; exact inferInstance; rfl; exact jO; exact inferInstance; exact jE; rfl; rfl; rfl; rfl; rfl; intro w_ H; revert H; revert w_; exact q_.h)):A:=f ⟨rfl⟩ ⟨rfl⟩ ⟨q⟩
/-- An append to an own row. -/
theorem jAp {A:Prop} (h:A:=by first | omega | (simp only [List.length_nil] at *; omega) | (simp only [List.length_nil,List.length_cons] at *; omega)):A:=h
theorem kP {A B:Prop} (n:Nat) (q:B) (f:Cnt n->Left B->A:=by
    intro c_ q_;refine kgC c_ ?_;apply y_app H; exact jE; exact jE; exact jSl; exact inferInstance; rfl; rfl; exact jL; exact jAp;intro v_ w_ H;revert H; revert w_; revert v_;exact q_.h):A:=f ⟨rfl⟩ ⟨q⟩
/-- A call. -/
theorem kC {A B C:Prop} (n:Nat) (c:C) (q:B) (f:Cnt n->C->Left B->A:=by
    intro n_ c_ q_;refine kgC n_ ?_;obtain ⟨_,aa,hM⟩:=M.e_bind hM;apply s_calle cq jA
    · apply c_ (hM:=aa)

      (try any_goals (first | exact H.gtA | exact H.gt 0 | exact H.gt 1 | exact H.gt 2 | exact H.gt 3 | exact H.gt 4 | exact H.gt 5 | exact H.gt 6 | exact H.gt 7 | exact H.gt 8))
      (try any_goals exact jSl)
      all_goals first
        | exact jRd
        | exact Has.app (by assumption) _
        | exact Fld.app (by assumption) _
        | exact FnM.app (by assumption) _
        | assumption
        | exact Has.here (k:=0) rfl | exact Has.here (k:=1) rfl | exact Has.here (k:=2) rfl | exact Has.here (k:=3) rfl | exact Has.here (k:=4) rfl | exact Has.here (k:=5) rfl | exact Has.here (k:=6) rfl | exact Has.here (k:=7) rfl | exact Has.here (k:=8) rfl
        | exact Fld.here (k:=0) rfl rfl | exact Fld.here (k:=1) rfl rfl | exact Fld.here (k:=2) rfl rfl | exact Fld.here (k:=3) rfl rfl | exact Fld.here (k:=4) rfl rfl | exact Fld.here (k:=5) rfl rfl | exact Fld.here (k:=6) rfl rfl
        | exact jO
    · intro v_ w_ h_; clear aa
      repeat (first
        | (replace H:=H.bk h_; clear h_)
        | (replace H:=H.bk h_.1; replace h_:=h_.2)
        | (obtain ⟨e_,h_⟩:=h_; subst v_)
        | obtain ⟨rfl,h_⟩:=h_
        | obtain ⟨y_,h_⟩:=h_)
      revert H;revert hM
      (try revert h_)
      (repeat revert y_)
      (try revert v_)
      revert w_;exact q_.h):A:=f ⟨rfl⟩ c ⟨q⟩
/-- Results out of memory. -/
theorem jC {A:Prop} (h:A:=by (repeat (first | exact Res.nil | (apply Res.tmp; exact jE) | (apply Res.cell; rfl; (first | (apply y_rla; exact H.bq; exact inferInstance; rfl) | (apply y_rls; exact H.bq; rfl))))); fail_if_success focus skip):A:=h
theorem kR {A:Prop} (n:Nat) (l:List Nat) (f:Cnt n->PkS l->A:=by
    intro n_ c_;refine kgC n_ ?_;refine W.ret ⟨_,(by first | exact resE_tmp rfl | exact resE_tmp2 rfl | exact resE_tmp3 rfl | exact resE_tmp4 rfl | exact resE_tmp0 rfl | exact resE_of1 rfl jC | exact resE_ofn rfl rfl jC),?_⟩
    repeat (first
      | exact ⟨M.e_pure hM,rfl,H.pkS c_⟩
      | exact ⟨M.e_pure hM,rfl,H.pkS c_,jX⟩
      | apply Exists.intro)
    fail_if_success focus skip):A:=f ⟨rfl⟩ ⟨rfl⟩
theorem kR0 {A:Prop} (n:Nat) (f:Cnt n->A:=by
    intro n_;refine kgC n_ ?_;refine W.ret ⟨_,(by first | exact resE_tmp rfl | exact resE_tmp2 rfl | exact resE_tmp3 rfl | exact resE_tmp4 rfl | exact resE_tmp0 rfl | exact resE_of1 rfl jC | exact resE_ofn rfl rfl jC),?_⟩
    repeat (first
      | exact ⟨M.e_pure hM,rfl,H⟩
      | exact ⟨M.e_pure hM,rfl,H,jX⟩
      | apply Exists.intro)
    fail_if_success focus skip):A:=f ⟨rfl⟩
/-- What is aa of a result. -/
theorem jX {A:Prop} (h:A:=by first | assumption | exact H.os 0 | exact H.os 1 | exact H.os 2 | trivial):A:=h
/-- The next round; the first one. -/
theorem kX {A:Prop} (n:Nat) (f:Cnt n->A:=by
    intro n_;refine kgC n_ ?_
    repeat (first
      | (refine ⟨?_,M.e_inl hM (by assumption),H⟩; exact jQ)
      | apply Exists.intro
      | refine And.intro (by assumption) ?_)
    fail_if_success focus skip):A:=f ⟨rfl⟩
theorem kXp {A:Prop} (n:Nat) (l:List Nat) (f:Cnt n->PkS l->A:=by
    intro n_ c_;refine kgC n_ ?_
    repeat (first
      | (refine ⟨?_,M.e_inl hM (by assumption),H.pkS c_⟩; exact jQ)
      | apply Exists.intro
      | refine And.intro (by assumption) ?_)
    fail_if_success focus skip):A:=f ⟨rfl⟩ ⟨rfl⟩
theorem kY {A:Prop} (h:A:=by
    repeat (first
      | (refine ⟨?_,by assumption,H⟩; exact jQ)
      | apply Exists.intro)
    fail_if_success focus skip):A:=h
/-- Drawn regions. -/
theorem kD {A B:Prop} (n:Nat) (i ls:List Nat) (q:B) (f:Cnt n->PkS i->PkS ls->Left B->A:=by
    intro n_ i_ l_ q_;refine kgC n_ ?_;apply W.drw H i_ l_ mixed rfl jOr (by decide) (by decide +kernel) rfl;exact q_.h):A:=f ⟨rfl⟩ ⟨rfl⟩ ⟨rfl⟩ ⟨q⟩
theorem kDo {A B:Prop} (n:Nat) (i:List Nat) (o:List (Nat × Bool)) (q:B) (f:Cnt n->PkS i->TmS o->Left B->A:=by
    intro n_ i_ l_ q_;refine kgC n_ ?_;apply W.drwo H i_ l_ mixed (by decide) (by decide +kernel) rfl;exact q_.h):A:=f ⟨rfl⟩ ⟨rfl⟩ ⟨rfl⟩ ⟨q⟩
theorem kDT {A B:Prop} (n:Nat) (i:List Nat) (o:Ord) (q:B) (f:Cnt n->PkS i->TmS o->Left B->A:=by
    intro n_ i_ l_ q_;refine kgC n_ ?_;apply W.drwT H i_ l_ mixed (by decide) (by decide +kernel) rfl;exact q_.h):A:=f ⟨rfl⟩ ⟨rfl⟩ ⟨rfl⟩ ⟨q⟩
theorem kDS {A B:Prop} (n:Nat) (i:List Nat) (o:Ord) (m:Nat) (zs:List Nat) (q:B) (f:Cnt n->PkS i->TmS o->TmS m->PkS zs->Left B->A:=by
    intro n_ i_ l_ m_ z_ q_;refine kgC n_ ?_;apply W.drwTS H i_ l_ m_ z_ mixed (by decide) (by decide +kernel) rfl;exact q_.h):A:=f ⟨rfl⟩ ⟨rfl⟩ ⟨rfl⟩ ⟨rfl⟩ ⟨rfl⟩ ⟨q⟩
/-- The end of a loud operation in a drawn region. -/
theorem kN {A B:Prop} (q:B) (f:Left B->A:=by intro q_; exact s_nil ⟨H.pf,q_.h⟩):A:=f ⟨q⟩
end Go.Nm
end
namespace Go.Nm
open Go
section
variable {P:Program} {w:World} {σ:Env} {d:Nat} {ty:TypeId} {pos:String} {af:Array Edge} {g:Option (Nat × Bool)}
theorem x_pand0 {c x y:Operand} {b:Bool} (hc:ev σ c = .bool b) (hx:b=true->ev σ x = .bool false) (hy:ev σ y = .bool false) :
    (execOp (ev σ) ⟨some d,.pick c x y,ty,pos,af,g⟩).run P w = .ok (.value (.bool false)) w:=by
  have:=x_pand (P:=P) (w:=w) (d:=d) (ty:=ty) (pos:=pos) (af:=af) (g:=g) hc hx hy
  rwa [Bool.and_false] at this
end
end Go.Nm
namespace Go.Nm
open Go
instance {x:Pk}:EncL x [I x.day,I x.stage]:=⟨rfl⟩
instance {x:Yr}:EncL x [I x.year,I x.lo,I x.hi]:=⟨rfl⟩
instance {x:Span}:EncL x [I x.lo,I x.hi]:=⟨rfl⟩
instance {x:Rto}:EncL x [I x.num,I x.den]:=⟨rfl⟩
instance:FldC Old10 0 default (fun x=>I x.src):=⟨fun hs h1=>by have:=Old10_at0 hs (i:=(_:Nat)) (Int.natCast_nonneg _) (Int.ofNat_lt.2 h1); exact this⟩
instance:FldC Old10 1 default (fun x=>I x.dst):=⟨fun hs h1=>by have:=Old10_at1 hs (i:=(_:Nat)) (Int.natCast_nonneg _) (Int.ofNat_lt.2 h1); exact this⟩
instance:FldC Old10 2 default (fun x=>I x.stage):=⟨fun hs h1=>by have:=Old10_at2 hs (i:=(_:Nat)) (Int.natCast_nonneg _) (Int.ofNat_lt.2 h1); exact this⟩
instance {x:FRow}:EncL x [I x.stage,I x.carry]:=⟨rfl⟩
instance:FldC Sect 0 default (fun x=>I x.place):=⟨fun hs h1=>by have:=Sect_at0 hs (i:=(_:Nat)) (Int.natCast_nonneg _) (Int.ofNat_lt.2 h1); exact this⟩
instance {x:Mrk}:EncL x [I x.place,I x.lo,I x.hi]:=⟨rfl⟩
instance {x:Rch}:EncL x [I x.up,I x.down,I x.lo,I x.hi,B x.narrow]:=⟨rfl⟩
instance {x:Cas}:EncL x [I x.up,I x.down,I x.roughup,I x.roughdown]:=⟨rfl⟩
instance {x:Spot}:EncL x [I x.sec,I x.stage]:=⟨rfl⟩
instance {x:CMk}:EncL x [I x.place,I x.height]:=⟨rfl⟩
instance {x:CNt}:EncL x [I x.mark,I x.tlo,I x.thi,I x.slo,I x.shi]:=⟨rfl⟩
instance {x:Gg}:EncL x [I x.stage,I x.lo,I x.hi]:=⟨rfl⟩
instance {x:Pt}:EncL x [I x.stage,I x.flow]:=⟨rfl⟩
instance {x:RLn}:EncL x [I x.ast,I x.afl,I x.bst,I x.bfl]:=⟨rfl⟩
instance {x:Line}:EncL x [I x.src,I x.dst,I x.day,I x.rise,I x.err]:=⟨rfl⟩
instance {x:Leg}:EncL x [I x.line,B x.back]:=⟨rfl⟩
instance {x:Vrt}:EncL x [I x.at_,I x.dlo,I x.dhi,I x.slo,I x.shi]:=⟨rfl⟩
instance {x:SMk}:EncL x [I x.stage,I x.flow]:=⟨rfl⟩
instance {x:SGg}:EncL x [I x.day,I x.stage,I x.lo,I x.hi]:=⟨rfl⟩
end Go.Nm
namespace Go.Proofs.YtaolcidinlnklaaGreat
open Go Go.Nm
def cfx:List Nat:=[0,1,2,3,71,72,129,130,131,132,133,134,136,137,138,139,199,200,201,202,203,232,237,253,257,258,259,260,261,262,263,264,265,266,267,268,269,270,271,272,273]
theorem cfs:(List.range 277).all (fun n=>cfx.contains n||cfb Tryz.prog n)=true:=by decide +kernel
theorem cq {n:Nat} (h:(Nat.blt n 277&&!cfx.contains n)=true:=by rfl):CF Tryz.prog n:=by
  simp only [Bool.and_eq_true,Bool.not_eq_true'] at h;have:=List.all_eq_true.1 cfs n (List.mem_range.2 (Nat.le_of_ble_eq_true h.1));rw [h.2,Bool.false_or] at this;exact cfb_of this
theorem keyIntV {ν:Type}:KeyL (ν:=ν) Tryz.prog 3 I:=KeyL.int Tryz.underlying3
theorem keyIntCN:KeyL (ν:=CNt) Tryz.prog 3 I:=KeyL.int Tryz.underlying3
theorem keyIntB:KeyL (ν:=Bool) Tryz.prog 3 I:=KeyL.int Tryz.underlying3
instance T22:TlC Tryz.prog 22 5 1 1 (.int .u8 0):=⟨⟨Tryz.underlying22,by kernel_rfl,rfl,by decide⟩⟩
instance T23:TlC Tryz.prog 23 97 5 40 (.agg #[I 0,I 0,I 0,I 0,I 0]):=⟨⟨Tryz.underlying23,by kernel_rfl,rfl,by decide⟩⟩
instance T26:TlC Tryz.prog 26 3 1 8 (I 0):=⟨⟨Tryz.underlying26,by kernel_rfl,rfl,by decide⟩⟩
instance T31:TlC Tryz.prog 31 103 2 32 (.agg #[I 0,.slice none 0 0]):=⟨⟨Tryz.underlying31,by kernel_rfl,rfl,by decide⟩⟩
instance T32:TlC Tryz.prog 32 49 3 24 (.agg #[I 0,I 0,I 0]):=⟨⟨Tryz.underlying32,by kernel_rfl,rfl,by decide⟩⟩
instance T33:TlC Tryz.prog 33 53 5 40 (.agg #[I 0,I 0,I 0,I 0,B false]):=⟨⟨Tryz.underlying33,by kernel_rfl,rfl,by decide⟩⟩
instance T63:TlC Tryz.prog 63 62 3 24 (.agg #[I 0,I 0,I 0]):=⟨⟨Tryz.underlying63,by kernel_rfl,rfl,by decide⟩⟩
instance T68:TlC Tryz.prog 68 67 4 32 (.agg #[I 0,I 0,I 0,I 0]):=⟨⟨Tryz.underlying68,by kernel_rfl,rfl,by decide⟩⟩
instance T82:TlC Tryz.prog 82 81 2 16 (.agg #[I 0,I 0]):=⟨⟨Tryz.underlying82,by kernel_rfl,rfl,by decide⟩⟩
instance T85:TlC Tryz.prog 85 84 4 32 (.agg #[I 0,I 0,I 0,I 0]):=⟨⟨Tryz.underlying85,by kernel_rfl,rfl,by decide⟩⟩
instance T88:TlC Tryz.prog 88 42 2 16 (.agg #[I 0,I 0]):=⟨⟨Tryz.underlying88,by kernel_rfl,rfl,by decide⟩⟩
instance T101:TlC Tryz.prog 101 105 2 16 (.agg #[I 0,I 0]):=⟨⟨Tryz.underlying101,by kernel_rfl,rfl,by decide⟩⟩
instance T120:TlC Tryz.prog 120 189 2 16 (.agg #[I 0,I 0]):=⟨⟨Tryz.underlying120,by kernel_rfl,rfl,by decide⟩⟩
instance T121:TlC Tryz.prog 121 191 5 40 (.agg #[I 0,I 0,I 0,I 0,I 0]):=⟨⟨Tryz.underlying121,by kernel_rfl,rfl,by decide⟩⟩
instance T130:TlC Tryz.prog 130 26 1 24 (.slice none 0 0):=⟨⟨Tryz.underlying130,by kernel_rfl,rfl,by decide⟩⟩
instance T144:TlC Tryz.prog 144 218 5 40 (.agg #[I 0,I 0,I 0,I 0,I 0]):=⟨⟨Tryz.underlying144,by kernel_rfl,rfl,by decide⟩⟩
instance T165:TlC Tryz.prog 165 169 601 4808 (.agg (List.flatten [[],encF (α:=Int) (List.replicate 601 0)]).toArray):=⟨⟨Tryz.underlying165,by kernel_rfl,by kernel_rfl,by decide⟩⟩
instance T293:TlC Tryz.prog 293 62 3 24 (.agg #[I 0,I 0,I 0]):=⟨⟨Tryz.underlying293,by kernel_rfl,rfl,by decide⟩⟩
instance T330:TlC Tryz.prog 330 65 2 16 (.agg #[I 0,I 0]):=⟨⟨Tryz.underlying330,by kernel_rfl,rfl,by decide⟩⟩
instance T340:TlC Tryz.prog 340 113 2 16 (.agg #[I 0,B false]):=⟨⟨Tryz.underlying340,by kernel_rfl,rfl,by decide⟩⟩
instance Sc3:ScC Tryz.prog 3:=⟨by kernel_rfl⟩
instance Sc4:ScC Tryz.prog 4:=⟨by kernel_rfl⟩
instance Sc5:ScC Tryz.prog 5:=⟨by kernel_rfl⟩
instance Sc22:ScC Tryz.prog 22:=⟨by kernel_rfl⟩
instance Sc23:ScC Tryz.prog 23:=⟨by kernel_rfl⟩
instance Sc26:ScC Tryz.prog 26:=⟨by kernel_rfl⟩
instance Sc31:ScC Tryz.prog 31:=⟨by kernel_rfl⟩
instance Sc32:ScC Tryz.prog 32:=⟨by kernel_rfl⟩
instance Sc33:ScC Tryz.prog 33:=⟨by kernel_rfl⟩
instance Sc43:ScC Tryz.prog 43:=⟨by kernel_rfl⟩
instance Sc68:ScC Tryz.prog 68:=⟨by kernel_rfl⟩
instance Sc82:ScC Tryz.prog 82:=⟨by kernel_rfl⟩
instance Sc85:ScC Tryz.prog 85:=⟨by kernel_rfl⟩
instance Sc88:ScC Tryz.prog 88:=⟨by kernel_rfl⟩
instance Sc101:ScC Tryz.prog 101:=⟨by kernel_rfl⟩
instance Sc106:ScC Tryz.prog 106:=⟨by kernel_rfl⟩
instance Sc120:ScC Tryz.prog 120:=⟨by kernel_rfl⟩
instance Sc121:ScC Tryz.prog 121:=⟨by kernel_rfl⟩
instance Sc127:ScC Tryz.prog 127:=⟨by kernel_rfl⟩
instance Sc132:ScC Tryz.prog 132:=⟨by kernel_rfl⟩
instance Sc139:ScC Tryz.prog 139:=⟨by kernel_rfl⟩
instance Sc144:ScC Tryz.prog 144:=⟨by kernel_rfl⟩
instance Sc153:ScC Tryz.prog 153:=⟨by kernel_rfl⟩
instance Sc175:ScC Tryz.prog 175:=⟨by kernel_rfl⟩
instance Sc180:ScC Tryz.prog 180:=⟨by kernel_rfl⟩
instance Sc194:ScC Tryz.prog 194:=⟨by kernel_rfl⟩
instance Sc197:ScC Tryz.prog 197:=⟨by kernel_rfl⟩
instance Sc207:ScC Tryz.prog 207:=⟨by kernel_rfl⟩
instance Sc228:ScC Tryz.prog 228:=⟨by kernel_rfl⟩
instance Sc235:ScC Tryz.prog 235:=⟨by kernel_rfl⟩
instance Sc242:ScC Tryz.prog 242:=⟨by kernel_rfl⟩
instance Sc248:ScC Tryz.prog 248:=⟨by kernel_rfl⟩
instance Sc254:ScC Tryz.prog 254:=⟨by kernel_rfl⟩
instance Sc261:ScC Tryz.prog 261:=⟨by kernel_rfl⟩
instance Sc262:ScC Tryz.prog 262:=⟨by kernel_rfl⟩
instance Sc265:ScC Tryz.prog 265:=⟨by kernel_rfl⟩
instance Sc267:ScC Tryz.prog 267:=⟨by kernel_rfl⟩
instance Sc287:ScC Tryz.prog 287:=⟨by kernel_rfl⟩
instance Sc293:ScC Tryz.prog 293:=⟨by kernel_rfl⟩
instance Sc296:ScC Tryz.prog 296:=⟨by kernel_rfl⟩
instance Sc303:ScC Tryz.prog 303:=⟨by kernel_rfl⟩
instance Sc306:ScC Tryz.prog 306:=⟨by kernel_rfl⟩
instance Sc334:ScC Tryz.prog 334:=⟨by kernel_rfl⟩
instance Sc341:ScC Tryz.prog 341:=⟨by kernel_rfl⟩
instance Sc359:ScC Tryz.prog 359:=⟨by kernel_rfl⟩
instance Sc360:ScC Tryz.prog 360:=⟨by kernel_rfl⟩
instance Sc363:ScC Tryz.prog 363:=⟨by kernel_rfl⟩
instance Sz3:SzC Tryz.prog 3 1:=⟨by kernel_rfl⟩
instance Sz4:SzC Tryz.prog 4 1:=⟨by kernel_rfl⟩
instance Sz22:SzC Tryz.prog 22 1:=⟨by kernel_rfl⟩
instance Sz23:SzC Tryz.prog 23 1:=⟨by kernel_rfl⟩
instance Ag25:AgC Tryz.prog 25:=⟨by kernel_rfl⟩
instance Sz25:SzC Tryz.prog 25 2:=⟨by kernel_rfl⟩
instance Sz26:SzC Tryz.prog 26 1:=⟨by kernel_rfl⟩
instance Sz31:SzC Tryz.prog 31 1:=⟨by kernel_rfl⟩
instance Sz32:SzC Tryz.prog 32 1:=⟨by kernel_rfl⟩
instance Sz33:SzC Tryz.prog 33 1:=⟨by kernel_rfl⟩
instance Ag35:AgC Tryz.prog 35:=⟨by kernel_rfl⟩
instance Sz35:SzC Tryz.prog 35 3:=⟨by kernel_rfl⟩
instance Ag37:AgC Tryz.prog 37:=⟨by kernel_rfl⟩
instance Sz37:SzC Tryz.prog 37 2:=⟨by kernel_rfl⟩
instance Ag42:AgC Tryz.prog 42:=⟨by kernel_rfl⟩
instance Sz42:SzC Tryz.prog 42 2:=⟨by kernel_rfl⟩
instance Sz43:SzC Tryz.prog 43 1:=⟨by kernel_rfl⟩
instance Ag49:AgC Tryz.prog 49:=⟨by kernel_rfl⟩
instance Sz49:SzC Tryz.prog 49 3:=⟨by kernel_rfl⟩
instance Ag53:AgC Tryz.prog 53:=⟨by kernel_rfl⟩
instance Sz53:SzC Tryz.prog 53 5:=⟨by kernel_rfl⟩
instance Ag58:AgC Tryz.prog 58:=⟨by kernel_rfl⟩
instance Sz58:SzC Tryz.prog 58 4:=⟨by kernel_rfl⟩
instance Ag62:AgC Tryz.prog 62:=⟨by kernel_rfl⟩
instance Sz62:SzC Tryz.prog 62 3:=⟨by kernel_rfl⟩
instance Ag65:AgC Tryz.prog 65:=⟨by kernel_rfl⟩
instance Sz65:SzC Tryz.prog 65 2:=⟨by kernel_rfl⟩
instance Ag67:AgC Tryz.prog 67:=⟨by kernel_rfl⟩
instance Sz67:SzC Tryz.prog 67 4:=⟨by kernel_rfl⟩
instance Sz68:SzC Tryz.prog 68 1:=⟨by kernel_rfl⟩
instance Ag70:AgC Tryz.prog 70:=⟨by kernel_rfl⟩
instance Sz70:SzC Tryz.prog 70 2:=⟨by kernel_rfl⟩
instance Ag73:AgC Tryz.prog 73:=⟨by kernel_rfl⟩
instance Sz73:SzC Tryz.prog 73 2:=⟨by kernel_rfl⟩
instance Ag75:AgC Tryz.prog 75:=⟨by kernel_rfl⟩
instance Sz75:SzC Tryz.prog 75 4:=⟨by kernel_rfl⟩
instance Ag81:AgC Tryz.prog 81:=⟨by kernel_rfl⟩
instance Sz81:SzC Tryz.prog 81 2:=⟨by kernel_rfl⟩
instance Sz82:SzC Tryz.prog 82 1:=⟨by kernel_rfl⟩
instance Ag84:AgC Tryz.prog 84:=⟨by kernel_rfl⟩
instance Sz84:SzC Tryz.prog 84 4:=⟨by kernel_rfl⟩
instance Sz85:SzC Tryz.prog 85 1:=⟨by kernel_rfl⟩
instance Ag87:AgC Tryz.prog 87:=⟨by kernel_rfl⟩
instance Sz87:SzC Tryz.prog 87 2:=⟨by kernel_rfl⟩
instance Sz88:SzC Tryz.prog 88 1:=⟨by kernel_rfl⟩
instance Ag97:AgC Tryz.prog 97:=⟨by kernel_rfl⟩
instance Sz97:SzC Tryz.prog 97 5:=⟨by kernel_rfl⟩
instance Sz101:SzC Tryz.prog 101 1:=⟨by kernel_rfl⟩
instance Ag103:AgC Tryz.prog 103:=⟨by kernel_rfl⟩
instance Sz103:SzC Tryz.prog 103 2:=⟨by kernel_rfl⟩
instance Ag105:AgC Tryz.prog 105:=⟨by kernel_rfl⟩
instance Sz105:SzC Tryz.prog 105 2:=⟨by kernel_rfl⟩
instance Ag109:AgC Tryz.prog 109:=⟨by kernel_rfl⟩
instance Sz109:SzC Tryz.prog 109 13:=⟨by kernel_rfl⟩
instance Ag111:AgC Tryz.prog 111:=⟨by kernel_rfl⟩
instance Sz111:SzC Tryz.prog 111 169:=⟨by kernel_rfl⟩
instance Ag113:AgC Tryz.prog 113:=⟨by kernel_rfl⟩
instance Sz113:SzC Tryz.prog 113 2:=⟨by kernel_rfl⟩
instance Ag114:AgC Tryz.prog 114:=⟨by kernel_rfl⟩
instance Sz114:SzC Tryz.prog 114 26:=⟨by kernel_rfl⟩
instance Ag115:AgC Tryz.prog 115:=⟨by kernel_rfl⟩
instance Sz115:SzC Tryz.prog 115 338:=⟨by kernel_rfl⟩
instance Sz120:SzC Tryz.prog 120 1:=⟨by kernel_rfl⟩
instance Sz121:SzC Tryz.prog 121 1:=⟨by kernel_rfl⟩
instance Ag123:AgC Tryz.prog 123:=⟨by kernel_rfl⟩
instance Sz123:SzC Tryz.prog 123 7:=⟨by kernel_rfl⟩
instance Sz132:SzC Tryz.prog 132 1:=⟨by kernel_rfl⟩
instance Ag142:AgC Tryz.prog 142:=⟨by kernel_rfl⟩
instance Sz142:SzC Tryz.prog 142 5:=⟨by kernel_rfl⟩
instance Sz144:SzC Tryz.prog 144 1:=⟨by kernel_rfl⟩
instance Ag146:AgC Tryz.prog 146:=⟨by kernel_rfl⟩
instance Sz146:SzC Tryz.prog 146 3:=⟨by kernel_rfl⟩
instance Ag169:AgC Tryz.prog 169:=⟨by kernel_rfl⟩
instance Sz169:SzC Tryz.prog 169 601:=⟨by kernel_rfl⟩
instance Sz175:SzC Tryz.prog 175 1:=⟨by kernel_rfl⟩
instance Sz180:SzC Tryz.prog 180 1:=⟨by kernel_rfl⟩
instance Ag189:AgC Tryz.prog 189:=⟨by kernel_rfl⟩
instance Sz189:SzC Tryz.prog 189 2:=⟨by kernel_rfl⟩
instance Ag191:AgC Tryz.prog 191:=⟨by kernel_rfl⟩
instance Sz191:SzC Tryz.prog 191 5:=⟨by kernel_rfl⟩
instance Sz194:SzC Tryz.prog 194 1:=⟨by kernel_rfl⟩
instance Sz197:SzC Tryz.prog 197 1:=⟨by kernel_rfl⟩
instance Ag199:AgC Tryz.prog 199:=⟨by kernel_rfl⟩
instance Sz199:SzC Tryz.prog 199 16:=⟨by kernel_rfl⟩
instance Sz207:SzC Tryz.prog 207 1:=⟨by kernel_rfl⟩
instance Ag211:AgC Tryz.prog 211:=⟨by kernel_rfl⟩
instance Sz211:SzC Tryz.prog 211 1:=⟨by kernel_rfl⟩
instance Ag215:AgC Tryz.prog 215:=⟨by kernel_rfl⟩
instance Sz215:SzC Tryz.prog 215 2:=⟨by kernel_rfl⟩
instance Ag218:AgC Tryz.prog 218:=⟨by kernel_rfl⟩
instance Sz218:SzC Tryz.prog 218 5:=⟨by kernel_rfl⟩
instance Sz235:SzC Tryz.prog 235 1:=⟨by kernel_rfl⟩
instance Ag237:AgC Tryz.prog 237:=⟨by kernel_rfl⟩
instance Sz237:SzC Tryz.prog 237 1:=⟨by kernel_rfl⟩
instance Sz242:SzC Tryz.prog 242 1:=⟨by kernel_rfl⟩
instance Sz254:SzC Tryz.prog 254 1:=⟨by kernel_rfl⟩
instance Ag255:AgC Tryz.prog 255:=⟨by kernel_rfl⟩
instance Sz255:SzC Tryz.prog 255 40:=⟨by kernel_rfl⟩
instance Sz267:SzC Tryz.prog 267 1:=⟨by kernel_rfl⟩
instance Sz293:SzC Tryz.prog 293 1:=⟨by kernel_rfl⟩
instance Ag295:AgC Tryz.prog 295:=⟨by kernel_rfl⟩
instance Sz295:SzC Tryz.prog 295 2:=⟨by kernel_rfl⟩
instance Sz296:SzC Tryz.prog 296 1:=⟨by kernel_rfl⟩
instance Ag343:AgC Tryz.prog 343:=⟨by kernel_rfl⟩
instance Sz343:SzC Tryz.prog 343 1:=⟨by kernel_rfl⟩
instance Sz359:SzC Tryz.prog 359 1:=⟨by kernel_rfl⟩
instance Sz360:SzC Tryz.prog 360 1:=⟨by kernel_rfl⟩
instance Fd25_0:FdC Tryz.prog 25 0 0 3:=⟨by kernel_rfl⟩
instance Fd25_1:FdC Tryz.prog 25 1 1 23:=⟨by kernel_rfl⟩
instance Fd35_0:FdC Tryz.prog 35 0 0 31:=⟨by kernel_rfl⟩
instance Fd35_1:FdC Tryz.prog 35 1 1 32:=⟨by kernel_rfl⟩
instance Fd35_2:FdC Tryz.prog 35 2 2 33:=⟨by kernel_rfl⟩
instance Fd37_0:FdC Tryz.prog 37 0 0 26:=⟨by kernel_rfl⟩
instance Fd37_1:FdC Tryz.prog 37 1 1 26:=⟨by kernel_rfl⟩
instance Fd42_0:FdC Tryz.prog 42 0 0 3:=⟨by kernel_rfl⟩
instance Fd42_1:FdC Tryz.prog 42 1 1 3:=⟨by kernel_rfl⟩
instance Fd49_0:FdC Tryz.prog 49 0 0 3:=⟨by kernel_rfl⟩
instance Fd49_1:FdC Tryz.prog 49 1 1 42:=⟨by kernel_rfl⟩
instance Fd53_0:FdC Tryz.prog 53 0 0 3:=⟨by kernel_rfl⟩
instance Fd53_1:FdC Tryz.prog 53 1 1 3:=⟨by kernel_rfl⟩
instance Fd53_2:FdC Tryz.prog 53 2 2 42:=⟨by kernel_rfl⟩
instance Fd53_3:FdC Tryz.prog 53 3 4 4:=⟨by kernel_rfl⟩
instance Fd58_0:FdC Tryz.prog 58 0 0 3:=⟨by kernel_rfl⟩
instance Fd58_1:FdC Tryz.prog 58 1 1 3:=⟨by kernel_rfl⟩
instance Fd58_2:FdC Tryz.prog 58 2 2 3:=⟨by kernel_rfl⟩
instance Fd58_3:FdC Tryz.prog 58 3 3 3:=⟨by kernel_rfl⟩
instance Fd62_0:FdC Tryz.prog 62 0 0 3:=⟨by kernel_rfl⟩
instance Fd62_1:FdC Tryz.prog 62 1 1 42:=⟨by kernel_rfl⟩
instance Fd65_0:FdC Tryz.prog 65 0 0 3:=⟨by kernel_rfl⟩
instance Fd65_1:FdC Tryz.prog 65 1 1 3:=⟨by kernel_rfl⟩
instance Fd67_0:FdC Tryz.prog 67 0 0 65:=⟨by kernel_rfl⟩
instance Fd67_1:FdC Tryz.prog 67 1 2 65:=⟨by kernel_rfl⟩
instance Fd70_0:FdC Tryz.prog 70 0 0 26:=⟨by kernel_rfl⟩
instance Fd70_1:FdC Tryz.prog 70 1 1 68:=⟨by kernel_rfl⟩
instance Fd73_0:FdC Tryz.prog 73 0 0 3:=⟨by kernel_rfl⟩
instance Fd73_1:FdC Tryz.prog 73 1 1 3:=⟨by kernel_rfl⟩
instance Fd75_0:FdC Tryz.prog 75 0 0 73:=⟨by kernel_rfl⟩
instance Fd75_1:FdC Tryz.prog 75 1 2 73:=⟨by kernel_rfl⟩
instance Fd81_0:FdC Tryz.prog 81 0 0 3:=⟨by kernel_rfl⟩
instance Fd81_1:FdC Tryz.prog 81 1 1 3:=⟨by kernel_rfl⟩
instance Fd84_0:FdC Tryz.prog 84 0 0 3:=⟨by kernel_rfl⟩
instance Fd84_1:FdC Tryz.prog 84 1 1 3:=⟨by kernel_rfl⟩
instance Fd84_2:FdC Tryz.prog 84 2 2 42:=⟨by kernel_rfl⟩
instance Fd87_0:FdC Tryz.prog 87 0 0 82:=⟨by kernel_rfl⟩
instance Fd87_1:FdC Tryz.prog 87 1 1 85:=⟨by kernel_rfl⟩
instance Fd97_0:FdC Tryz.prog 97 0 0 3:=⟨by kernel_rfl⟩
instance Fd97_1:FdC Tryz.prog 97 1 1 3:=⟨by kernel_rfl⟩
instance Fd97_2:FdC Tryz.prog 97 2 2 3:=⟨by kernel_rfl⟩
instance Fd97_3:FdC Tryz.prog 97 3 3 3:=⟨by kernel_rfl⟩
instance Fd97_4:FdC Tryz.prog 97 4 4 3:=⟨by kernel_rfl⟩
instance Fd100_0:FdC Tryz.prog 100 0 0 22:=⟨by kernel_rfl⟩
instance Fd100_1:FdC Tryz.prog 100 1 1 3:=⟨by kernel_rfl⟩
instance Fd100_2:FdC Tryz.prog 100 2 2 3:=⟨by kernel_rfl⟩
instance Fd103_0:FdC Tryz.prog 103 0 0 3:=⟨by kernel_rfl⟩
instance Fd103_1:FdC Tryz.prog 103 1 1 101:=⟨by kernel_rfl⟩
instance Fd105_0:FdC Tryz.prog 105 0 0 3:=⟨by kernel_rfl⟩
instance Fd105_1:FdC Tryz.prog 105 1 1 3:=⟨by kernel_rfl⟩
instance Fd113_0:FdC Tryz.prog 113 0 0 3:=⟨by kernel_rfl⟩
instance Fd113_1:FdC Tryz.prog 113 1 1 4:=⟨by kernel_rfl⟩
instance Fd117_0:FdC Tryz.prog 117 0 0 25:=⟨by kernel_rfl⟩
instance Fd117_1:FdC Tryz.prog 117 1 2 111:=⟨by kernel_rfl⟩
instance Fd117_2:FdC Tryz.prog 117 2 171 115:=⟨by kernel_rfl⟩
instance Fd123_0:FdC Tryz.prog 123 0 0 42:=⟨by kernel_rfl⟩
instance Fd123_1:FdC Tryz.prog 123 1 2 3:=⟨by kernel_rfl⟩
instance Fd123_2:FdC Tryz.prog 123 2 3 3:=⟨by kernel_rfl⟩
instance Fd123_3:FdC Tryz.prog 123 3 4 3:=⟨by kernel_rfl⟩
instance Fd123_4:FdC Tryz.prog 123 4 5 120:=⟨by kernel_rfl⟩
instance Fd123_5:FdC Tryz.prog 123 5 6 121:=⟨by kernel_rfl⟩
instance Fd142_0:FdC Tryz.prog 142 0 0 3:=⟨by kernel_rfl⟩
instance Fd142_1:FdC Tryz.prog 142 1 1 3:=⟨by kernel_rfl⟩
instance Fd142_2:FdC Tryz.prog 142 2 2 26:=⟨by kernel_rfl⟩
instance Fd142_3:FdC Tryz.prog 142 3 3 26:=⟨by kernel_rfl⟩
instance Fd142_4:FdC Tryz.prog 142 4 4 26:=⟨by kernel_rfl⟩
instance Fd146_0:FdC Tryz.prog 146 0 0 3:=⟨by kernel_rfl⟩
instance Fd146_1:FdC Tryz.prog 146 1 1 3:=⟨by kernel_rfl⟩
instance Fd146_2:FdC Tryz.prog 146 2 2 144:=⟨by kernel_rfl⟩
instance Fd164_0:FdC Tryz.prog 164 0 0 87:=⟨by kernel_rfl⟩
instance Fd164_1:FdC Tryz.prog 164 1 2 88:=⟨by kernel_rfl⟩
instance Fd179_0:FdC Tryz.prog 179 0 0 42:=⟨by kernel_rfl⟩
instance Fd179_1:FdC Tryz.prog 179 1 2 4:=⟨by kernel_rfl⟩
instance Fd189_0:FdC Tryz.prog 189 0 0 3:=⟨by kernel_rfl⟩
instance Fd189_1:FdC Tryz.prog 189 1 1 3:=⟨by kernel_rfl⟩
instance Fd191_0:FdC Tryz.prog 191 0 0 3:=⟨by kernel_rfl⟩
instance Fd191_1:FdC Tryz.prog 191 1 1 42:=⟨by kernel_rfl⟩
instance Fd191_2:FdC Tryz.prog 191 2 3 42:=⟨by kernel_rfl⟩
instance Fd196_0:FdC Tryz.prog 196 0 0 35:=⟨by kernel_rfl⟩
instance Fd196_1:FdC Tryz.prog 196 1 3 194:=⟨by kernel_rfl⟩
instance Fd201_0:FdC Tryz.prog 201 0 0 199:=⟨by kernel_rfl⟩
instance Fd201_1:FdC Tryz.prog 201 1 16 199:=⟨by kernel_rfl⟩
instance Fd211_0:FdC Tryz.prog 211 0 0 132:=⟨by kernel_rfl⟩
instance Fd215_0:FdC Tryz.prog 215 0 0 3:=⟨by kernel_rfl⟩
instance Fd215_1:FdC Tryz.prog 215 1 1 3:=⟨by kernel_rfl⟩
instance Fd218_0:FdC Tryz.prog 218 0 0 3:=⟨by kernel_rfl⟩
instance Fd218_1:FdC Tryz.prog 218 1 1 42:=⟨by kernel_rfl⟩
instance Fd218_2:FdC Tryz.prog 218 2 3 42:=⟨by kernel_rfl⟩
instance Fd237_0:FdC Tryz.prog 237 0 0 235:=⟨by kernel_rfl⟩
instance Fd257_0:FdC Tryz.prog 257 0 0 123:=⟨by kernel_rfl⟩
instance Fd257_1:FdC Tryz.prog 257 1 7 254:=⟨by kernel_rfl⟩
instance Fd257_2:FdC Tryz.prog 257 2 8 255:=⟨by kernel_rfl⟩
instance Fd295_0:FdC Tryz.prog 295 0 0 293:=⟨by kernel_rfl⟩
instance Fd295_1:FdC Tryz.prog 295 1 1 26:=⟨by kernel_rfl⟩
instance Fd298_0:FdC Tryz.prog 298 0 0 295:=⟨by kernel_rfl⟩
instance Fd298_1:FdC Tryz.prog 298 1 2 296:=⟨by kernel_rfl⟩
instance Fd343_0:FdC Tryz.prog 343 0 0 341:=⟨by kernel_rfl⟩
instance Al3:AlC Tryz.prog 3 (I 0):=⟨by kernel_rfl⟩
instance Al4:AlC Tryz.prog 4 (B false):=⟨by kernel_rfl⟩
instance Al25:AlC Tryz.prog 25 (.agg #[I 0,.slice none 0 0]):=⟨by kernel_rfl⟩
instance Al26:AlC Tryz.prog 26 (.slice none 0 0):=⟨by kernel_rfl⟩
instance Al35:AlC Tryz.prog 35 (.agg #[.slice none 0 0,.slice none 0 0,.slice none 0 0]):=⟨by kernel_rfl⟩
instance Al37:AlC Tryz.prog 37 (.agg #[.slice none 0 0,.slice none 0 0]):=⟨by kernel_rfl⟩
instance Al42:AlC Tryz.prog 42 (.agg #[I 0,I 0]):=⟨by kernel_rfl⟩
instance Al43:AlC Tryz.prog 43 (I 0):=⟨by kernel_rfl⟩
instance Al49:AlC Tryz.prog 49 (.agg #[I 0,I 0,I 0]):=⟨by kernel_rfl⟩
instance Al53:AlC Tryz.prog 53 (.agg #[I 0,I 0,I 0,I 0,B false]):=⟨by kernel_rfl⟩
instance Al58:AlC Tryz.prog 58 (.agg #[I 0,I 0,I 0,I 0]):=⟨by kernel_rfl⟩
instance Al62:AlC Tryz.prog 62 (.agg #[I 0,I 0,I 0]):=⟨by kernel_rfl⟩
instance Al65:AlC Tryz.prog 65 (.agg #[I 0,I 0]):=⟨by kernel_rfl⟩
instance Al67:AlC Tryz.prog 67 (.agg #[I 0,I 0,I 0,I 0]):=⟨by kernel_rfl⟩
instance Al68:AlC Tryz.prog 68 (.slice none 0 0):=⟨by kernel_rfl⟩
instance Al70:AlC Tryz.prog 70 (.agg #[.slice none 0 0,.slice none 0 0]):=⟨by kernel_rfl⟩
instance Al73:AlC Tryz.prog 73 (.agg #[I 0,I 0]):=⟨by kernel_rfl⟩
instance Al75:AlC Tryz.prog 75 (.agg #[I 0,I 0,I 0,I 0]):=⟨by kernel_rfl⟩
instance Al81:AlC Tryz.prog 81 (.agg #[I 0,I 0]):=⟨by kernel_rfl⟩
instance Al84:AlC Tryz.prog 84 (.agg #[I 0,I 0,I 0,I 0]):=⟨by kernel_rfl⟩
instance Al87:AlC Tryz.prog 87 (.agg #[.slice none 0 0,.slice none 0 0]):=⟨by kernel_rfl⟩
instance Al88:AlC Tryz.prog 88 (.slice none 0 0):=⟨by kernel_rfl⟩
instance Al97:AlC Tryz.prog 97 (.agg #[I 0,I 0,I 0,I 0,I 0]):=⟨by kernel_rfl⟩
instance Al100:AlC Tryz.prog 100 (.agg #[.slice none 0 0,I 0,I 0]):=⟨by kernel_rfl⟩
instance Al103:AlC Tryz.prog 103 (.agg #[I 0,.slice none 0 0]):=⟨by kernel_rfl⟩
instance Al105:AlC Tryz.prog 105 (.agg #[I 0,I 0]):=⟨by kernel_rfl⟩
instance Al113:AlC Tryz.prog 113 (.agg #[I 0,B false]):=⟨by kernel_rfl⟩
instance Al123:AlC Tryz.prog 123 (.agg #[I 0,I 0,I 0,I 0,I 0,.slice none 0 0,.slice none 0 0]):=⟨by kernel_rfl⟩
instance Al132:AlC Tryz.prog 132 (.nilFunc):=⟨by kernel_rfl⟩
instance Al142:AlC Tryz.prog 142 (.agg #[I 0,I 0,.slice none 0 0,.slice none 0 0,.slice none 0 0]):=⟨by kernel_rfl⟩
instance Al146:AlC Tryz.prog 146 (.agg #[I 0,I 0,.slice none 0 0]):=⟨by kernel_rfl⟩
instance Al164:AlC Tryz.prog 164 (.agg #[.slice none 0 0,.slice none 0 0,.slice none 0 0]):=⟨by kernel_rfl⟩
instance Al175:AlC Tryz.prog 175 (.pointer none):=⟨by kernel_rfl⟩
instance Al179:AlC Tryz.prog 179 (.agg #[I 0,I 0,B false]):=⟨by kernel_rfl⟩
instance Al180:AlC Tryz.prog 180 (.nilFunc):=⟨by kernel_rfl⟩
instance Al189:AlC Tryz.prog 189 (.agg #[I 0,I 0]):=⟨by kernel_rfl⟩
instance Al191:AlC Tryz.prog 191 (.agg #[I 0,I 0,I 0,I 0,I 0]):=⟨by kernel_rfl⟩
instance Al196:AlC Tryz.prog 196 (.agg #[.slice none 0 0,.slice none 0 0,.slice none 0 0,.map none]):=⟨by kernel_rfl⟩
instance Al197:AlC Tryz.prog 197 (.pointer none):=⟨by kernel_rfl⟩
instance Al207:AlC Tryz.prog 207 (.nilFunc):=⟨by kernel_rfl⟩
instance Al211:AlC Tryz.prog 211 (.agg #[.nilFunc]):=⟨by kernel_rfl⟩
instance Al215:AlC Tryz.prog 215 (.agg #[I 0,I 0]):=⟨by kernel_rfl⟩
instance Al218:AlC Tryz.prog 218 (.agg #[I 0,I 0,I 0,I 0,I 0]):=⟨by kernel_rfl⟩
instance Al237:AlC Tryz.prog 237 (.agg #[.nilFunc]):=⟨by kernel_rfl⟩
instance Al242:AlC Tryz.prog 242 (.nilFunc):=⟨by kernel_rfl⟩
instance Al267:AlC Tryz.prog 267 (.map none):=⟨by kernel_rfl⟩
instance Al293:AlC Tryz.prog 293 (.slice none 0 0):=⟨by kernel_rfl⟩
instance Al295:AlC Tryz.prog 295 (.agg #[.slice none 0 0,.slice none 0 0]):=⟨by kernel_rfl⟩
instance Al298:AlC Tryz.prog 298 (.agg #[.slice none 0 0,.slice none 0 0,.map none]):=⟨by kernel_rfl⟩
instance Al343:AlC Tryz.prog 343 (.agg #[.nilFunc]):=⟨by kernel_rfl⟩
instance Al356:AlC Tryz.prog 356 (.agg #[B false,B false,B false,B false,B false,B false,B false,B false,B false,B false,B false,B false,B false,B false,B false,B false,B false,B false,B false,B false,B false,B false,B false,B false]):=⟨by kernel_rfl⟩
instance Al359:AlC Tryz.prog 359 (.pointer none):=⟨by kernel_rfl⟩
instance Al360:AlC Tryz.prog 360 (.pointer none):=⟨by kernel_rfl⟩
theorem Bd35 {fs:Array Field} (h:Tryz.prog.underlying 35=some (.struct fs)):fs.toList.mapM (fun f=>(Tryz.prog.info? f.type).map fun i=>(f.offset,i.size))=some [(0,1),(1,1),(2,1)]:=by rw [Tryz.underlying35] at h; simp only [Option.some.injEq,TypeDesc.struct.injEq] at h; subst h; kernel_rfl
theorem Bd42 {fs:Array Field} (h:Tryz.prog.underlying 42=some (.struct fs)):fs.toList.mapM (fun f=>(Tryz.prog.info? f.type).map fun i=>(f.offset,i.size))=some [(0,1),(1,1)]:=by rw [Tryz.underlying42] at h; simp only [Option.some.injEq,TypeDesc.struct.injEq] at h; subst h; kernel_rfl
theorem Bd117 {fs:Array Field} (h:Tryz.prog.underlying 117=some (.struct fs)):fs.toList.mapM (fun f=>(Tryz.prog.info? f.type).map fun i=>(f.offset,i.size))=some [(0,2),(2,169),(171,338)]:=by rw [Tryz.underlying117] at h; simp only [Option.some.injEq,TypeDesc.struct.injEq] at h; subst h; kernel_rfl
theorem Bd257 {fs:Array Field} (h:Tryz.prog.underlying 257=some (.struct fs)):fs.toList.mapM (fun f=>(Tryz.prog.info? f.type).map fun i=>(f.offset,i.size))=some [(0,7),(7,1),(8,40)]:=by rw [Tryz.underlying257] at h; simp only [Option.some.injEq,TypeDesc.struct.injEq] at h; subst h; kernel_rfl
theorem mixed:Tryz.prog.follows .mixedOrders=true:=by kernel_rfl
instance Al117:AlC Tryz.prog 117 (.agg (List.flatten [[I 0,.slice none 0 0],encF (α:=Int) (List.replicate 169 0),encF (α:=Leg) (List.replicate 169 default)]).toArray):=⟨by kernel_rfl⟩
instance Al169:AlC Tryz.prog 169 (.agg (List.flatten [[],encF (α:=Int) (List.replicate 601 0)]).toArray):=⟨by kernel_rfl⟩
instance Al201:AlC Tryz.prog 201 (.agg (List.flatten [[],encF (α:=Int) (List.replicate 16 0),encF (α:=Int) (List.replicate 16 0)]).toArray):=⟨by kernel_rfl⟩
instance Al257:AlC Tryz.prog 257 (.agg (List.flatten [[I 0,I 0,I 0,I 0,I 0,.slice none 0 0,.slice none 0 0,.map none],encF (α:=Bool) (List.replicate 40 false)]).toArray):=⟨by kernel_rfl⟩

instance:BdC Tryz.prog 25 [(0,1),(1,1)]:=⟨_,Tryz.underlying25,by kernel_rfl⟩
instance:BdC Tryz.prog 35 [(0,1),(1,1),(2,1)]:=⟨_,Tryz.underlying35,Bd35 Tryz.underlying35⟩
instance:BdC Tryz.prog 42 [(0,1),(1,1)]:=⟨_,Tryz.underlying42,Bd42 Tryz.underlying42⟩
instance:BdC Tryz.prog 49 [(0,1),(1,2)]:=⟨_,Tryz.underlying49,by kernel_rfl⟩
instance:BdC Tryz.prog 53 [(0,1),(1,1),(2,2),(4,1)]:=⟨_,Tryz.underlying53,by kernel_rfl⟩
instance:BdC Tryz.prog 58 [(0,1),(1,1),(2,1),(3,1)]:=⟨_,Tryz.underlying58,by kernel_rfl⟩
instance:BdC Tryz.prog 62 [(0,1),(1,2)]:=⟨_,Tryz.underlying62,by kernel_rfl⟩
instance:BdC Tryz.prog 65 [(0,1),(1,1)]:=⟨_,Tryz.underlying65,by kernel_rfl⟩
instance:BdC Tryz.prog 67 [(0,2),(2,2)]:=⟨_,Tryz.underlying67,by kernel_rfl⟩
instance:BdC Tryz.prog 70 [(0,1),(1,1)]:=⟨_,Tryz.underlying70,by kernel_rfl⟩
instance:BdC Tryz.prog 73 [(0,1),(1,1)]:=⟨_,Tryz.underlying73,by kernel_rfl⟩
instance:BdC Tryz.prog 75 [(0,2),(2,2)]:=⟨_,Tryz.underlying75,by kernel_rfl⟩
instance:BdC Tryz.prog 81 [(0,1),(1,1)]:=⟨_,Tryz.underlying81,by kernel_rfl⟩
instance:BdC Tryz.prog 84 [(0,1),(1,1),(2,2)]:=⟨_,Tryz.underlying84,by kernel_rfl⟩
instance:BdC Tryz.prog 87 [(0,1),(1,1)]:=⟨_,Tryz.underlying87,by kernel_rfl⟩
instance:BdC Tryz.prog 97 [(0,1),(1,1),(2,1),(3,1),(4,1)]:=⟨_,Tryz.underlying97,by kernel_rfl⟩
instance:BdC Tryz.prog 100 [(0,1),(1,1),(2,1)]:=⟨_,Tryz.underlying100,by kernel_rfl⟩
instance:BdC Tryz.prog 103 [(0,1),(1,1)]:=⟨_,Tryz.underlying103,by kernel_rfl⟩
instance:BdC Tryz.prog 105 [(0,1),(1,1)]:=⟨_,Tryz.underlying105,by kernel_rfl⟩
instance:BdC Tryz.prog 113 [(0,1),(1,1)]:=⟨_,Tryz.underlying113,by kernel_rfl⟩
instance:BdC Tryz.prog 117 [(0,2),(2,169),(171,338)]:=⟨_,Tryz.underlying117,Bd117 Tryz.underlying117⟩
instance:BdC Tryz.prog 123 [(0,2),(2,1),(3,1),(4,1),(5,1),(6,1)]:=⟨_,Tryz.underlying123,by kernel_rfl⟩
instance:BdC Tryz.prog 142 [(0,1),(1,1),(2,1),(3,1),(4,1)]:=⟨_,Tryz.underlying142,by kernel_rfl⟩
instance:BdC Tryz.prog 146 [(0,1),(1,1),(2,1)]:=⟨_,Tryz.underlying146,by kernel_rfl⟩
instance:BdC Tryz.prog 164 [(0,2),(2,1)]:=⟨_,Tryz.underlying164,by kernel_rfl⟩
instance:BdC Tryz.prog 189 [(0,1),(1,1)]:=⟨_,Tryz.underlying189,by kernel_rfl⟩
instance:BdC Tryz.prog 191 [(0,1),(1,2),(3,2)]:=⟨_,Tryz.underlying191,by kernel_rfl⟩
instance:BdC Tryz.prog 196 [(0,3),(3,1)]:=⟨_,Tryz.underlying196,by kernel_rfl⟩
instance:BdC Tryz.prog 201 [(0,16),(16,16)]:=⟨_,Tryz.underlying201,by kernel_rfl⟩
instance:BdC Tryz.prog 211 [(0,1)]:=⟨_,Tryz.underlying211,by kernel_rfl⟩
instance:BdC Tryz.prog 215 [(0,1),(1,1)]:=⟨_,Tryz.underlying215,by kernel_rfl⟩
instance:BdC Tryz.prog 218 [(0,1),(1,2),(3,2)]:=⟨_,Tryz.underlying218,by kernel_rfl⟩
instance:BdC Tryz.prog 237 [(0,1)]:=⟨_,Tryz.underlying237,by kernel_rfl⟩
instance:BdC Tryz.prog 257 [(0,7),(7,1),(8,40)]:=⟨_,Tryz.underlying257,Bd257 Tryz.underlying257⟩
instance:BdC Tryz.prog 295 [(0,1),(1,1)]:=⟨_,Tryz.underlying295,by kernel_rfl⟩
instance:BdC Tryz.prog 298 [(0,2),(2,1)]:=⟨_,Tryz.underlying298,by kernel_rfl⟩
instance:BdC Tryz.prog 343 [(0,1)]:=⟨_,Tryz.underlying343,by kernel_rfl⟩
theorem Mi67_flow : MethodIs Tryz.prog 67 "nilometer/rating.flow" 274 := fun _ _ => by kernel_rfl
theorem Mi70_flow : MethodIs Tryz.prog 70 "nilometer/rating.flow" 276 := fun _ _ => by kernel_rfl
end Go.Proofs.YtaolcidinlnklaaGreat
namespace Go.Nm
open Go
abbrev encSpt (x:Spot):Value:=.agg #[I x.sec,I x.stage]
theorem bool_val (o:Option Bool):(o.map B).getD (.bool false)=B (o.getD false):=by cases o <;> rfl
end Go.Nm
namespace Go.Proofs.YtaolcidinlnklaaGreat
open Go Go.Nm Go.Proofs
theorem findAskSpt {ν:Type} (k:Spot) (w:World):∀ (es:List MapEntry) (m:List (Spot × ν)) (venc:ν->Value) (j:Nat),es.map (fun e=>(e.key,e.val))=m.map (fun p=>(encSpt p.1,venc p.2)) →
    (Instr.findAsking 215 (encSpt k) es j).run Tryz.prog w = .ok ((idxM m k).bind fun i=>(es[i]?).map fun e=>(i+j,e.val)) w
  | [],[],_,_,_=>rfl
  | [],_ :: _,_,_,h=>by simp at h
  | _ :: _,[],_,_,h=>by simp at h
  | e :: es,p :: m,venc,j,h=>by
    simp only [List.map_cons,List.cons.injEq,Prod.mk.injEq] at h;have ih:=findAskSpt k w es m venc (j+1) h.2;unfold Instr.findAsking;rw [h.1.1];have he:=eqT215 k p.1 w;unfold idxM;by_cases hp:p.1=k
    · rw [if_pos hp];have:decide (k=p.1)=true:=by simp [hp]
      rw [this] at he;simp [Op.equal,Op.maxDepth,he]
    · rw [if_neg hp];have:decide (k=p.1)=false:=by simp; exact fun e=>hp e.symm
      rw [this] at he;simp only [Op.equal,Op.maxDepth,Sem.run_bind,he,Result.andThen_ok,Bool.false_eq_true,if_false,ih];cases hi:idxM m k with
      | none=>rfl
      | some i =>
        simp only [Option.map_some,Option.bind_some,List.getElem?_cons_succ];cases es[i]? with
        | none=>rfl
        | some e'=>simp; omega
theorem keySpot:KeyL (ν:=Int) Tryz.prog 215 encSpt:=by
  refine ⟨fun e w k=>?_,fun w es m venc k h=>?_,fun k=>?_⟩
  · have u3:=Tryz.underlying3;have a3:=Tryz.isAgg3;have z3:=Tryz.sizeOf3;have h1:∀ (n:Nat) (x:Int),(Instr.checkKey e (n+1) 3 (I x)).run Tryz.prog w = .ok () w:=fun n x=>MapKept.run_checkKey u3 (show MapKept.IsKey (.int .i64) (I x) from rfl) e n;have key:∀ n:Nat,(Instr.checkKey e (n+1+1) 215 (encSpt k)).run Tryz.prog w = .ok () w:=by
      intro n;rw [Instr.checkKey];simp only [Sem.run_bind,run_underlying Tryz.underlying215,Result.andThen_ok];rw [← Array.forIn_toList];simp only [List.forIn_cons,List.forIn_nil]
      go_simp
    exact key 9998
  · rw [run_findKey_eq w (by rw [Tryz.underlying215]),findAskSpt k w es m venc 0 h];rfl
  · simp [Instr.sameBits]
end Go.Proofs.YtaolcidinlnklaaGreat
section
set_option maxRecDepth 100000
set_option maxHeartbeats 16000000
namespace Go.Proofs.YtaolcidinlnklaaGreat
open Go Go.Nm
attribute [local irreducible] gd execOp SL SLD SLT WR
def zaI (bytes:List UInt8):M (Int × Int) :=
  M.pure (0,0)
theorem zdX {R ac aa}(bytes)(ag:Reads R ac)(ah:Sl ac aa bytes){r}(hM:(zaI bytes).Ends r)(w)(H:St w w [] R):Ret Tryz.prog 5 #[aa] w fun v w'=>∃ y0 y1 ae,(y0,y1)=r/\v=Pq ae/\St w w' [cBlk ae [aa,I y0,I y1] 100] R:=by
 refine ret_of_W Tryz.func5 rfl rfl rfl ?_;refine kB 8 ?_;intro ai aj H;refine kg 2 ?_;exact rt

def zb5 (s_used s_mix n b:Int):M (Int × Int × Int) :=
  M.gi (5*s_mix) <|
  M.gi ((5*s_mix)+b) <|
  M.gi (((5*s_mix)+b)+1) <|
  M.grd (decide ((0:Int)<=(((5*s_mix)+b)+1))&&decide ((0:Int)<251)) <|
  M.gi (s_used+1) <|
  bif decide (256<n) then (
  M.gi (256*b) <|
  M.gi ((256*b)+((((5*s_mix)+b)+1) % 251)) <|
  M.grd (decide ((0:Int)<=((256*b)+((((5*s_mix)+b)+1) % 251)))&&decide ((0:Int)<n)) <|
  M.pure ((((256*b)+((((5*s_mix)+b)+1) % 251)) % n),(s_used+1),((((5*s_mix)+b)+1) % 251)))
  else (
  M.grd (decide ((0:Int)<=b)&&decide ((0:Int)<n)) <|
  M.pure ((b % n),(s_used+1),((((5*s_mix)+b)+1) % 251)))
def zab (s_bytes:List UInt8) (s_used s_mix n:Int):M (Int × Int × Int) :=
  bif ((decide (n<2))||((s_bytes.length:Int)==0)) then (
  M.pure (0,s_used,s_mix))
  else (
  M.grd (decide ((0:Int)<=s_used)&&decide ((0:Int)<(s_bytes.length:Int))) <|
  M.grd (decide ((0:Int)<=(s_used % (s_bytes.length:Int)))&&decide ((s_used % (s_bytes.length:Int))<(s_bytes.length:Int))) <|
  M.grd (decide ((0:Int)<=((s_bytes.getD (Int.toNat (s_used % (s_bytes.length:Int))) 0).toNat:Int))&&decide (((s_bytes.getD (Int.toNat (s_used % (s_bytes.length:Int))) 0).toNat:Int)<(256:Int))) <|
  bif decide ((s_bytes.length:Int)<=s_used) then (
  M.gi (11*s_mix) <|
  M.grd (decide (0<=s_used)&&decide (s_used<=(9223372036854775807:Int))&&decide ((0:Int)<(s_bytes.length:Int))) <|
  M.gi ((11*s_mix)+(s_used / (s_bytes.length:Int))) <|
  M.gi (((s_bytes.getD (Int.toNat (s_used % (s_bytes.length:Int))) 0).toNat:Int)+((11*s_mix)+(s_used / (s_bytes.length:Int)))) <|
  zb5 s_used s_mix n (((s_bytes.getD (Int.toNat (s_used % (s_bytes.length:Int))) 0).toNat:Int)+((11*s_mix)+(s_used / (s_bytes.length:Int)))))
  else (
  zb5 s_used s_mix n ((s_bytes.getD (Int.toNat (s_used % (s_bytes.length:Int))) 0).toNat:Int)))
theorem zad {R aa ag ae}(s_bytes s_used s_mix n)(ah:Reads R ag)(ac:Sl ag ae s_bytes){r}(hM:(zab s_bytes s_used s_mix n).Ends r)(w)(H:St w w [cBlk aa [ae,I s_used,I s_mix] 100] R):Ret Tryz.prog 22 #[Pq aa,I n] w fun v w'=>∃ y0 y1 y2,(y0,y1,y2)=r/\v=I y0/\St w w' [cBlk aa [ae,I y1,I y2] 100] R:=by
 refine ret_of_W Tryz.func22 rfl rfl rfl ?_;have am:=(ac).len_le;refine kI 18 ?_ ?_
 ·intro ai hM;refine kg 4 ?_;exact rt
 intro ai hM;refine kD 2 [0] [] ?_;intro ao H;have ap:=(ac).len_le;obtain ⟨aq,hM⟩:=M.e_gq hM;refine kg 13 ?_;refine d_q rfl (fun w' H=>x_rem' (a:=s_used) (b:=(s_bytes.length:Int)) rfl rfl (by omega)) ?_;obtain ⟨au,hM⟩:=M.e_gq hM;refine kg 1 ?_;refine d_q rfl (fun w' H=>x_ld (v:=.int .u8 (((s_bytes.getD (Int.toNat (s_used % (s_bytes.length:Int))) 0).toNat:Int))) rfl (ld_sc Sc5.h (At.mono (UInt8_at ac (i:=s_used % (s_bytes.length:Int)) (by omega) (by omega)) (ah.at H)))) ?_;obtain ⟨av,hM⟩:=M.e_gq hM;refine d_q rfl (fun w' H=>x_conv64 (kd:=.u8) (a:=((s_bytes.getD (Int.toNat (s_used % (s_bytes.length:Int))) 0).toNat:Int)) Tryz.underlying5 Tryz.underlying3 rfl (by omega)) ?_;refine kg 2 ?_;refine W.seqJ (fun σ W=>∃ (b:Int) (ρ:Env),σ=upds ρ [(0,Pq aa),(1,I n),(5,I b)]/\(zb5 s_used s_mix n b).Ends r/\St w W [cBlk aa [ae,I s_used,I s_mix] 100] R) ?_ ?_
 ·refine kD 1 [0] [] ?_;intro aw H;have ax:=(ac).len_le;refine kI 11 ?_ ?_
  ·intro aj hM;refine kD 0 [0] [] ?_;intro ay H;obtain ⟨aA,hM⟩:=M.e_gq hM;have aB:=(ac).len_le;obtain ⟨aC,hM⟩:=M.e_gq hM;obtain ⟨aD,hM⟩:=M.e_gq hM;obtain ⟨aE,hM⟩:=M.e_gq hM;refine kg 20 ?_;exact ⟨((s_bytes.getD (Int.toNat (s_used % (s_bytes.length:Int))) 0).toNat:Int)+((11*s_mix)+(s_used / (s_bytes.length:Int))),_,jQ,hM,H⟩
  intro aj hM;refine W.skip ?_;exact ⟨((s_bytes.getD (Int.toNat (s_used % (s_bytes.length:Int))) 0).toNat:Int),_,jQ,hM,H⟩
 rintro _ aF ⟨b,ρ,rfl,hM,H⟩;unfold zb5 at hM;obtain ⟨aG,hM⟩:=M.e_gq hM;obtain ⟨aH,hM⟩:=M.e_gq hM;obtain ⟨aI,hM⟩:=M.e_gq hM;obtain ⟨aJ,hM⟩:=M.e_gq hM;refine kg 11 ?_;refine s_val (x_rem' (a:=((5*s_mix)+b)+1) (b:=251) rfl rfl (by omega)) ?_;refine kS 2 ?_;intro aK H;obtain ⟨aL,hM⟩:=M.e_gq hM;refine kS 10 ?_;intro aM H;refine kI 7 ?_ ?_
 ·intro al hM;obtain ⟨aN,hM⟩:=M.e_gq hM;obtain ⟨aO,hM⟩:=M.e_gq hM;obtain ⟨aP,hM⟩:=M.e_gq hM;refine kg 14 ?_;refine s_val (x_rem' (a:=(256*b)+((((5*s_mix)+b)+1) % 251)) (b:=n) rfl rfl (by omega)) ?_;refine kg 2 ?_;exact rt
 intro al hM;obtain ⟨aQ,hM⟩:=M.e_gq hM;refine kg 5 ?_;refine s_val (x_rem' (a:=b) (b:=n) rfl rfl (by omega)) ?_;refine kg 2 ?_;exact rt

def zag (s_bytes:List UInt8) (s_used s_mix lo hi:Int):M (Int × Int × Int) :=
  M.gi (hi-lo) <|
  M.gi ((hi-lo)+1) <|
  M.bind (zab s_bytes s_used s_mix ((hi-lo)+1)) fun (r2,q1,q2) =>
  M.gi (lo+r2) <|
  M.pure ((lo+r2),q1,q2)
theorem zaf {R aa ae ac}(s_bytes s_used s_mix lo hi)(ag:Reads R ae)(ah:Sl ae ac s_bytes){r}(hM:(zag s_bytes s_used s_mix lo hi).Ends r)(w)(H:St w w [cBlk aa [ac,I s_used,I s_mix] 100] R):Ret Tryz.prog 21 #[Pq aa,I lo,I hi] w fun v w'=>∃ y0 y1 y2,(y0,y1,y2)=r/\v=I y0/\St w w' [cBlk aa [ac,I y1,I y2] 100] R:=by
 refine ret_of_W Tryz.func21 rfl rfl rfl ?_;obtain ⟨ai,hM⟩:=M.e_gq hM;obtain ⟨aj,hM⟩:=M.e_gq hM;refine kC 12 @zad ?_;intro al r2 q1 q2 hM H;obtain ⟨am,hM⟩:=M.e_gq hM;refine kg 3 ?_;exact rt

def zaE (v n:Int):M Int :=
  bif decide (n<1) then (
  M.pure 0)
  else (
  M.grd (decide ((0:Int)<n)) <|
  bif decide ((Int.tmod v n)<0) then (
  M.gi ((Int.tmod v n)+n) <|
  M.pure ((Int.tmod v n)+n))
  else (
  M.pure (Int.tmod v n)))
theorem zdZ {R}(v n){r}(hM:(zaE v n).Ends r)(w)(H:St w w [] R):Ret Tryz.prog 7 #[I v,I n] w fun v w'=>∃ y0,y0=r/\v=I y0/\St w w' [] R:=by
 refine ret_of_W Tryz.func7 rfl rfl rfl ?_;refine kI 10 ?_ ?_
 ·intro aa hM;refine kg 4 ?_;exact rt
 intro aa hM;obtain ⟨ae,hM⟩:=M.e_gq hM;refine kg 5 ?_;refine s_val (x_rem (a:=v) (b:=n) rfl rfl (by omega)) ?_;refine kI 8 ?_ ?_
 ·intro ac hM;obtain ⟨ag,hM⟩:=M.e_gq hM;refine kg 11 ?_;exact rt
 intro ac hM;refine kg 6 ?_;exact rt

def zdp (s_bytes:List UInt8) (s_used s_mix:Int) (heights:List Int) (a b day:Int):M (Int × Int × Int × Int × Int × Int × Int) :=
  M.bind (zab s_bytes s_used s_mix 9) fun (r2,q1,q2) =>
  M.grd (decide ((0:Int)<=b)&&decide (b<(heights.length:Int))) <|
  M.grd (decide ((0:Int)<=a)&&decide (a<(heights.length:Int))) <|
  M.gi ((heights.getD (Int.toNat b) 0)-(heights.getD (Int.toNat a) 0)) <|
  M.grd (decide (-9223372036854775807<=r2)&&decide (r2<=9223372036854775807)) <|
  M.bind (zag s_bytes q1 q2 (-r2) r2) fun (r3,aa,ac) =>
  M.gi (((heights.getD (Int.toNat b) 0)-(heights.getD (Int.toNat a) 0))+r3) <|
  M.pure (a,b,day,(((heights.getD (Int.toNat b) 0)-(heights.getD (Int.toNat a) 0))+r3),r2,aa,ac)
theorem zen {R aa ai ae aj al}(s_bytes s_used s_mix heights a b day)(ag:Reads R ai)(ah:Sl ai ae s_bytes)(av:Reads R aj)(aw:Sl aj al heights){r}(hM:(zdp s_bytes s_used s_mix heights a b day).Ends r)(w)(H:St w w [cBlk aa [ae,I s_used,I s_mix] 100] R):Ret Tryz.prog 23 #[Pq aa,al,I a,I b,I day] w fun v w'=>∃ y0 y1 y2 y3 y4 y5 y6,(y0,y1,y2,y3,y4,y5,y6)=r/\v = .agg #[I y0,I y1,I y2,I y3,I y4]/\St w w' [cBlk aa [ae,I y5,I y6] 100] R:=by
 refine ret_of_W Tryz.func23 rfl rfl rfl ?_;refine kA 2 ?_;intro ax ay H;refine kg 7 ?_;obtain ⟨aA,am,hM⟩:=M.e_bind hM;refine s_call cq [Pq aa,I 9] rfl (zad s_bytes s_used s_mix 9 (ag.app _) ah am _ ((H.pk [1,0]).gt 1)) ?_;rintro _ aB ⟨r2,q1,q2,rfl,rfl,ac⟩;replace H:=H.pk [1,0] |>.bk ac
 refine kA 1 ?_;intro aC aD H;refine ksw ?_;intro aE H;refine kDT 2 [2] (.q 0 (.q 1 (.q 2 (.q 3 (.q 4 (.q 5 (.q 6 (.q 7 (.q 8 (.q 9 (.q 10 (.q 13 (.l2 11 (.q 12 (.l 14 (.l 15 (.q 16 (.q 17 (.l 18 .nil)))))) 14 (.l 11 (.q 12 (.l 15 (.q 16 (.q 17 (.l 18 .nil))))))))))))))))))) ?_;intro aF H;obtain ⟨aG,hM⟩:=M.e_gq hM;obtain ⟨aH,hM⟩:=M.e_gq hM;obtain ⟨aI,hM⟩:=M.e_gq hM;refine kg 12 ?_;refine t_l2 rfl rfl ?_ ?_
 ·refine kG 1 ?_;refine kN ?_;obtain ⟨aJ,hM⟩:=M.e_gq hM;refine t_q rfl (fun w' H=>x_neg (a:=r2) rfl (by omega)) ?_;refine kG 2 ?_;refine kN ?_;refine t_l rfl ?_;obtain ⟨aK,ao,hM⟩:=M.e_bind hM;refine s_call cq [Pq aa,I (-r2),I r2] rfl (zaf s_bytes q1 q2 (-r2) r2 (ag.app _) ah ao _ ((H.pk [1,0,2]).gt 2)) ?_;rintro _ aL ⟨r3,ap,aq,rfl,rfl,ac⟩;replace H:=H.pk [1,0,2] |>.bk ac
  refine kN ?_;obtain ⟨aM,hM⟩:=M.e_gq hM;refine kS 3 ?_;intro aN H;refine kN ?_;refine kS 4 ?_;intro aO H;exact kR 1 [0]
 refine kG 1 ?_;refine kN ?_;refine kG 2 ?_;refine kN ?_;obtain ⟨aP,hM⟩:=M.e_gq hM;refine t_q rfl (fun w' H=>x_neg (a:=r2) rfl (by omega))<|t_l rfl ?_;obtain ⟨aQ,au,hM⟩:=M.e_bind hM;refine s_call cq [Pq aa,I (-r2),I r2] rfl (zaf s_bytes q1 q2 (-r2) r2 (ag.app _) ah au _ ((H.pk [1,0,2]).gt 2)) ?_
 rintro _ aR ⟨r3,ap,aq,rfl,rfl,ac⟩;replace H:=H.pk [1,0,2] |>.bk ac
 refine kN ?_;obtain ⟨aS,hM⟩:=M.e_gq hM;refine kS 3 ?_;intro aT H;refine kN ?_;refine kS 4 ?_;intro aU H;exact kR 1 [0]

def zbN (s_bytes:List UInt8) (r2:Int):(Int × Int × (List Int))->M ((Int × Int × (List Int)) ⊕ (Int × Int × (List Int) × (List Int))):=fun (s2,s3,l) =>
  bif decide ((l.length:Int)<r2) then (
  M.bind (zag s_bytes s2 s3 (-300) 300) fun (r3,aa,ac) =>
  M.grd (decide ((l.length+([(r3:Int)]).length)*8<=140737488355328)) <|
  M.pure (.inl (aa,ac,l++([(r3:Int)]))))
  else (
  M.pure (.inr (s2,s3,l,l)))
def zbQ (s_bytes:List UInt8) (r2:Int) (l3:List Int) (r4:Int):(Int × Int × Nat × (List Line))->M ((Int × Int × Nat × (List Line)) ⊕ ((List Line) × (List Line) × Int × Int)):=fun (s6,s7,s8,l4) =>
  bif decide ((s8:Int)<r4) then (
  M.bind (zab s_bytes s6 s7 r2) fun (r5,ag,ah) =>
  M.gi (r5+1) <|
  M.gi (r2-1) <|
  M.bind (zab s_bytes ag ah (r2-1)) fun (r6,ai,aj) =>
  M.gi ((r5+1)+r6) <|
  M.grd (decide ((0:Int)<=((r5+1)+r6))&&decide ((0:Int)<r2)) <|
  M.bind (zab s_bytes ai aj 30) fun (r7,al,am) =>
  M.bind (zdp s_bytes al am l3 r5 (((r5+1)+r6) % r2) r7) fun (r0,r1,aa,ac,ae,ao,ap) =>
  M.grd (decide ((l4.length+([(⟨(r0:Int),(r1:Int),(aa:Int),(ac:Int),(ae:Int)⟩:Line)]).length)*40<=140737488355328)) <|
  M.gi ((s8:Int)+1) <|
  M.pure (.inl (ao,ap,s8+1,l4++([(⟨(r0:Int),(r1:Int),(aa:Int),(ac:Int),(ae:Int)⟩:Line)]))))
  else (
  M.pure (.inr (l4,l4,s6,s7)))
def zcC (s_bytes:List UInt8) (s_used s_mix most:Int):M (Int × (List Line) × (List Int) × Int × Int) :=
  M.bind (zag s_bytes s_used s_mix 2 most) fun (r2,q1,q2) =>
  M.bind (M.iter (zbN s_bytes r2) (q1,q2,[(0:Int)])) fun (s4,s5,l2,l3) =>
  M.bind (zag s_bytes s4 s5 1 14) fun (r4,aa,ac) =>
  M.bind (M.iter (zbQ s_bytes r2 l3 r4) (aa,ac,0,[])) fun (l5,l6,s9,ae) =>
  M.pure (r2,l6,l3,s9,ae)
theorem zhK {R aa au ai}(s_bytes s_used s_mix most)(al:Reads R au)(am:Sl au ai s_bytes){r}(hM:(zcC s_bytes s_used s_mix most).Ends r)(w)(H:St w w [cBlk aa [ai,I s_used,I s_mix] 100] R):Ret Tryz.prog 4 #[Pq aa,I most] w fun v w'=>∃ y0 y1 y2 y3 y4 u0 u1,(y0,y1,y2,y3,y4)=r/\v = .tuple #[.agg #[I y0,u0],u1]/\St w w' [cOwn (α:=Line) 97 u0 y1,cOwn (α:=Int) 3 u1 y2,cBlk aa [ai,I y3,I y4] 100] R:=by
 refine ret_of_W Tryz.func4 rfl rfl rfl ?_;refine kA 2 ?_;intro ao aR H;refine kg 6 ?_;obtain ⟨aS,aA,hM⟩:=M.e_bind hM;refine s_call cq [Pq aa,I 2,I most] rfl (zaf s_bytes s_used s_mix 2 most (al.app _) am aA _ ((H.pk [1,0]).gt 1)) ?_;rintro _ aT ⟨r2,q1,q2,rfl,rfl,ac⟩;replace H:=H.pk [1,0] |>.bk ac
 refine kA 1 ?_;intro ap aU H;refine ksw ?_;intro aV H;refine kL 3 (α:=Int) [0] ?_;intro aW aX H;refine kg 4 ?_;obtain ⟨aB,av,aC⟩:=M.e_bind hM;obtain ⟨aD,av⟩:=M.e_iter av;refine W.loop (fun m σ W=>∃ (s2:Int) (s3:Int) (l:List Int) (aj:Value) (ρ:Env),σ=upds ρ [(0,Pq aa),(4,Pq ao),(6,Pq ap),(7,aj)]/\M.iterN (zbN s_bytes r2) m (s2,s3,l)=some aB/\St w W [cOwn (α:=Int) 3 aj l,cBlk ap [I r2,.slice none 0 0] 25,cBlk aa [ai,I s2,I s3] 100,cBlk ao [I 0,.slice none 0 0] 25] R) ?_ ?_
 ·exact kY
 rintro aY σ aZ ⟨s2,s3,l,aj,ρ,rfl,aE,H⟩;obtain ⟨a7,a8,ba,hM,aF⟩:=M.e_iterN aE;have bc:=((H.os 0)).len_le;refine kI 9 ?_ ?_
 ·intro aG hM;refine kg 5 ?_;obtain ⟨bg,aH,hM⟩:=M.e_bind hM;refine s_call cq [Pq aa,I (-300),I 300] rfl (zaf s_bytes s2 s3 (-300) 300 (al.app _) am aH _ ((H.pk [2,0,1,3]).gt 3)) ?_;rintro _ bi ⟨r3,bj,bm,rfl,rfl,ac⟩;replace H:=H.pk [2,0,1,3] |>.bk ac
  refine kL 0 (α:=Int) [r3] ?_;intro bn bp H;obtain ⟨br,hM⟩:=M.e_gq hM;refine kP 0 ?_;intro bt bu H;exact kXp 2 [2,3,1,4]
 intro aG hM;refine W.exit ?_;obtain rfl:=M.e_inr hM aF;replace hM:=aC;refine kg 4 ?_;obtain ⟨bv,aI,hM⟩:=M.e_bind hM;refine s_call cq [Pq aa,I 1,I 14] rfl (zaf s_bytes s2 s3 1 14 (al.app _) am aI _ ((H.pk [2,0,1,3]).gt 3)) ?_;rintro _ bw ⟨r4,bx,bz,rfl,rfl,ac⟩;replace H:=H.pk [2,0,1,3] |>.bk ac
 refine kg 3 ?_;replace H:=H.nilOwn (α:=Line) 97;obtain ⟨aJ,aw,aK⟩:=M.e_bind hM;obtain ⟨aD,aw⟩:=M.e_iter aw;refine W.loop (fun m σ W=>∃ (s6:Int) (s7:Int) (s8:Nat) (l4:List Line) (aq:Value) (ρ:Env),σ=upds ρ [(0,Pq aa),(4,Pq ao),(6,Pq ap),(7,aj),(26,I r4),(27,I (s8:Int))]/\M.iterN (zbQ s_bytes r2 l r4) m (s6,s7,s8,l4)=some aJ/\St w W [cOwn (α:=Line) 97 aq l4,cBlk aa [ai,I s6,I s7] 100,cOwn (α:=Int) 3 aj l,cBlk ap [I r2,aq] 25,cBlk ao [I 0,.slice none 0 0] 25] R) ?_ ?_
 ·exact kY
 rintro bA σ bB ⟨s6,s7,s8,l4,aq,ρ,rfl,aL,H⟩;obtain ⟨bC,bD,bE,hM,aM⟩:=M.e_iterN aL;refine kI 5 ?_ ?_
 ·intro aN hM;refine kg 8 ?_;obtain ⟨bF,aO,hM⟩:=M.e_bind hM;refine s_call cq [Pq aa,I r2] rfl (zad s_bytes s6 s7 r2 (al.app _) am aO _ ((H.pk [1,0,2,3,4]).gt 4)) ?_;rintro _ bG ⟨r5,bH,bI,rfl,rfl,ac⟩;replace H:=H.pk [1,0,2,3,4] |>.bk ac
  refine kDo 3 [1,2,3,4] [(0,true),(1,true),(2,true),(3,true),(4,true),(5,true),(8,true),(9,true),(6,false),(7,true),(10,true),(11,true)] ?_;intro bJ H;obtain ⟨bK,hM⟩:=M.e_gq hM;obtain ⟨bL,hM⟩:=M.e_gq hM;refine kC 9 @zad ?_;intro bN r6 bO bP hM H;refine kN ?_;obtain ⟨bQ,hM⟩:=M.e_gq hM;obtain ⟨bR,hM⟩:=M.e_gq hM;refine kg 1 ?_;refine d_q rfl (fun w' H=>x_rem' (a:=(r5+1)+r6) (b:=r2) rfl rfl (by omega)) ?_;refine kDT 2 [2,4] (.q 0 (.q 2 (.q 3 (.q 4 (.q 5 (.q 6 (.l2 1 (.l 7 (.l 8 (.l 9 (.l 10 (.q 11 (.l 12 .nil)))))) 7 (.l2 1 (.l 8 (.l 9 (.l 10 (.q 11 (.l 12 .nil))))) 8 (.l2 1 (.l 9 (.l 10 (.q 11 (.l 12 .nil)))) 9 (.l 1 (.l 10 (.q 11 (.l 12 .nil))))))))))))) ?_;intro bS H;refine kg 6 ?_;refine t_l2 rfl rfl ?_ ?_
  ·refine kG 1 ?_;refine kN ?_;refine kC 1 @zad ?_;intro bT r7 aP aQ hM H;refine kN ?_;refine kC 1 @zen ?_;intro bU r0 r1 ae ag ah ax ay hM H;refine kN ?_;refine kL 1 (α:=Line) [⟨r0,r1,ae,ag,ah⟩] ?_;intro bV bW H;refine kN ?_;refine t_l rfl ?_;obtain ⟨bX,hM⟩:=M.e_gq hM;refine kP 0 ?_;intro bY bZ H;refine kN ?_;refine kS 2 ?_;intro b7 H;refine kN ?_;obtain ⟨b8,hM⟩:=M.e_gq hM;exact kXp 5 [2,1,3,4,5]
  refine kC 0 @zad ?_;intro b9 r7 aP aQ hM H;refine kN ?_;refine t_l2 rfl rfl ?_ ?_
  ·refine kG 1 ?_;refine kN ?_;refine kC 1 @zen ?_;intro cb r0 r1 ae ag ah ax ay hM H;refine kN ?_;refine kL 1 (α:=Line) [⟨r0,r1,ae,ag,ah⟩] ?_;intro cc ce H;refine kN ?_;refine t_l rfl ?_;obtain ⟨cf,hM⟩:=M.e_gq hM;refine kP 0 ?_;intro cg ch H;refine kN ?_;refine kS 2 ?_;intro cj H;refine kN ?_;obtain ⟨ck,hM⟩:=M.e_gq hM;exact kXp 5 [2,1,3,4,5]
  refine kC 0 @zen ?_;intro cn r0 r1 ae ag ah ax ay hM H;refine kN ?_;obtain ⟨cp,hM⟩:=M.e_gq hM;refine t_l2 rfl rfl ?_ ?_
  ·refine kG 1 ?_;refine kN ?_;refine kL 1 (α:=Line) [⟨r0,r1,ae,ag,ah⟩] ?_;intro cr ct H;refine kN ?_;refine kP 1 ?_;intro cv cw H;refine kN ?_;refine kS 2 ?_;intro cA H;refine kN ?_;obtain ⟨cB,hM⟩:=M.e_gq hM;exact kXp 5 [2,1,3,4,5]
  refine kL 0 (α:=Line) [⟨r0,r1,ae,ag,ah⟩] ?_;intro cC cD H;refine kN ?_;refine kG 2 ?_;refine kN ?_;refine kP 1 ?_;intro cE cF H;refine kN ?_;refine kS 2 ?_;intro cG H;refine kN ?_;obtain ⟨cH,hM⟩:=M.e_gq hM;exact kXp 5 [2,1,3,4,5]
 intro aN hM;refine W.exit ?_;obtain rfl:=M.e_inr hM aM;replace hM:=aK;refine kS 4 ?_;intro cI H;exact kR 2 [0,2,1]

def zar (n aa greatest:Int):M Bool :=
  M.pure ((decide (aa<=n))&&(decide (n<=greatest)))
theorem zay {R}(n aa greatest){r}(hM:(zar n aa greatest).Ends r)(w)(H:St w w [] R):Ret Tryz.prog 59 #[I n,I aa,I greatest] w fun v w'=>∃ y0,y0=r/\v=B y0/\St w w' [] R:=by
 refine ret_of_W Tryz.func59 rfl rfl rfl ?_;refine kg 16 ?_;exact rt

def zbU (s:List Line) (f:Line->M Bool):Nat->M (Nat ⊕ (Int ⊕ Unit)):=fun s2 =>
  bif decide ((s2:Int)<(s.length:Int)) then (
  M.grd (decide ((s2:Int)<(s.length:Int))) <|
  M.bind (f (s.getD s2 default)) fun r2 =>
  bif r2 then (
  M.pure (.inr (.inl (s2:Int))))
  else (
  M.pure (.inl (s2+1))))
  else (
  M.pure (.inr (.inr ())))
def zci (s:List Line) (f:Line->M Bool):M Int :=
  M.bind (M.iter (zbU s f) 0) fun x_=>match x_ with
  | (.inl s3)=>(
  M.pure s3)
  | (.inr (_:Unit))=>(
  M.pure (-1))
theorem zg4 {R ae aa ac}(s f)(av:Reads R ae)(aj:Sl ae aa s)(al:FnM Tryz.prog R ac f){r}(hM:(zci s f).Ends r)(w)(H:St w w [] R):Ret Tryz.prog 226 #[aa,ac] w fun v w'=>∃ y0,y0=r/\v=I y0/\St w w' [] R:=by
 refine ret_of_W Tryz.func226 rfl rfl rfl ?_;have aw:=(aj).len_le;refine kg 12 ?_;obtain ⟨am,ag,ah⟩:=M.e_bind hM;obtain ⟨ax,ag⟩:=M.e_iter ag;refine W.loop (fun m σ W=>∃ (s2:Nat) (ρ:Env),σ=upds ρ [(0,aa),(1,ac),(7,I (s.length:Int)),(8,I (s2:Int))]/\M.iterN (zbU s f) m s2=some am/\St w W [] R) ?_ ?_
 ·exact kY
 rintro ay σ aA ⟨s2,ρ,rfl,ao,H⟩;obtain ⟨aB,aC,aD,hM,ai⟩:=M.e_iterN ao;refine kI 5 ?_ ?_
 ·intro ap hM;obtain ⟨aE,hM⟩:=M.e_gq hM;refine kg 15 ?_;obtain ⟨r2,aq,hM⟩:=M.e_bind hM;refine t_callM H al rfl rfl (s.getD s2 default) Reads.none ⟨_,rfl,rfl⟩ aq ?_;intro aF H;refine kI 1 ?_ ?_
  ·intro au hM;refine kg 5 ?_;obtain rfl:=M.e_inr hM ai;replace hM:=ah;exact rt
  intro au hM;exact kX 5
 intro ap hM;refine W.exit ?_;obtain rfl:=M.e_inr hM ai;replace hM:=ah;refine kg 4 ?_;exact rt

def zeq (s:List Line) (f:Line->M Bool):M Bool :=
  M.bind (zci s f) fun r2 =>
  M.pure (decide (0<=r2))
theorem zgc {R aa ac ae}(s f)(ag:Reads R aa)(ah:Sl aa ac s)(ai:FnM Tryz.prog R ae f){r}(hM:(zeq s f).Ends r)(w)(H:St w w [] R):Ret Tryz.prog 179 #[ac,ae] w fun v w'=>∃ y0,y0=r/\v=B y0/\St w w' [] R:=by
 refine ret_of_W Tryz.func179 rfl rfl rfl ?_;refine kC 8 @zg4 ?_;intro aj r2 hM H;refine kg 3 ?_;exact rt

def zbJ (x:Line) (aa:Line->M Bool):M Bool :=
  M.bind (aa x) fun r2 =>
  M.pure (!r2)
theorem zhr {R aa ac}(x ae)(ag:FnM Tryz.prog R ac ae)(ai:Has R (cBlk aa [ac] 248)){r}(hM:(zbJ x ae).Ends r)(w)(H:St w w [] R):Ret Tryz.prog 180 #[.agg #[I x.src,I x.dst,I x.day,I x.rise,I x.err],Pq aa] w fun v w'=>∃ y0,y0=r/\v=B y0/\St w w' [] R:=by
 refine ret_of_W Tryz.func180 rfl rfl rfl ?_;refine kB 2 ?_;intro aj al H;refine kg 6 ?_;obtain ⟨r2,ah,hM⟩:=M.e_bind hM;refine t_callM H ag rfl rfl x Reads.none ⟨_,rfl,rfl⟩ ah ?_;intro am H;refine kg 3 ?_;exact rt

def zde (l:List Line) (so:Line->M Bool):M Bool :=
  M.bind (zeq l (fun aa=>zbJ aa so)) fun r2 =>
  M.pure (!r2)
theorem zgL {R ag aa ah}(l so)(aj:Reads R ag)(al:Sl ag aa l)(am:FnM Tryz.prog R ah so){r}(hM:(zde l so).Ends r)(w)(H:St w w [] R):Ret Tryz.prog 108 #[aa,ah] w fun v w'=>∃ y0,y0=r/\v=B y0/\St w w' [] R:=by
 refine ret_of_W Tryz.func108 rfl rfl rfl ?_;refine kB 2 ?_;intro ac aB H;refine kg 5 ?_;refine s_val (x_mf (fs:=[]) (cs:=[Pq ac]) rfl rfl) ?_;obtain ⟨aC,ao,hM⟩:=M.e_bind hM;refine s_call cq [aa,.func (.func 180) #[] #[Pq ac]] rfl (zgc l (fun ae=>zbJ ae so) (aj.app _) al ⟨180,[Pq ac],rfl,cq,fun ai aD aE ap ae aF aq aG au av=>by obtain rfl:=Line_arg au; exact (zhr ae so (FnM.app (am.app _) _) (Has.app (Has.here (k:=0) rfl) _) av ai (St.refl aq)).mono fun ap ai ⟨aH,aw,ax,ay⟩=>by subst aw; exact ⟨ax,ay⟩⟩ ao _ (H.gt 1)) ?_;rintro _ aI ⟨r2,rfl,rfl,aA⟩;replace H:=H.bk aA;refine kg 3 ?_;exact rt

def za5 (i aa:Int) (ac:List Line):M Bool :=
  M.gi (aa-1) <|
  M.bind (zar i 0 (aa-1)) fun r2 =>
  M.pure r2
theorem zeZ {R aa ac ae}(i ag ah)(ai:Reads R ac)(aj:Sl ac ae ah)(al:Has R (cBlk aa [I ag,ae] 25)){r}(hM:(za5 i ag ah).Ends r)(w)(H:St w w [] R):Ret Tryz.prog 107 #[I i,Pq aa] w fun v w'=>∃ y0,y0=r/\v=B y0/\St w w' [] R:=by
 refine ret_of_W Tryz.func107 rfl rfl rfl ?_;obtain ⟨am,hM⟩:=M.e_gq hM;refine kC 10 @zay ?_;intro ao r2 hM H;refine kg 2 ?_;exact rt

def zdo (l:Line) (aa:Int) (ac:List Line):M Bool :=
  M.bind (za5 l.src aa ac) fun r2 =>
  M.bind (M.opt r2 (za5 l.dst aa ac) false) fun r3 =>
  M.bind (M.opt ((r2&&r3)&&(l.src != l.dst)) (zar l.day 0 40000) false) fun r4 =>
  M.bind (M.opt (((r2&&r3)&&(l.src != l.dst))&&r4) (zar l.rise (-1000000) 1000000) false) fun r5 =>
  M.bind (M.opt ((((r2&&r3)&&(l.src != l.dst))&&r4)&&r5) (zar l.err 0 10000) false) fun r6 =>
  M.pure (((((r2&&r3)&&(l.src != l.dst))&&r4)&&r5)&&r6)
theorem zhd {R ai ae aj al}(l ag ah)(am:Reads R aj)(ao:Sl aj al ah)(ap:Has R (cBlk ae [I ag,al] 25))(aA:Has R (cBlk ai [.func (.func 107) #[] #[Pq ae]] 207)){r}(hM:(zdo l ag ah).Ends r)(w)(H:St w w [] R):Ret Tryz.prog 109 #[.agg #[I l.src,I l.dst,I l.day,I l.rise,I l.err],Pq ai] w fun v w'=>∃ y0,y0=r/\v=B y0/\St w w' [] R:=by
 refine ret_of_W Tryz.func109 rfl rfl rfl ?_;refine kB 2 ?_;intro aB aC H;refine kg 7 ?_;obtain ⟨aD,aq,hM⟩:=M.e_bind hM;refine s_callv (f:=107) rfl cq [I l.src] rfl (zeZ l.src ag ah (am.app _) ao (ap.app _) aq _ (H.gt 1)) ?_;rintro _ aE ⟨r2,rfl,rfl,au⟩;replace H:=H.bk au;refine kg 4 ?_;obtain ⟨r3,av,hM⟩:=M.e_bind hM;refine t_gcallv (cap:=[Pq ae]) r2 (gy_t rfl) cq (fun hg=>(gd_of hg (.func (.func 107) #[] #[Pq ae]))) (B r3) (fun _=>[I l.dst]) (fun hg=>lst1 (gd_of hg (I l.dst))) H (fun hg=>(zeZ l.dst ag ah (am.app _) ao (ap.app _) (M.e_opt av hg) _ (H.give (A:=[]) rfl)).mono fun v_ w_ ⟨y_,aa,ac,H_⟩=>by subst aa; exact ⟨ac,H.via H_⟩) ?_;intro aF H;refine kg 11 ?_;obtain ⟨r4,aw,hM⟩:=M.e_bind hM;refine t_gcall ((r2&&r3)&&(l.src != l.dst)) (gy_t rfl) cq (B r4) (fun _=>[I l.day,I 0,I 40000]) (fun hg=>lst3 (gd_of hg (I l.day)) rfl rfl) H (fun hg=>(zay l.day 0 40000 (M.e_opt aw hg) _ (H.give (A:=[]) rfl)).mono fun v_ w_ ⟨y_,aa,ac,H_⟩=>by subst aa; exact ⟨ac,H.via H_⟩) ?_;intro aG H;refine kg 4 ?_;obtain ⟨r5,ax,hM⟩:=M.e_bind hM;refine t_gcall (((r2&&r3)&&(l.src != l.dst))&&r4) (gy_t rfl) cq (B r5) (fun _=>[I l.rise,I (-1000000),I 1000000]) (fun hg=>lst3 (gd_of hg (I l.rise)) rfl rfl) H (fun hg=>(zay l.rise (-1000000) 1000000 (M.e_opt ax hg) _ (H.give (A:=[]) rfl)).mono fun v_ w_ ⟨y_,aa,ac,H_⟩=>by subst aa; exact ⟨ac,H.via H_⟩) ?_;intro aH H;refine kg 4 ?_;obtain ⟨r6,ay,hM⟩:=M.e_bind hM;refine t_gcall ((((r2&&r3)&&(l.src != l.dst))&&r4)&&r5) (gy_t rfl) cq (B r6) (fun _=>[I l.err,I 0,I 10000]) (fun hg=>lst3 (gd_of hg (I l.err)) rfl rfl) H (fun hg=>(zay l.err 0 10000 (M.e_opt ay hg) _ (H.give (A:=[]) rfl)).mono fun v_ w_ ⟨y_,aa,ac,H_⟩=>by subst aa; exact ⟨ac,H.via H_⟩) ?_;intro aI H;refine kg 3 ?_;exact rt

def zbE (n_Marks:Int) (n_Lines:List Line):M Int :=
  M.bind (zar n_Marks 1 12) fun r2 =>
  bif ((!r2)||(decide (30<(n_Lines.length:Int)))) then (
  M.pure 3)
  else (
  M.bind (zde n_Lines (fun aa=>zdo aa n_Marks n_Lines)) fun r3 =>
  bif !r3 then (
  M.pure 20)
  else (
  M.pure 0))
theorem zeR {R ah aa}(n_Marks n_Lines)(ai:Reads R ah)(ac:Sl ah aa n_Lines){r}(hM:(zbE n_Marks n_Lines).Ends r)(w)(H:St w w [] R):Ret Tryz.prog 58 #[.agg #[I n_Marks,aa]] w fun v w'=>∃ y0,y0=r/\v=I y0/\St w w' [] R:=by
 refine ret_of_W Tryz.func58 rfl rfl rfl ?_;refine kB 2 ?_;intro al aC H;refine kg 4 ?_;refine s_val (x_mf (fs:=[]) (cs:=[Pq al]) rfl rfl) ?_;refine kal ?_;intro ae aD H;refine ksw ?_;intro aE H;refine kC 7 @zay ?_;intro aF r2 hM H;have aG:=(ac).len_le;refine kI 9 ?_ ?_
 ·intro am hM;refine kg 4 ?_;replace H:=H.pk [];exact rt
 intro am hM;refine kg 4 ?_;refine s_val (x_mf (fs:=[]) (cs:=[Pq ae]) rfl rfl) ?_;obtain ⟨aH,ao,hM⟩:=M.e_bind hM;refine s_call cq [aa,.func (.func 109) #[] #[Pq ae]] rfl (zgL n_Lines (fun ag=>zdo ag n_Marks n_Lines) (ai.app _) ac ⟨109,[Pq ae],rfl,cq,fun aj aI aJ ap ag aK aq aL au av=>by obtain rfl:=Line_arg au; exact (zhd ag n_Marks n_Lines (Reads.app (ai.app _) _) ac (Has.app (Has.here (k:=1) rfl) _) (Has.app (Has.here (k:=0) rfl) _) av aj (St.refl aq)).mono fun ap aj ⟨aM,aw,ax,ay⟩=>by subst aw; exact ⟨ax,ay⟩⟩ ao _ (H.gt 2)) ?_;rintro _ aN ⟨r3,rfl,rfl,aA⟩;replace H:=H.bk aA;refine kg 3 ?_;replace H:=H.pk [];refine kI 0 ?_ ?_
 ·intro aB hM;refine kg 4 ?_;exact rt
 intro aB hM;refine kg 5 ?_;exact rt

def zer (aa:Int) (ac:List Line) (mark:Int):M Int :=
  M.pure mark
theorem zew {R aa ac ae}(ag ah mark)(ao:Reads R ac)(ap:Sl ac ae ah)(aq:Fld R aa [I ag,ae]){r}(hM:(zer ag ah mark).Ends r)(w)(H:St w w [] R):Ret Tryz.prog 182 #[Pq aa,I mark] w fun v w'=>∃ y0 ai aj,y0=r/\v = .func (.func 228) #[] #[Pq ai,Pq aj]/\St w w' [cBlk ai [Pq aa] 106,cBlk aj [I y0] 3] R:=by
 refine ret_of_W Tryz.func182 rfl rfl rfl ?_;refine kB 2 ?_;intro al au H;refine kbx ?_;intro am av H;refine kg 4 ?_;refine s_val (x_mf (fs:=[]) (cs:=[Pq al,Pq am]) rfl rfl) ?_;exact kR 2 [1,0]

def zhO (back:Bool):M (Unit ⊕ Unit) :=
  bif back then (
  M.pure (.inl ()))
  else (
  M.pure (.inr ()))
theorem zfn {R}(back){r}(hM:(zhO back).Ends r)(w)(H:St w w [] R):Ret Tryz.prog 230 #[B back] w fun v w'=>((.inl ())=r/\v = .agg #[.func (.func 245) #[] #[]]/\St w w' [] R)∨((.inr ())=r/\v = .agg #[.func (.func 246) #[] #[]]/\St w w' [] R):=by
 refine ret_of_W Tryz.func230 rfl rfl rfl ?_;refine kA 2 ?_;intro ah ai H;refine kI 6 ?_ ?_
 ·intro ac hM;refine kS 3 ?_;intro aj H;refine s_nil ?_;refine W.ret ?_;have ae:=(H.bl 0)
  have aa:=M.e_pure hM;exact ⟨_,(resE_of1 (v:=.agg #[.func (.func 245) #[] #[]]) rfl (.cell (v:=.agg #[.func (.func 245) #[] #[]]) rfl (run_loadVar_ag (ds:=[.func (.func 245) #[] #[]]) Ag343.h Sz343.h ae rfl rfl)<|.nil)),.inl (⟨aa,rfl,(H.pk [])⟩)⟩
 intro ac hM;refine kS 4 ?_;intro al H;refine s_nil ?_;refine W.ret ?_;have ag:=(H.bl 0)
 have aa:=M.e_pure hM;exact ⟨_,(resE_of1 (v:=.agg #[.func (.func 246) #[] #[]]) rfl (.cell (v:=.agg #[.func (.func 246) #[] #[]]) rfl (run_loadVar_ag (ds:=[.func (.func 246) #[] #[]]) Ag343.h Sz343.h ag rfl rfl)<|.nil)),.inr (⟨aa,rfl,(H.pk [])⟩)⟩

def zgB (l:Line):M Int :=
  M.pure l.dst
theorem zf2 {R}(l){r}(hM:(zgB l).Ends r)(w)(H:St w w [] R):Ret Tryz.prog 245 #[.agg #[I l.src,I l.dst,I l.day,I l.rise,I l.err]] w fun v w'=>∃ y0,y0=r/\v=I y0/\St w w' [] R:=by
 refine ret_of_W Tryz.func245 rfl rfl rfl ?_;refine kB 2 ?_;intro aa ac H;refine kg 8 ?_;exact rt

def zhh (l:Line):M Int :=
  M.pure l.src
theorem zhy {R}(l){r}(hM:(zhh l).Ends r)(w)(H:St w w [] R):Ret Tryz.prog 246 #[.agg #[I l.src,I l.dst,I l.day,I l.rise,I l.err]] w fun v w'=>∃ y0,y0=r/\v=I y0/\St w w' [] R:=by
 refine ret_of_W Tryz.func246 rfl rfl rfl ?_;refine kB 2 ?_;intro aa ac H;refine kg 8 ?_;exact rt

theorem starts_any {R:List Chunk} (back:Bool) (w:World) (hs:Sep w R):Ret Tryz.prog 230 #[B back] w fun v w'=>v = .agg #[.func (.func (bif back then 245 else 246)) #[] #[]]/\St w w' [] R:=by
 cases back with
 | true =>
  refine (zfn true (r:=.inl ()) M.i_pure w (St.refl hs)).mono ?_;rintro v w' (⟨_,hv,H⟩ | ⟨h,_,_⟩)
  ·exact ⟨hv,H⟩
  cases h
 | false =>
  refine (zfn false (r:=.inr ()) M.i_pure w (St.refl hs)).mono ?_;rintro v w' (⟨h,_,_⟩ | ⟨_,hv,H⟩)
  ·cases h
  exact ⟨hv,H⟩
theorem cfsel (b:Bool):CF Tryz.prog (bif b then 245 else 246):=by cases b; exact cq; exact cq
theorem ends_any {R:List Chunk} (b:Bool) (l:Line) (w:World) (hs:Sep w R):Ret Tryz.prog (bif b then 245 else 246) #[.agg #[I l.src,I l.dst,I l.day,I l.rise,I l.err]] w fun v w'=>v=I (legEnd b l)/\St w w' [] R:=by
 cases b with
 | true=>exact (zf2 l M.i_pure w (St.refl hs)).mono fun v w' ⟨y,hy,hv,H⟩=>⟨by rw [hv,hy]; rfl,H⟩
 | false=>exact (zhy l M.i_pure w (St.refl hs)).mono fun v w' ⟨y,hy,hv,H⟩=>⟨by rw [hv,hy]; rfl,H⟩

def zbH (ac:Int) (aa:List Line) (g:Leg):M Int :=
  M.grd (decide ((0:Int)<=g.line)&&decide (g.line<(aa.length:Int))) <|
  M.pure (legEnd g.back (aa.getD (Int.toNat g.line) default))
theorem zhM {R ai aj ae}(ag aa g)(ap:Reads R aj)(aq:Sl aj ae aa)(al:Fld R ai [I ag,ae]){r}(hM:(zbH ag aa g).Ends r)(w)(H:St w w [] R):Ret Tryz.prog 229 #[Pq ai,.agg #[I g.line,B g.back]] w fun v w'=>∃ y0,y0=r/\v=I y0/\St w w' [] R:=by
 refine ret_of_W Tryz.func229 rfl rfl rfl ?_;refine kB 2 ?_;intro ah au H;refine kg 3 ?_;refine W.draw (fun W=>St w W [cBlk ah [I g.line,B g.back] 113] R) [(0,true),(1,true),(4,true),(5,true),(6,true),(7,true),(8,true),(9,true),(10,true),(11,true),(12,true),(2,false),(3,true),(13,false),(14,true)] mixed (by decide +kernel) rfl ?_;intro av ac;replace H:=H.ext ac;refine ⟨(H.pk [0]),?_⟩;refine kg 6 ?_;refine d_q rfl (fun w' H=>x_ld (v:=ae) rfl (fld_sc (pre:=[I ag,ae]) (i:=1) Sc23.h (al.at H) rfl)) ?_;obtain ⟨aw,hM⟩:=M.e_gq hM;refine kG 5 ?_;refine s_call cq [B g.back] rfl (starts_any g.back _ H.sep) ?_;rintro _ am ⟨rfl,ac⟩;replace H:St w am [cBlk ah [I g.line,B g.back] 113] R:=H.via ac;refine kN ?_;refine d_q rfl (fun w' H=>x_fd (cs:=[.func (.func (bif g.back then 245 else 246)) #[] #[]]) (v:=.func (.func (bif g.back then 245 else 246)) #[] #[]) Fd343_0.h Sc341.h rfl rfl)<|d_l rfl ?_;refine s_callv rfl (cfsel g.back) [.agg #[I ((aa.getD (Int.toNat g.line) default).src),I ((aa.getD (Int.toNat g.line) default).dst),I ((aa.getD (Int.toNat g.line) default).day),I ((aa.getD (Int.toNat g.line) default).rise),I ((aa.getD (Int.toNat g.line) default).err)]] rfl (ends_any g.back (aa.getD (Int.toNat g.line) default) _ H.sep) ?_
 rintro _ ao ⟨rfl,ac⟩;replace H:St w ao [cBlk ah [I g.line,B g.back] 113] R:=H.via ac;refine kN ?_;refine kg 2 ?_;exact rt

def zbg {T_:Type} (ac:T_->Leg->M (Bool × T_)) (ae:Int) (ag:List Line) (aa:Int) (s2:Nat):(Nat × T_)->M ((Nat × T_) ⊕ (T_ ⊕ T_)):=fun (s,t2) =>
  bif decide ((s:Int)<(([(⟨(s2:Int),false⟩:Leg),(⟨(s2:Int),true⟩:Leg)]).length:Int)) then (
  M.grd (decide ((s:Int)<(([(⟨(s2:Int),false⟩:Leg),(⟨(s2:Int),true⟩:Leg)]).length:Int))) <|
  M.bind (zbH ae ag (([(⟨(s2:Int),false⟩:Leg),(⟨(s2:Int),true⟩:Leg)]).getD s default)) fun r2 =>
  M.bind (M.opt (r2==aa) (ac t2 (([(⟨(s2:Int),false⟩:Leg),(⟨(s2:Int),true⟩:Leg)]).getD s default)) (false,t2)) fun (go,t) =>
  bif ((r2==aa)&&(!go)) then (
  M.pure (.inr (.inl t)))
  else (
  M.pure (.inl (s+1,t))))
  else (
  M.pure (.inr (.inr t2)))
def za9 {T_:Type} (ac:T_->Leg->M (Bool × T_)) (ae:Int) (aa:List Line) (ag:Int):(Nat × T_)->M ((Nat × T_) ⊕ (T_ ⊕ T_)):=fun (s2,t5) =>
  bif decide ((s2:Int)<(aa.length:Int)) then (
  M.bind (M.iter (zbg ac ae aa ag s2) (0,t5)) fun x_=>match x_ with
  | (.inl t3)=>(
  M.pure (.inr (.inl t3)))
  | (.inr t4)=>(
  M.pure (.inl (s2+1,t4))))
  else (
  M.pure (.inr (.inr t5)))
def zap {T_:Type} (aa:T_->Leg->M (Bool × T_)) (t_:T_) (ac:Int) (ae:List Line) (ag:Int):M T_ :=
  M.bind (M.iter (za9 aa ac ae ag) (0,t_)) fun x_=>match x_ with
  | (.inl t6)=>(
  M.pure t6)
  | (.inr t7)=>(
  M.pure t7)
theorem zeB {R:List Chunk} {T_:Type} {Y_:T_->List Chunk->Prop} {ag:Value} {ac:List Chunk} {ai:Nat} {ao:Nat} {ay:Cells} {aj:Value} {al:Nat} (am:T_->Leg->M (Bool × T_)) (t_:T_) (ae:Int) (aa:List Line) (ah:Int) (aH:YieldC Tryz.prog R arLeg Y_ ag am) (aA:Y_ t_ ac) (aI:Reads R ay) (aB:Sl ay aj aa) (aC:∀ (t_:T_) (ac:List Chunk),Y_ t_ ac->Fld (cAll ac :: R) ao [I ae,aj]) (aZ:Has R (cBlk ai [Pq ao] 106)) (a7:Has R (cBlk al [I ah] 3)) {r:T_} (hM:(zap am t_ ae aa ah).Ends r) (w:World) (H:St w w [cAll ac] R):Ret Tryz.prog 228 #[ag,Pq ai,Pq al] w fun v w'=>∃ (y0:T_) (Ls0:List Chunk),y0=r/\v = .tuple #[]/\St w w' [cAll Ls0] R/\Y_ y0 Ls0:=by
 refine ret_of_W Tryz.func228 rfl rfl rfl ?_;refine kg 6 ?_;refine s_val (x_ld (v:=aj) rfl (fld_sc (pre:=[I ae,aj]) (i:=1) Sc23.h (Fld.get (Fld.up (aC _ _ aA) (k:=0) rfl) H) rfl)) ?_;have a8:=(aB).len_le;refine kg 4 ?_;obtain ⟨aJ,ap,aD⟩:=M.e_bind hM;obtain ⟨aK,ap⟩:=M.e_iter ap;refine W.loop (fun m σ W=>∃ (s2:Nat) (t5:T_) (Ls_t5:List Chunk) (ρ:Env),σ=upds ρ [(0,ag),(1,Pq ai),(2,Pq al),(12,I (aa.length:Int)),(13,I (s2:Int))]/\M.iterN (za9 am ae aa ah) m (s2,t5)=some aJ/\St w W [cAll Ls_t5] R/\Y_ t5 Ls_t5) ?_ ?_
 ·exact ⟨_,0,t_,ac,_,jQ,ap,H,aA⟩
 rintro ba σ bc ⟨s2,t5,Ls_t5,ρ,rfl,aL,H,hY_t5⟩;obtain ⟨aM,aN,bg,hM,aq⟩:=M.e_iterN aL;refine kI 5 ?_ ?_
 ·intro aO hM;refine kL 14 (α:=Leg) [⟨s2,false⟩,⟨s2,true⟩] ?_;intro au bi H;have bj:=((H.os 0)).len_le;refine kg 4 ?_;obtain ⟨aP,av,aE⟩:=M.e_bind hM;obtain ⟨aK,av⟩:=M.e_iter av;refine W.loop (fun m σ W=>∃ (s:Nat) (t2:T_) (Ls_t2:List Chunk) (ρ:Env),σ=upds ρ [(0,ag),(1,Pq ai),(2,Pq al),(12,I (aa.length:Int)),(13,I (s2:Int)),(20,au),(21,I (([(⟨(s2:Int),false⟩:Leg),(⟨(s2:Int),true⟩:Leg)]).length:Int)),(22,I (s:Int))]/\M.iterN (zbg am ae aa ah s2) m (s,t2)=some aP/\St w W [cOwn (α:=Leg) 113 au ([(⟨(s2:Int),false⟩:Leg),(⟨(s2:Int),true⟩:Leg)]),cAll Ls_t2] R/\Y_ t2 Ls_t2) ?_ ?_
  ·exact ⟨_,0,t5,Ls_t5,_,jQ,av,H,hY_t5⟩
  rintro bm σ bn ⟨s,t2,Ls_t2,ρ,rfl,aQ,H,hY_t2⟩;obtain ⟨aR,aS,bp,hM,aw⟩:=M.e_iterN aQ;refine kI 5 ?_ ?_
  ·intro aT hM;obtain ⟨br,hM⟩:=M.e_gq hM;refine kA 7 ?_;intro aU bt H;refine ksw ?_;intro bu H;refine kDo 2 [0,1] [(0,true),(1,true),(3,true),(2,false),(4,true),(5,true),(6,true),(7,true),(8,false),(9,true),(10,true)] ?_;intro bv H;refine kg 3 ?_;refine d_l rfl ?_;obtain ⟨bw,aV,hM⟩:=M.e_bind hM;refine s_call cq [Pq ao,.agg #[I ((([(⟨(s2:Int),false⟩:Leg),(⟨(s2:Int),true⟩:Leg)]).getD s default).line),B ((([(⟨(s2:Int),false⟩:Leg),(⟨(s2:Int),true⟩:Leg)]).getD s default).back)]] rfl (zhM ae aa (([(⟨(s2:Int),false⟩:Leg),(⟨(s2:Int),true⟩:Leg)]).getD s default) (aI.app _) aB (Fld.up (aC _ _ hY_t2) (k:=2) rfl) aV _ (H.gt 3)) ?_;rintro _ bx ⟨r2,rfl,rfl,aW⟩;replace H:=H.bk aW;refine kN ?_;refine kG 5 ?_;obtain ⟨⟨go,t⟩,aX,hM⟩:=M.e_bind hM;refine t_gyield (L:=[cBlk aU [I ((([(⟨(s2:Int),false⟩:Leg),(⟨(s2:Int),true⟩:Leg)]).getD s default).line),B ((([(⟨(s2:Int),false⟩:Leg),(⟨(s2:Int),true⟩:Leg)]).getD s default).back)] 113,cOwn (α:=Leg) 113 au ([(⟨(s2:Int),false⟩:Leg),(⟨(s2:Int),true⟩:Leg)])]) (r2==ah) (gy_t rfl) (H.pk [2,0,1]) aH hY_t2 (fun hg=>(gd_of hg (ag))) [.agg #[I ((([(⟨(s2:Int),false⟩:Leg),(⟨(s2:Int),true⟩:Leg)]).getD s default).line),B ((([(⟨(s2:Int),false⟩:Leg),(⟨(s2:Int),true⟩:Leg)]).getD s default).back)]] (fun hg=>lst1 (gd_of hg (.agg #[I ((([(⟨(s2:Int),false⟩:Leg),(⟨(s2:Int),true⟩:Leg)]).getD s default).line),B ((([(⟨(s2:Int),false⟩:Leg),(⟨(s2:Int),true⟩:Leg)]).getD s default).back)]))) (([(⟨(s2:Int),false⟩:Leg),(⟨(s2:Int),true⟩:Leg)]).getD s default) Reads.none rfl aX ?_;intro aF bz aG H;replace H:=H.nf;refine kN ?_;refine kI 3 ?_ ?_
   ·intro aY hM;refine W.ret ?_;obtain rfl:=M.e_inr hM aw;replace hM:=aE;obtain rfl:=M.e_inr hM aq;replace hM:=aD;have ax:=M.e_pure hM;exact ⟨_,resE_tmp0 rfl,⟨t,aF,ax,rfl,(H.pk [0]),aG⟩⟩
   intro aY hM;refine kg 5 ?_;exact ⟨aR,aS,s+1,t,aF,_,jQ,M.e_inl hM aw,(H.pk [2,0]),aG⟩
  intro aT hM;refine W.exit ?_;obtain rfl:=M.e_inr hM aw;replace hM:=aE;refine kg 4 ?_;exact ⟨aM,aN,s2+1,t2,Ls_t2,_,jQ,M.e_inl hM aq,(H.pk [1]),hY_t2⟩
 intro aO hM;refine W.exit ?_;obtain rfl:=M.e_inr hM aq;replace hM:=aD;have ax:=M.e_pure hM;exact ⟨_,resE_tmp0 rfl,⟨t5,Ls_t5,ax,rfl,H,hY_t5⟩⟩
theorem zf1 {T_:Type} {n_:Nat} {y y':T_->Leg->M (Bool × T_)} (h:∀ s a,M.LeN n_ (y s a) (y' s a)) (t_:T_) (aa:Int) (ac:List Line) (ae:Int):M.LeN n_ (zap y t_ aa ac ae) (zap y' t_ aa ac ae):=by
  simp only [zap,zbg,za9]
  repeat' (first | refine M.le_grd ?_ | refine M.le_if ?_ ?_ | refine M.le_bind ?_ (fun x=>?_) | refine M.le_opt ?_ | refine M.le_iter (fun x=>?_) _ | exact h _ _ | exact M.le_same _ _ | (rename_i x; cases x) | (rename_i x; obtain ⟨_,_⟩:=x))

def zbc (ac:Int) (aa:List Line) (g:Leg):M Int :=
  M.grd (decide ((0:Int)<=g.line)&&decide (g.line<(aa.length:Int))) <|
  bif g.back then (
  M.gi (((aa.getD (Int.toNat g.line) default).err)-((aa.getD (Int.toNat g.line) default).rise)) <|
  M.pure (((aa.getD (Int.toNat g.line) default).err)-((aa.getD (Int.toNat g.line) default).rise)))
  else (
  M.gi (((aa.getD (Int.toNat g.line) default).err)+((aa.getD (Int.toNat g.line) default).rise)) <|
  M.pure (((aa.getD (Int.toNat g.line) default).err)+((aa.getD (Int.toNat g.line) default).rise)))
theorem zd6 {R ae ag aa}(ac ah g)(al:Reads R ag)(am:Sl ag aa ah)(ai:Fld R ae [I ac,aa]){r}(hM:(zbc ac ah g).Ends r)(w)(H:St w w [] R):Ret Tryz.prog 183 #[Pq ae,.agg #[I g.line,B g.back]] w fun v w'=>∃ y0,y0=r/\v=I y0/\St w w' [] R:=by
 refine ret_of_W Tryz.func183 rfl rfl rfl ?_;refine kB 2 ?_;intro ao ap H;refine kD 3 [0] [9,10] ?_;intro aq H;refine kg 4 ?_;refine d_q rfl (fun w' H=>x_ld (v:=aa) rfl (fld_sc (pre:=[I ac,aa]) (i:=1) Sc23.h (ai.at H) rfl)) ?_;obtain ⟨au,hM⟩:=M.e_gq hM;refine kA 5 ?_;intro av aw H;refine kN ?_;refine kS 1 ?_;intro ax H;refine kN ?_;refine kI 7 ?_ ?_
 ·intro aj hM;obtain ⟨ay,hM⟩:=M.e_gq hM;refine kg 9 ?_;replace H:=H.pk [];exact rt
 intro aj hM;obtain ⟨aA,hM⟩:=M.e_gq hM;refine kg 10 ?_;replace H:=H.pk [];exact rt

def zbj (l:List Int):(Int × Nat)->M ((Int × Nat) ⊕ Int):=fun (out,s) =>
  bif decide ((s:Int)<(l.length:Int)) then (
  M.grd (decide ((s:Int)<(l.length:Int))) <|
  M.gi (out+(l.getD s 0)) <|
  M.pure (.inl (out+(l.getD s 0),s+1)))
  else (
  M.pure (.inr out))
def zb6 (l:List Int):M Int :=
  M.bind (M.iter (zbj l) (0,0)) fun out2 =>
  M.pure out2
theorem zeF {R ac aa}(l)(ao:Reads R ac)(ag:Sl ac aa l){r}(hM:(zb6 l).Ends r)(w)(H:St w w [] R):Ret Tryz.prog 244 #[aa] w fun v w'=>∃ y0,y0=r/\v=I y0/\St w w' [] R:=by
 refine ret_of_W Tryz.func244 rfl rfl rfl ?_;have ap:=(ag).len_le;refine kg 16 ?_;obtain ⟨ah,ae,ai⟩:=M.e_bind hM;obtain ⟨aq,ae⟩:=M.e_iter ae;refine W.loop (fun m σ W=>∃ (out:Int) (s:Nat) (ρ:Env),σ=upds ρ [(3,I out),(6,aa),(7,I (l.length:Int)),(8,I (s:Int))]/\M.iterN (zbj l) m (out,s)=some ah/\St w W [] R) ?_ ?_
 ·exact kY
 rintro au σ av ⟨out,s,ρ,rfl,aj,H⟩;obtain ⟨aw,ax,ay,hM,al⟩:=M.e_iterN aj;refine kI 5 ?_ ?_
 ·intro am hM;obtain ⟨aA,hM⟩:=M.e_gq hM;obtain ⟨aB,hM⟩:=M.e_gq hM;exact kX 19
 intro am hM;refine W.exit ?_;obtain rfl:=M.e_inr hM al;replace hM:=ai;refine kg 5 ?_;exact rt

def zaC (ac:Int) (aa:List Line) (g:Leg):M Int :=
  M.grd (decide ((0:Int)<=g.line)&&decide (g.line<(aa.length:Int))) <|
  M.pure (legEnd (!g.back) (aa.getD (Int.toNat g.line) default))
theorem zaA {R ai aj ae}(ag aa g)(ap:Reads R aj)(aq:Sl aj ae aa)(al:Fld R ai [I ag,ae]){r}(hM:(zaC ag aa g).Ends r)(w)(H:St w w [] R):Ret Tryz.prog 184 #[Pq ai,.agg #[I g.line,B g.back]] w fun v w'=>∃ y0,y0=r/\v=I y0/\St w w' [] R:=by
 refine ret_of_W Tryz.func184 rfl rfl rfl ?_;refine kB 2 ?_;intro ah au H;refine kg 3 ?_;refine W.draw (fun W=>St w W [cBlk ah [I g.line,B g.back] 113] R) [(0,true),(1,true),(2,true),(5,true),(6,true),(7,true),(8,true),(9,true),(10,true),(11,true),(12,true),(13,true),(3,false),(4,true),(14,false),(15,true)] mixed (by decide +kernel) rfl ?_;intro av ac;replace H:=H.ext ac;refine ⟨(H.pk [0]),?_⟩;refine kg 7 ?_;refine d_q rfl (fun w' H=>x_ld (v:=ae) rfl (fld_sc (pre:=[I ag,ae]) (i:=1) Sc23.h (al.at H) rfl)) ?_;obtain ⟨aw,hM⟩:=M.e_gq hM;refine kG 5 ?_;refine s_call cq [B (!g.back)] rfl (starts_any (!g.back) _ H.sep) ?_;rintro _ am ⟨rfl,ac⟩;replace H:St w am [cBlk ah [I g.line,B g.back] 113] R:=H.via ac;refine kN ?_;refine d_q rfl (fun w' H=>x_fd (cs:=[.func (.func (bif (!g.back) then 245 else 246)) #[] #[]]) (v:=.func (.func (bif (!g.back) then 245 else 246)) #[] #[]) Fd343_0.h Sc341.h rfl rfl)<|d_l rfl ?_;refine s_callv rfl (cfsel (!g.back)) [.agg #[I ((aa.getD (Int.toNat g.line) default).src),I ((aa.getD (Int.toNat g.line) default).dst),I ((aa.getD (Int.toNat g.line) default).day),I ((aa.getD (Int.toNat g.line) default).rise),I ((aa.getD (Int.toNat g.line) default).err)]] rfl (ends_any (!g.back) (aa.getD (Int.toNat g.line) default) _ H.sep) ?_
 rintro _ ao ⟨rfl,ac⟩;replace H:St w ao [cBlk ah [I g.line,B g.back] 113] R:=H.via ac;refine kN ?_;refine kg 2 ?_;exact rt

end Go.Proofs.YtaolcidinlnklaaGreat
end
