/- Part 2 of the texts on which the proof rests. Conditions: none. -/
import Derived.Test.YtbldmjejckjflabGreatProg
import Derived.WideKeyRuns
import Derived.Test.YtbldmjejckjflabGreatZA1
set_option linter.unusedVariables false
set_option linter.unusedSimpArgs false
set_option linter.unusedSectionVars false
namespace Go.Nm
open Go
section
variable {P:Program} {w:World}
/-- What lies behind a part of a row is made zero. -/
theorem clear_behind {t ty e sz by':Nat} {z:Value} (T:SlT P t e sz by' z) (h1:∀ u∈z.cells.toList,u.oneCell'=true) {g m n c cap:Nat} {cur:Array Value} (hg:w.heap[g]?=some (.cells cur e (0,0))) (hmn:m+n<=cap) (hcs:cur.size=cap*sz) (a:Option Addr)
    (ha:0<n->a=some ⟨g,m*sz,none⟩) :
    ∃ cs:Array Value,(Builtin.clear_ #[t] ty #[.slice a n c]).run P w = .ok (.tuple #[]) (w.setRow g cs)/\cs.size=cur.size/\cs.toList.take (m*sz)=cur.toList.take (m*sz):=by
  obtain ⟨i,hi,hz,hsz,hby⟩:=T.parts
  cases n with
  | zero =>
    refine ⟨cur,?_,rfl,rfl⟩
    rw [setRow_self w g cur e (0,0) hg]
    cases a <;> simp [Builtin.clear_,run_underlying T.und]
  | succ n =>
    obtain rfl:=ha (by omega)
    have hzv:∀ w,(zeroValue e).run P w = .ok z w:=fun w=>by simp [zeroValue,typeInfo,hi,hz]
    have hl:(Builtin.zeroCells z.cells (n+1)).toList.length=(n+1)*sz:=by rw [Array.length_toList,size_zeroCells,T.zs]
    have hle:(m+(n+1))*sz<=cap*sz:=Nat.mul_le_mul_right _ hmn
    rw [Nat.add_mul] at hle
    have hst:=run_storeCells_at P g (m*sz) e (Builtin.zeroCells z.cells (n+1)).toList 0 cur w hg (by rw [hl,hcs]; simp only [Nat.add_zero]; exact hle) (by
      intro v hv
      have hp:=T.pos
      rw [← T.zs] at hp
      simp only [Builtin.zeroCells,Array.toList_map,List.mem_map] at hv
      obtain ⟨k,_,rfl⟩:=hv
      have hk:=Nat.mod_lt k hp
      rw [getElem!_pos z.cells _ hk]
      exact h1 _ (by simp))
    simp only [Nat.add_zero] at hst
    have q3:((cur.toList.take (m*sz)++(Builtin.zeroCells z.cells (n+1)).toList++cur.toList.drop (m*sz+(Builtin.zeroCells z.cells (n+1)).toList.length)).toArray).toList.take (m*sz)=cur.toList.take (m*sz):=by
      show (cur.toList.take (m*sz)++_++_).take (m*sz)=_
      rw [List.append_assoc]
      exact List.take_left' (by rw [List.length_take,Array.length_toList]; omega)
    have q2:((cur.toList.take (m*sz)++(Builtin.zeroCells z.cells (n+1)).toList++cur.toList.drop (m*sz+(Builtin.zeroCells z.cells (n+1)).toList.length)).toArray).size=cur.size:=by
      simp only [List.size_toArray,List.length_append,List.length_take,List.length_drop,Array.length_toList] at hl ⊢
      omega
    refine ⟨_,?_,q2,q3⟩
    generalize w.setRow g (cur.toList.take (m*sz)++(Builtin.zeroCells z.cells (n+1)).toList++cur.toList.drop (m*sz+(Builtin.zeroCells z.cells (n+1)).toList.length)).toArray=W2 at hst ⊢
    simp [Builtin.clear_,run_underlying T.und,hzv]
    rw [hst]
    rfl
theorem slice_hi {t e:TypeId} {sz:Nat} (hu:P.underlying t=some (.slice e)) (hs:(P.info? e).map (·.size)=some sz) {g n c i:Nat} (h2:i<=n) (h3:n<=c):(Instr.sliceAt t (.slice (some ⟨g,0,none⟩) n c) none (some (I i)) none).run P w = .ok (.slice (some ⟨g,0,none⟩) i c) w:=by
  have e1:i<=c:=Nat.le_trans h2 h3
  simp [Instr.sliceAt,Instr.slice,Instr.sliceBounds,Instr.sliceBound,asIntOf,run_underlying hu,run_sizeOf hs,Addr.add]
  intro h
  omega

variable {all rest:List Oper} {Q:Post} {σ:Env} {w0:World} {L R:List Chunk} {ty:TypeId} {pos:String} {af:Array Edge}
/-- What is behind a place is made zero: the row is cut there. -/
theorem t_clrT {α:Type} [Flat α] {dst:Option Nat} {t e by' k:Nat} {z u v:Value} {l:List α} {x:Operand} (T:SlT P t e (Elt.sz α) by' z) (hz:∀ u∈z.cells.toList,u.oneCell'=true) (H:St w0 w L R) (hk:L[k]?=some (cOwn (α:=α) e v l)) {i:Int} (h0:0<=i) (h1:i<=l.length)
    (hr:∀ w,(Instr.sliceAt t v (some (.int .i64 i)) none none).run P w = .ok u w) (hx:ev σ x=u)
    (kk:∀ vc w',(∀ w,(Instr.sliceAt t v none (some (.int .i64 i)) none).run P w = .ok vc w)->vc.cells = #[vc]->vc.oneCell'=true->St w0 w' (L.set k (cOwn (α:=α) e vc (l.take i.toNat))) R->SL P all Q rest (updo σ dst (.tuple #[])) w'):SL P all Q (⟨dst,.call ⟨.builtin .clear,#[x],#[t]⟩,ty,pos,af,none⟩ :: rest) σ w:=by
  obtain ⟨i,rfl⟩:=Int.eq_ofNat_of_zero_le h0
  have h1:i<=l.length:=by omega
  rw [Int.toNat_natCast] at kk
  have ho:OwnF 0 e w v l:=H.get hk
  rcases ho.2 with ⟨hv,hn⟩ | ⟨g,cap,cur,hv,hb,hg,hc,hm,hcs,htake⟩
  · obtain rfl:l=[]:=List.eq_nil_of_length_eq_zero hn
    obtain rfl:i=0:=by simpa using h1
    subst hv
    have hu:u = .slice none 0 0:=by
      have:=hr w
      simp [Instr.sliceAt,Instr.slice,Instr.sliceBounds,Instr.sliceBound,asIntOf,run_underlying T.und,run_sizeOf T.size] at this
      exact this.symm
    subst hu
    refine s_any (v:=.tuple #[]) (w':=w) ?_ (kk (.slice none 0 0) w (fun w=>?_) rfl rfl ?_)
    · simp [execOp,resolve,invoke,builtin,hx,Builtin.clear_,run_underlying T.und]
    · simp [Instr.sliceAt,Instr.slice,Instr.sliceBounds,Instr.sliceBound,asIntOf,run_underlying T.und,run_sizeOf T.size]
    · exact H.own (B:=0) hk ho ⟨rfl,rfl,Nat.le_refl _,fun _ _ _=>rfl,fun g _=>Nat.zero_le _,fun _=>rfl⟩ (fun _ _ h=>h) rfl
  · subst hv
    have hu:u = .slice (if cap=i then some ⟨g,0,none⟩ else some ⟨g,i*Elt.sz α,none⟩) (l.length-i) (cap-i):=by
      have h2:=hr w
      have h3:(Instr.sliceAt t (.slice (some ⟨g,0,none⟩) l.length cap) (some (.int .i64 (i:Int))) none none).run P w = .ok (.slice (if cap=i then some ⟨g,0,none⟩ else some ⟨g,i*Elt.sz α,none⟩) (l.length-i) (cap-i)) w:=by
        simp [Instr.sliceAt,Instr.slice,Instr.sliceBounds,Instr.sliceBound,asIntOf,run_underlying T.und,run_sizeOf T.size]
        rw [if_pos (by omega)]
        simp only [Addr.add]
        by_cases h:i*Elt.sz α=0
        · simp [h]
        · simp [h]
      rw [h3] at h2
      cases h2
      rfl
    subst hu
    have ht1:cur.toList.take (i*Elt.sz α)=(l.take i).flatMap Flat.enc:=by
      have hl1:(l.take i).length=i:=by rw [List.length_take]; omega
      have e1:((l.take i).flatMap Flat.enc:List Value).length=i*Elt.sz α:=by rw [flat_len,hl1]
      have e2:(l.flatMap Flat.enc:List Value)=(l.take i).flatMap Flat.enc++(l.drop i).flatMap Flat.enc:=by rw [← List.flatMap_append,List.take_append_drop]
      rw [← e1]
      have e3:cur.toList.take ((l.take i).flatMap Flat.enc:List Value).length=(cur.toList.take (l.length*Elt.sz α)).take ((l.take i).flatMap Flat.enc:List Value).length:=by
        rw [List.take_take,e1,Nat.min_eq_left (Nat.mul_le_mul_right _ (by omega))]
      rw [e3,htake,e2,List.take_left]
    have hcl:∀ ty,∃ cs:Array Value,(Builtin.clear_ #[t] ty #[.slice (if cap=i then some ⟨g,0,none⟩ else some ⟨g,i*Elt.sz α,none⟩) (l.length-i) (cap-i)]).run P w = .ok (.tuple #[]) (w.setRow g cs)/\cs.size=cur.size/\cs.toList.take (i*Elt.sz α)=cur.toList.take (i*Elt.sz α):=fun ty =>
      clear_behind (cap:=cap) T hz hg (by omega) hcs _ (fun h=>by rw [if_neg (by omega)])
    obtain ⟨cs,r1,r2,r3⟩:=hcl ty
    refine s_any (v:=.tuple #[]) (w':=w.setRow g cs) ?_ (kk (.slice (some ⟨g,0,none⟩) i cap) _ (fun w=>slice_hi T.und T.size h1 hc) rfl rfl ?_)
    · simp [execOp,resolve,invoke,builtin,hx,r1]
    · refine H.own (B:=0) (v':=.slice (some ⟨g,0,none⟩) i cap) (l':=l.take i) hk ?_ ⟨rfl,rfl,by simp,fun b _ hne=>setRow_other w g b _ (fun e=>hne (by rw [e]; rfl)),fun g' hg'=>(ho.lt g' hg').1,frozen_setRow w g _⟩ (fun _ _ h=>h) rfl
      refine ⟨by rw [flat_len],.inr ⟨g,cap,cs,by rw [List.length_take,Nat.min_eq_left h1],hb,setRow_heap _ _ _ _ _ _ hg,by rw [List.length_take]; omega,hm,by rw [r2]; exact hcs,?_⟩⟩
      rw [List.length_take,Nat.min_eq_left h1,r3,ht1]
end
end Go.Nm
namespace Go.Nm
open Go
universe u
abbrev Pq (b:Nat):Value:=.pointer (some ⟨b,0,none⟩)
abbrev Oq (b o:Nat):Value:=.pointer (some ⟨b,o,none⟩)
class NthR {α:Type u} (l:List α) (i:Nat) (x:outParam α):Prop where
  is:l[i]?=some x
instance {α:Type u} {l:List α} {x:α}:NthR (x :: l) 0 x:=⟨rfl⟩
instance {α:Type u} {l:List α} {x y:α} {i:Nat} [h:NthR l i x]:NthR (y :: l) (i+1) x:=⟨h.is⟩
instance (priority:=high) {α:Type u} {l:List α} {x a b c d:α} {i:Nat} [h:NthR l i x]:NthR (a :: b :: c :: d :: l) (i+4) x:=⟨h.is⟩
class PickR {α:Type u} (l:List α) (i:List Nat) (o:outParam (List α)):Prop where
  is:i.mapM (fun j=>l[j]?)=some o
instance {α:Type u} {l:List α}:PickR l [] []:=⟨rfl⟩
instance {α:Type u} {l o:List α} {i:Nat} {is:List Nat} {x:α} [h:NthR l i x] [k:PickR l is o]:PickR l (i :: is) (x :: o):=⟨by rw [List.mapM_cons,h.is,k.is]; rfl⟩
class AppR {α:Type u} (a b:List α) (o:outParam (List α)):Prop where
  is:a++b=o
instance {α:Type u} {b:List α}:AppR [] b b:=⟨rfl⟩
instance {α:Type u} {x:α} {a b o:List α} [h:AppR a b o]:AppR (x :: a) b (x :: o):=⟨by rw [List.cons_append,h.is]⟩
class LenR {α:Type u} (l:List α) (n:Nat):Prop where
  is:l.length=n
instance {α:Type u}:LenR ([]:List α) 0:=⟨rfl⟩
instance {α:Type u} {l:List α} {x:α} {n:Nat} [h:LenR l n]:LenR (x :: l) (n+1):=⟨by rw [List.length_cons,h.is]⟩
class EndR {α:Type u} (n:Nat) (l:List α) (a b:outParam (List α)):Prop where
  is:a++b=l
instance (priority:=low) {α:Type u} {x:α} {n:Nat} {l a b:List α} [h:EndR n l a b]:EndR n (x :: l) (x :: a) b:=⟨by rw [List.cons_append,h.is]⟩
instance {α:Type u} {n:Nat} {l:List α} [LenR l n]:EndR n l [] l:=⟨rfl⟩
class SetR {α:Type u} (l:List α) (k:Nat) (x:α) (o:outParam (List α)):Prop where
  is:l.set k x=o
instance {α:Type u} {l:List α} {x y:α}:SetR (y :: l) 0 x (x :: l):=⟨rfl⟩
instance {α:Type u} {l o:List α} {x y:α} {k:Nat} [h:SetR l k x o]:SetR (y :: l) (k+1) x (y :: o):=⟨by rw [List.set_cons_succ,h.is]⟩
class NfR {α:Type u} (l:List α) (o:outParam (List α)):Prop where
  is:l=o
instance {α:Type u}:NfR ([]:List α) []:=⟨rfl⟩
instance {α:Type u} {x:α} {l o:List α} [h:NfR l o]:NfR (x :: l) (x :: o):=⟨by rw [← h.is]⟩
instance {α:Type u} {l o p:List α} {k:Nat} {x:α} [h:NfR l o] [s:SetR o k x p]:NfR (l.set k x) p:=⟨by rw [h.is,s.is]⟩
instance {α:Type u} {a b a' b' o:List α} [h:NfR a a'] [h':NfR b b'] [s:AppR a' b' o]:NfR (a++b) o:=⟨by rw [h.is,h'.is,s.is]⟩
instance {α:Type u} {x:α} {l o:List α} [h:NfR l o]:NfR ((x :: l).eraseIdx 0) o:=⟨by rw [← h.is]; rfl⟩
instance {α:Type u} {x:α} {l o:List α} {k:Nat} [h:NfR (l.eraseIdx k) o]:NfR ((x :: l).eraseIdx (k+1)) (x :: o):=⟨by rw [List.eraseIdx_cons_succ,h.is]⟩
class OverR {α:Type u} (cs:List α) (off:Nat) (vs:List α) (o:outParam (List α)):Prop where
  is:cs.take off++vs++cs.drop (off+vs.length)=o
instance {α:Type u} {cs:List α}:OverR cs 0 [] cs:=⟨by simp⟩
instance {α:Type u} {c v:α} {cs vs o:List α} [h:OverR cs 0 vs o]:OverR (c :: cs) 0 (v :: vs) (v :: o):=⟨by
  have:=h.is
  simp only [List.take_zero,List.nil_append,Nat.zero_add] at this ⊢
  simp [this]⟩
instance {α:Type u} {c:α} {cs vs o:List α} {n:Nat} [h:OverR cs n vs o]:OverR (c :: cs) (n+1) vs (c :: o):=⟨by
  have:=h.is
  rw [List.take_succ_cons,show n+1+vs.length=n+vs.length+1 by omega,List.drop_succ_cons,List.cons_append,List.cons_append,this]⟩
section
variable {w0 w w':World} {L L' L1 R A T:List Chunk}
theorem St.os {α:Type} [Flat α] {e:TypeId} {v:Value} {l:List α} (h:St w0 w L R) (k:Nat) [n:NthR L k (cOwn e v l)]:Sl (rowC v (l.flatMap Flat.enc)) v l:=ownSl (h.get n.is)
theorem St.ol {α:Type} [Flat α] {e:TypeId} {v:Value} {l:List α} (h:St w0 w L R) (k:Nat) [n:NthR L k (cOwn e v l)]:(rowC v (l.flatMap Flat.enc)).Le w.cell?:=ownLe w (h.get n.is)
theorem rdo {α:Type} [Flat α] {e:TypeId} {v:Value} {l:List α} (k:Nat) [n:NthR L k (cOwn e v l)]:Reads (L++R) (rowC v (l.flatMap Flat.enc)):=Reads.of n.is ownLe
theorem St.bl {b:Nat} {cs:List Value} {t:TypeId} (h:St w0 w L R) (k:Nat) [n:NthR L k (cBlk b cs t)]:w.heap[b]?=some (.cells cs.toArray t (0,0)):=h.blk n.is
theorem St.nf (h:St w0 w L R) [n:NfR L L']:St w0 w L' R:=by
  have:=n.is
  subst this
  exact h
theorem St.pk (h:St w0 w L R) (i:List Nat) [n:NfR L L1] [p:PickR L1 i L'] (hn:i.Nodup:=by decide):St w0 w L' R:=h.nf.pick i hn p.is
theorem St.bk (h:St w0 w L R) (h':St w w' A (T++R)) [a:NfR (A++T) L']:St w0 w' L' R:=h.back h' a.is
theorem St.gt (h:St w0 w L R) (k:Nat) [n:NfR L L1] [s:EndR k L1 A T]:St w w A (T++R):=h.nf.give s.is
end
section
variable {P:Program} {all rest:List Oper} {Q:Post} {σ:Env} {w0 w:World} {L L' R:List Chunk} {ty:TypeId} {pos:String} {af:Array Edge}
theorem zM {d:Nat} {x:Operand} (v:Value) (h:ev σ x=v) (k:SL P all Q rest (upd σ d v) w):SL P all Q (⟨some d,.move x,ty,pos,af,none⟩ :: rest) σ w:=s_val (x_mv h) k
theorem zA {d:Nat} {x:Operand} (v:Value) (h:ev σ x=v) (k:SL P all Q rest (upd σ d v) w):SL P all Q (⟨some d,.assign x,ty,pos,af,none⟩ :: rest) σ w:=s_val (x_as h) k
theorem t_sw {dst:Option Nat} {t:TypeId} {x y:Operand} {b n:Nat} {cs cs':List Value} {et:TypeId} (k off:Nat) (vs:List Value) (v:Value) (H:St w0 w L R) [hk:NthR L k (cBlk b cs et)] [hc:OverR cs off vs cs'] [hL:SetR L k (cBlk b cs' et) L'] (hx:ev σ x = .pointer (some ⟨b,off,none⟩)) (hy:ev σ y=v)
    (hs:(P.info? t).map (·.size)=some n) (hv:v.cells=vs.toArray) (hn:vs.length=n) (hl:Nat.ble (off+n) cs.length=true) (h1:vs.all (·.oneCell')=true)
    (kk:∀ w',St w0 w' L' R->SL P all Q rest (updo σ dst undef) w'):SL P all Q (⟨dst,.store t x y,ty,pos,af,none⟩ :: rest) σ w :=
  t_st H hk.is hx hy hs hv hn hl h1 (by rw [← hn]; exact hc.is) hL.is kk
end
/-- What a test says, as a proposition. -/
class DcB (b c:Bool) (p:outParam Prop):Prop where
  to:b=c->p
instance (priority:=low) {b c:Bool}:DcB b c (b=c):=⟨fun h=>h⟩
instance {p:Prop} [Decidable p]:DcB (decide p) true p:=⟨of_decide_eq_true⟩
instance {p:Prop} [Decidable p]:DcB (decide p) false (¬p):=⟨of_decide_eq_false⟩
instance {α:Type _} [BEq α] [LawfulBEq α] {a b:α}:DcB (a==b) true (a=b):=⟨beq_iff_eq.1⟩
instance {α:Type _} [BEq α] [LawfulBEq α] {a b:α}:DcB (a==b) false (a ≠ b):=⟨beq_eq_false_iff_ne.1⟩
instance {α:Type _} [BEq α] [LawfulBEq α] {a b:α}:DcB (a != b) true (a ≠ b):=⟨bne_iff_ne.1⟩
instance {α:Type _} [BEq α] [LawfulBEq α] {a b:α}:DcB (a != b) false (a=b):=⟨bne_eq_false_iff_eq.1⟩
theorem dI {b c:Bool} {p:Prop} [h:DcB b c p] (x:b=c):p:=h.to x
section
variable {P:Program} {all rest:List Oper} {Q:Post} {σ:Env} {w0 w:World} {L L' R:List Chunk} {ty:TypeId} {pos:String} {af:Array Edge}
theorem t_bx {d:Nat} {e:TypeId} {x:Operand} (cs:List Value) (H:St w0 w L R) (hx:ev σ x = .agg cs.toArray)
    (k:∀ b w',St w0 w' (cBlk b cs e :: L) R->SL P all Q rest (upd σ d (.pointer (some ⟨b,0,none⟩))) w'):SL P all Q (⟨some d,.box e x,ty,pos,af,none⟩ :: rest) σ w:=t_box H hx rfl k
theorem t_b1 {d:Nat} {e:TypeId} {x:Operand} (v:Value) (H:St w0 w L R) (hx:ev σ x=v) (hv:v.cells=[v].toArray)
    (k:∀ b w',St w0 w' (cBlk b [v] e :: L) R->SL P all Q rest (upd σ d (.pointer (some ⟨b,0,none⟩))) w'):SL P all Q (⟨some d,.box e x,ty,pos,af,none⟩ :: rest) σ w:=t_box H hx hv k
end
end Go.Nm
namespace Go.Nm
open Go
universe u
/-- What a test says, as a proposition. -/
class DcQ (b c:Bool) (p:outParam Prop):Prop where
  to:b=c->p
instance (priority:=low) {b c:Bool}:DcQ b c (b=c):=⟨fun h=>h⟩
instance {p:Prop} [Decidable p]:DcQ (decide p) true p:=⟨of_decide_eq_true⟩
instance {p:Prop} [Decidable p]:DcQ (decide p) false (¬p):=⟨of_decide_eq_false⟩
instance {α:Type _} [BEq α] [LawfulBEq α] {a b:α}:DcQ (a==b) true (a=b):=⟨beq_iff_eq.1⟩
instance {α:Type _} [BEq α] [LawfulBEq α] {a b:α}:DcQ (a==b) false (a ≠ b):=⟨beq_eq_false_iff_ne.1⟩
instance {α:Type _} [BEq α] [LawfulBEq α] {a b:α}:DcQ (a != b) true (a ≠ b):=⟨bne_iff_ne.1⟩
instance {α:Type _} [BEq α] [LawfulBEq α] {a b:α}:DcQ (a != b) false (a=b):=⟨bne_eq_false_iff_eq.1⟩
/-- What a guard says, as a proposition. -/
class DeQ (b:Bool) (p:outParam Prop):Prop where
  iff:b=true↔p
instance (priority:=low) {b:Bool}:DeQ b (b=true):=⟨Iff.rfl⟩
instance {p:Prop} [Decidable p]:DeQ (decide p) p:=⟨decide_eq_true_iff⟩
instance {a b:Bool} {p q:Prop} [ha:DeQ a p] [hb:DeQ b q]:DeQ (a&&b) (p/\q):=⟨by rw [Bool.and_eq_true,ha.iff,hb.iff]⟩
/-! ### Facts on types, found by their numbers -/
class FdC (P:Program) (s k:Nat) (off ft:outParam Nat):Prop where
  h:(P.underlying s).bind (fun d=>match d with | .struct fs=>(fs[k]?).map (fun f=>(f.offset,f.type)) | _=>none)=some (off,ft)
class ScC (P:Program) (t:Nat):Prop where
  h:isSc (P.underlying t)=true
class AgC (P:Program) (t:Nat):Prop where
  h:isAg (P.underlying t)=true
class SzC (P:Program) (t:Nat) (n:outParam Nat):Prop where
  h:(P.info? t).map (·.size)=some n
class TlC (P:Program) (t:Nat) (e sz by':outParam Nat) (z:outParam Value):Prop where
  h:SlT P t e sz by' z
class AlC (P:Program) (t:Nat) (z:outParam Value):Prop where
  h:(P.info? t).map (·.zero)=some (some z)
class BdC (P:Program) (t:Nat) (pl:outParam (List (Nat × Nat))):Prop where
  h:∃ fs:Array Field,P.underlying t=some (.struct fs)/\fs.toList.mapM (fun f=>(P.info? f.type).map fun i=>(f.offset,i.size))=some pl
class CfC (P:Program) (f:FuncId):Prop where
  h:CF P f
class AddC (a b:Nat) (c:outParam Nat):Prop where
  h:a+b=c
instance (priority:=low) {a b:Nat}:AddC a b (a+b):=⟨rfl⟩
instance {a:Nat}:AddC a 0 a:=⟨rfl⟩
instance {b:Nat}:AddC 0 b b:=⟨Nat.zero_add b⟩
/-- An index as a number. -/
class IxC (i:Int) (n:outParam Nat):Prop where
  h:i.toNat=n
instance (priority:=low) {i:Int}:IxC i i.toNat:=⟨rfl⟩
instance {n:Nat}:IxC (n:Int) n:=⟨rfl⟩
instance:IxC 0 0:=⟨rfl⟩
instance:IxC 1 1:=⟨rfl⟩
instance:IxC 2 2:=⟨rfl⟩
instance:IxC 3 3:=⟨rfl⟩
instance:IxC 4 4:=⟨rfl⟩
instance:IxC 5 5:=⟨rfl⟩
instance:IxC 6 6:=⟨rfl⟩
instance:IxC 7 7:=⟨rfl⟩
instance:IxC 8 8:=⟨rfl⟩
instance:IxC 9 9:=⟨rfl⟩
/-- What is read beyond a list's end. -/
class DfC (α:Type) (d:outParam α):Prop where
  h:True
instance (priority:=low) {α:Type} [Inhabited α]:DfC α default:=⟨trivial⟩
instance:DfC Int 0:=⟨trivial⟩
instance:DfC Bool false:=⟨trivial⟩
/-- The cells of a thing, written out. -/
class EncL {α:Type} [Flat α] (x:α) (ds:outParam (List Value)):Prop where
  h:Flat.enc x=ds
/-- Some of a list's entries. -/
class SubR {α:Type u} (l:List α) (k n:Nat) (o:outParam (List α)):Prop where
  h:(l.drop k).take n=o
instance {α:Type u} {l:List α}:SubR l 0 0 []:=⟨rfl⟩
instance {α:Type u} {l o:List α} {x:α} {n:Nat} [h:SubR l 0 n o]:SubR (x :: l) 0 (n+1) (x :: o):=⟨by have:=h.h; simp at this; simp [this]⟩
instance {α:Type u} {l o:List α} {x:α} {k n:Nat} [h:SubR l k n o]:SubR (x :: l) (k+1) n o:=⟨by rw [List.drop_succ_cons]; exact h.h⟩
/-- A block among the parts. -/
class BlkR (L:List Chunk) (b:Nat) (cs:outParam (List Value)) (t:outParam TypeId):Prop where
  h:∃ k:Nat,L[k]?=some (cBlk b cs t)
instance {c:Chunk} {L:List Chunk} {b:Nat} {cs:List Value} {t:TypeId} [h:BlkR L b cs t]:BlkR (c :: L) b cs t:=⟨by obtain ⟨k,h⟩:=h.h; exact ⟨k+1,by simpa using h⟩⟩
instance {L:List Chunk} {b:Nat} {cs:List Value} {t:TypeId}:BlkR (cBlk b cs t :: L) b cs t:=⟨⟨0,rfl⟩⟩
/-- A block among the parts that is changed. -/
class BlkW (L:List Chunk) (b:Nat) (cs:List Value) (cs':List Value) (t:TypeId) (o:outParam (List Chunk)):Prop where
  h:∃ k:Nat,L[k]?=some (cBlk b cs t)/\L.set k (cBlk b cs' t)=o
instance {c:Chunk} {L o:List Chunk} {b:Nat} {cs cs':List Value} {t:TypeId} [h:BlkW L b cs cs' t o]:BlkW (c :: L) b cs cs' t (c :: o):=⟨by obtain ⟨k,h1,h2⟩:=h.h; exact ⟨k+1,by simpa using h1,by rw [List.set_cons_succ,h2]⟩⟩
instance {L:List Chunk} {b:Nat} {cs cs':List Value} {t:TypeId}:BlkW (cBlk b cs t :: L) b cs cs' t (cBlk b cs' t :: L):=⟨⟨0,rfl,rfl⟩⟩
/-- A field of an element. -/
class FldC (α:Type) [Elt α] (k:Nat) (e:outParam α) (f:outParam (α->Value)):Prop where
  h:∀ {C:Cells} {v:Value} {l:List α} {n:Nat},Sl C v l->n<l.length->At C (fat (vat v (Elt.sz α) n) k) [f (l.getD n e)]
section
variable {w0 w:World} {L R:List Chunk}
theorem St.bq {b:Nat} {cs:List Value} {t:TypeId} (H:St w0 w L R) [h:BlkR L b cs t]:w.heap[b]?=some (.cells cs.toArray t (0,0)):=by
  obtain ⟨k,hk⟩:=h.h
  exact H.get hk
end
section
variable {P:Program} {w:World} {σ:Env} {d:Nat} {ty:TypeId} {pos:String} {af:Array Edge} {g:Option (Nat × Bool)}
theorem pos_succ {m:Nat} (h:Nat.blt 0 m=true):∃ n,m=n+1:=by
  cases m with
  | zero=>cases h
  | succ n=>exact ⟨n,rfl⟩
theorem y_fab {s k off ft m b o c:Nat} {x:Operand} (hx:ev σ x = .pointer (some ⟨b,o,none⟩)) [f:FdC P s k off ft] [z:SzC P ft m] (a:AddC o off c) (hm:Nat.blt 0 m=true) :
    (execOp (ev σ) ⟨some d,.fieldAddr s x k,ty,pos,af,g⟩).run P w = .ok (.value (.pointer (some ⟨b,c,none⟩))) w:=by
  obtain ⟨n,rfl⟩:=pos_succ hm
  have:=fa_blk (w:=w) (b:=b) (o:=o) f.h z.h
  rw [a.h] at this
  exact x_fa hx this
theorem y_fap {s k off ft m:Nat} {x:Operand} {p:Value} (hx:ev σ x=p) [f:FdC P s k off ft] [z:SzC P ft m] (hm:Nat.blt 0 m=true) (hp:∃ b o,p = .pointer (some ⟨b,o,none⟩)) :
    (execOp (ev σ) ⟨some d,.fieldAddr s x k,ty,pos,af,g⟩).run P w = .ok (.value (fat p off)) w:=by
  obtain ⟨n,rfl⟩:=pos_succ hm
  exact x_fa hx (fa_pl f.h z.h hp)
theorem y_fav {α:Type} {_:Elt α} {s k off ft m sz n:Nat} {x:Operand} {C:Cells} {v:Value} {l:List α} (hx:ev σ x=vat v sz n) [f:FdC P s k off ft] [z:SzC P ft m] (hm:Nat.blt 0 m=true) (hs:Sl C v l) (hz:Elt.sz α=sz) (h1:n<l.length) :
    (execOp (ev σ) ⟨some d,.fieldAddr s x k,ty,pos,af,g⟩).run P w = .ok (.value (fat (vat v sz n) off)) w:=by
  subst hz
  have:=Sl.pl hs (i:=(n:Int)) (by omega) (by omega)
  exact y_fap hx hm (by simpa using this)
theorem y_faw {α:Type} {_:Elt α} {s k off ft m sz n a c:Nat} {x:Operand} {C:Cells} {v:Value} {l:List α} (hx:ev σ x=fat (vat v sz n) a) [f:FdC P s k off ft] [z:SzC P ft m] (ad:AddC a off c) (hm:Nat.blt 0 m=true) (hs:Sl C v l) (hz:Elt.sz α=sz) (h1:n<l.length) :
    (execOp (ev σ) ⟨some d,.fieldAddr s x k,ty,pos,af,g⟩).run P w = .ok (.value (fat (vat v sz n) c)) w:=by
  subst hz
  obtain ⟨b,o,hp⟩:=Sl.pl hs (i:=(n:Int)) (by omega) (by omega)
  have e:vat v (Elt.sz α) n = .pointer (some ⟨b,o,none⟩):=by simpa using hp
  have:=y_fap (P:=P) (w:=w) (d:=d) (ty:=ty) (pos:=pos) (af:=af) (g:=g) hx (f:=f) (z:=z) hm ⟨b,o+a,by rw [e]; simp [fat,add_lit]⟩
  rw [this,e,← ad.h]
  simp [fat,add_lit,Nat.add_assoc]
theorem y_ldb {t:TypeId} {b off:Nat} {cs:List Value} {et:TypeId} {fr:Nat × Nat} {x:Operand} {v:Value} (hx:ev σ x = .pointer (some ⟨b,off,none⟩)) [s:ScC P t] (h:w.heap[b]?=some (.cells cs.toArray et fr)) (hv:(cs.drop off).take 1=[v]) :
    (execOp (ev σ) ⟨some d,.load t x,ty,pos,af,g⟩).run P w = .ok (.value v) w:=x_ld hx (ldb_sc s.h h hv)
theorem y_lda {t:TypeId} {b off n:Nat} {cs ds:List Value} {et:TypeId} {fr:Nat × Nat} {x:Operand} (hx:ev σ x = .pointer (some ⟨b,off,none⟩)) [s:AgC P t] [z:SzC P t n] (h:w.heap[b]?=some (.cells cs.toArray et fr)) (q:SubR cs off n ds) (hn:ds.length=n) :
    (execOp (ev σ) ⟨some d,.load t x,ty,pos,af,g⟩).run P w = .ok (.value (.agg ds.toArray)) w:=x_ld hx (ldb_ag s.h z.h h q.h hn)
theorem At.flat {α:Type} [Flat α] {C:Cells} {v:Value} {l:List α} (hs:Sl C v l) {n:Nat} (h1:n<l.length) (e:α):At C (vat v (Elt.sz α) n) (Flat.enc (l.getD n e)):=by
  obtain ⟨cs,ha,hr⟩:=hs.atI (i:=(n:Int)) (by omega) (by omega) e
  rw [Flat.rep_iff] at hr
  subst hr
  simpa using ha
theorem y_lds {α:Type} {_:Flat α} {t sz n:Nat} {x:Operand} {C:Cells} {v u:Value} {l:List α} {e:α} (hx:ev σ x=vat v sz n) [s:ScC P t] (hs:Sl C v l) {ds:List Value} (de:DfC α e) (en:EncL (l.getD n e) ds) (hz:Elt.sz α=sz) (hu:ds=[u]) (hle:C.Le w.cell?) (h1:n<l.length) :
    (execOp (ev σ) ⟨some d,.load t x,ty,pos,af,g⟩).run P w = .ok (.value u) w:=by
  subst hz
  have:=(At.flat hs h1 e).mono hle
  rw [en.h,hu] at this
  exact x_ld hx (ld_sc s.h this)
theorem y_ldf {α:Type} {_:Flat α} {t sz n k:Nat} {x:Operand} {C:Cells} {v u:Value} {l:List α} {e:α} (hx:ev σ x=fat (vat v sz n) k) [s:ScC P t] (hs:Sl C v l) {ds:List Value} (de:DfC α e) (en:EncL (l.getD n e) ds) (hz:Elt.sz α=sz) (hu:(ds.drop k).take 1=[u]) (hle:C.Le w.cell?) (h1:n<l.length) :
    (execOp (ev σ) ⟨some d,.load t x,ty,pos,af,g⟩).run P w = .ok (.value u) w:=by
  subst hz
  have:=((At.flat hs h1 e).mono hle).fld k 1
  rw [en.h,hu] at this
  exact x_ld hx (ld_sc s.h this)
theorem y_ldA {α:Type} {_:Flat α} {t sz n:Nat} {x:Operand} {C:Cells} {v:Value} {l:List α} {e:α} (hx:ev σ x=vat v sz n) [s:AgC P t] [z:SzC P t sz] (hs:Sl C v l) {ds:List Value} (de:DfC α e) (en:EncL (l.getD n e) ds) (hz:Elt.sz α=sz) (hle:C.Le w.cell?) (h1:n<l.length) :
    (execOp (ev σ) ⟨some d,.load t x,ty,pos,af,g⟩).run P w = .ok (.value (.agg ds.toArray)) w:=by
  subst hz
  have:=(At.flat hs h1 e).mono hle
  rw [en.h] at this
  refine x_ld hx (ld_ag s.h ?_ this)
  rw [z.h,← en.h,Flat.enc_len]
theorem y_ldg {α:Type} {_:Elt α} {t sz n k:Nat} {x:Operand} {C:Cells} {v:Value} {l:List α} {e:α} {f:α->Value} (hx:ev σ x=fat (vat v sz n) k) [s:ScC P t] (hs:Sl C v l) (fc:FldC α k e f) (hz:Elt.sz α=sz) (hle:C.Le w.cell?) (h1:n<l.length) :
    (execOp (ev σ) ⟨some d,.load t x,ty,pos,af,g⟩).run P w = .ok (.value (f (l.getD n e))) w:=by
  subst hz
  exact x_ld hx (ld_sc s.h ((fc.h hs h1).mono hle))
theorem y_ldp {t:TypeId} {x:Operand} {p v:Value} (hx:ev σ x=p) [s:ScC P t] (ha:At w.cell? p [v]) :
    (execOp (ev σ) ⟨some d,.load t x,ty,pos,af,g⟩).run P w = .ok (.value v) w:=x_ld hx (ld_sc s.h ha)
theorem y_len {α:Type} {_:Elt α} {t e sz by':Nat} {z:Value} {x:Operand} {C:Cells} {v:Value} {l:List α} [T:TlC P t e sz by' z] (h:ev σ x=v) (hs:Sl C v l) :
    (execOp (ev σ) ⟨some d,.call ⟨.builtin .len,#[x],#[t]⟩,ty,pos,af,g⟩).run P w = .ok (.value (.int .i64 l.length)) w:=x_lenS T.h.und h hs
theorem y_ix {α:Type} {_:Elt α} {t e sz by' n:Nat} {z:Value} {x y:Operand} {C:Cells} {v:Value} {l:List α} {kd:IntKind} {i:Int} [T:TlC P t e sz by' z] (hx:ev σ x=v) (hy:ev σ y = .int kd i) (ix:IxC i n) (hs:Sl C v l) (hz:Elt.sz α=sz) (h0:0<=i) (h1:i<l.length) :
    (execOp (ev σ) ⟨some d,.indexAddr t x y,ty,pos,af,g⟩).run P w = .ok (.value (vat v sz n)) w:=by
  subst hz
  have:=Sl.ix (w:=w) (kd:=kd) T.h.und T.h.size hs h0 h1
  rw [ix.h] at this
  exact x_ix hx hy this
end
section
variable {P:Program} {all rest:List Oper} {Q:Post} {σ:Env} {w0 w:World} {L L' R:List Chunk} {ty:TypeId} {pos:String} {af:Array Edge}
end
instance {x:Int}:EncL x [I x]:=⟨rfl⟩
instance {x:Bool}:EncL x [B x]:=⟨rfl⟩
/-- A slice that reads as a list. -/
theorem jS {A:Prop} (h:A:=by first | assumption | exact H.os 0 | exact H.os 1 | exact H.os 2 | exact H.os 3 | exact H.os 4 | exact H.os 5 | exact H.os 6 | exact H.os 7 | exact H.os 8 | exact H.os 9 | exact (by assumption:_=true->Sl _ _ _) hg):A:=h
/-- Cells that can be read. -/
theorem jL {A:Prop} (h:A:=by first | exact Reads.at (by assumption) H | exact H.ol 0 | exact H.ol 1 | exact H.ol 2 | exact H.ol 3 | exact H.ol 4 | exact H.ol 5 | exact H.ol 6 | exact H.ol 7 | exact H.ol 8 | exact H.ol 9):A:=h
/-- A bound. -/
theorem jO {A:Prop} (h:A:=by first | omega | (have hx_:=hg; simp at hx_; omega) | (have hx_:=hg; simp at hx_; simp only [hg,Bool.true_eq_false,Bool.false_eq_true,reduceCtorEq,false_or,true_or,Bool.not_true,Bool.not_false] at *; omega) | (simp only [hg,Bool.true_eq_false,Bool.false_eq_true,reduceCtorEq,false_or,true_or,Bool.not_true,Bool.not_false] at *; omega)):A:=h
/-- A guard. -/
theorem jB {A:Prop} (h:A:=by first | exact hb | (rw [hb]; rfl) | simp_all):A:=h
/-- A value under a guard, or none. -/
theorem jG {A:Prop} (h:A:=by first | exact gd_of hg _ | ((conv=>lhs; whnf) <;> rfl)):A:=h
/-- A value. -/
theorem jE {A:Prop} (h:A:=by ((conv=>lhs; whnf) <;> rfl)):A:=h
/-- One operation. -/
theorem jU {A:Prop} (h:A:=by 
    first
      | (apply x_mv; exact jE)
      | (apply x_as; exact jE)
      | (apply y_fab; rfl; exact inferInstance; rfl)
      | (apply y_ldb; rfl; exact H.bq; rfl)
      | (apply x_cmp; rfl; rfl; rfl)
      | (apply y_len; exact jE; exact jS)
      | (apply y_ix; exact jE; rfl; exact inferInstance; exact jS; rfl; exact jO; exact jO)
      | (apply y_fav; rfl; rfl; exact jS; rfl; exact jO)
      | (apply y_faw; rfl; exact inferInstance; rfl; exact jS; rfl; exact jO)
      | (apply y_lds; rfl; exact jS; exact inferInstance; exact inferInstance; rfl; rfl; exact jL; exact jO)
      | (apply y_ldf; rfl; exact jS; exact inferInstance; exact inferInstance; rfl; rfl; exact jL; exact jO)
      | (apply y_ldg; rfl; exact jS; exact inferInstance; rfl; exact jL; exact jO)
      | (apply y_ldA; rfl; exact jS; exact inferInstance; exact inferInstance; rfl; exact jL; exact jO)
      | (apply y_ldp; rfl; exact At.mono (by assumption) jL)
      | (apply x_ari; rfl; rfl; rfl; exact jO)
      | (apply x_ext; rfl; rfl)
      | (apply x_nc; rfl)
      | (apply y_lda; rfl; exact H.bq; exact inferInstance; rfl)
      | (apply y_ldb; rfl; exact (by assumption:Has _ (cBlk _ _ _)).blk H; rfl)
      | (apply x_not; rfl)
      | (apply x_max; rfl; rfl)
      | (apply x_min; rfl; rfl)
      | (apply x_quo; rfl; rfl; exact jO)
      | (apply x_por; rfl; rfl; exact fun hb=>gd_of jB _)
      | (apply x_pand; rfl; exact fun hb=>gd_of jB _; rfl)):A:=h
/-- One operation under a guard. -/
theorem jV {A:Prop} (h:A:=by 
    first
      | (apply x_mv; exact jG)
      | (apply x_as; exact jG)
      | (apply y_fab; exact jG; exact inferInstance; rfl)
      | (apply y_ldb; exact jG; exact H.bq; rfl)
      | (apply x_cmp; exact jG; exact jG; rfl)
      | (apply y_len; exact jG; exact jS)
      | (apply y_ix; exact jG; exact jG; exact inferInstance; exact jS; rfl; exact jO; exact jO)
      | (apply y_fav; exact jG; rfl; exact jS; rfl; exact jO)
      | (apply y_faw; exact jG; exact inferInstance; rfl; exact jS; rfl; exact jO)
      | (apply y_lds; exact jG; exact jS; exact inferInstance; exact inferInstance; rfl; rfl; exact jL; exact jO)
      | (apply y_ldf; exact jG; exact jS; exact inferInstance; exact inferInstance; rfl; rfl; exact jL; exact jO)
      | (apply y_ldg; exact jG; exact jS; exact inferInstance; rfl; exact jL; exact jO)
      | (apply y_ldA; exact jG; exact jS; exact inferInstance; exact inferInstance; rfl; exact jL; exact jO)
      | (apply y_ldp; exact jG; exact At.mono (by assumption) jL)
      | (apply x_ari; exact jG; exact jG; rfl; exact jO)
      | (apply x_ext; exact jG; rfl)
      | (apply x_nc; exact jG)
      | (apply y_lda; exact jG; exact H.bq; exact inferInstance; rfl)
      | (apply y_ldb; exact jG; exact (by assumption:Has _ (cBlk _ _ _)).blk H; rfl)
      | (apply x_not; exact jG)
      | (apply x_max; exact jG; exact jG)
      | (apply x_min; exact jG; exact jG)
      | (apply x_quo; exact jG; exact jG; exact jO)
      | (apply x_por; exact jG; exact jG; exact fun hb=>gd_of jB _)
      | (apply x_pand; exact jG; exact fun hb=>gd_of jB _; exact jG)):A:=h
/-- What is left. -/
structure Left (B:Prop):Prop where
  h:B
/-- How many steps are left. -/
structure Cnt (n:Nat):Prop where
  h:n=n
theorem Cnt.dn {n:Nat} (c:Cnt (n+1)):Cnt n:=⟨rfl⟩
/-- So many plain steps. -/
theorem kg {A B:Prop} (n:Nat) (q:B) (f:Cnt n->Left B->A:=by
    intro cnt q
    (repeat (replace cnt:=Cnt.dn cnt; first
      | (apply s_val; exact jU)
      | refine s_nil ?_
      | refine W.seq ?_
      | refine W.region rfl ?_
      | refine W.skip ?_
      | refine W.block ?_
      | (apply d_q; rfl; (intro w' H; exact jU))
      | (apply t_q; rfl; (intro w' H; exact jU))
      | (apply g_val; (first | exact gy_t rfl | exact gy_f rfl | exact gy_gt rfl rfl | exact gy_gf rfl rfl); (intro hg; exact jV))
      | (apply d_qg; rfl; (first | exact gy_t rfl | exact gy_f rfl | exact gy_gt rfl rfl | exact gy_gf rfl rfl); (intro hg w' H; exact jV))
      | (apply t_qg; rfl; (first | exact gy_t rfl | exact gy_f rfl | exact gy_gt rfl rfl | exact gy_gf rfl rfl); (intro hg w' H; exact jV))
      | refine t_nil ?_
      | refine d_nil ?_))
    exact q.h):A:=f ⟨rfl⟩ ⟨q⟩
end Go.Nm
namespace Go.Nm
open Go
/-- A value that takes one cell. -/
def PtV (p:Value):Prop:=p.cells=[p].toArray/\p.oneCell'=true
theorem ptB (a:Addr):PtV (.pointer (some a)):=⟨rfl,rfl⟩
theorem ptE {p:Value} (h:∃ b o,p = .pointer (some ⟨b,o,none⟩)):PtV p:=by
  obtain ⟨b,o,rfl⟩:=h
  exact ptB _
theorem ptF {p:Value} {off:Nat} (h:∃ b o,p = .pointer (some ⟨b,o,none⟩)):PtV (fat p off):=by
  obtain ⟨b,o,rfl⟩:=h
  exact ptB _
theorem ptr_fat {p:Value} {off:Nat} (h:∃ b o,p = .pointer (some ⟨b,o,none⟩)):∃ b o,fat p off = .pointer (some ⟨b,o,none⟩):=by
  obtain ⟨b,o,rfl⟩:=h
  exact ⟨b,o+off,by simp [fat,add_lit]⟩
def rawV (p:Value) (h:PtV p):Raw 0:=⟨[p],rfl,fun v hv=>by rw [List.mem_singleton.1 hv]; exact h.2⟩
theorem raw_at {C:Cells} {v p:Value} {l:List (Raw 0)} {i:Int} {k:Nat} (h:Sl C v l) (hi:i=k) (hk:(l[k]?).map Raw.cs=some [p]):At C (vat v 1 i.toNat) [p]:=by
  subst hi
  obtain ⟨r,h1,h2⟩:=Option.map_eq_some_iff.1 hk
  obtain ⟨cs,ha,hr⟩:=h.at h1
  rw [show cs=r.cs from hr,h2] at ha
  exact ha
theorem W.byc {r:Option Nat} {P:Program} {n:Nat} {Q:Post} {σ:Env} {w:World} {c:Code} (b:Bool) (ht:b=true->WR r P n c Q σ w) (hf:b=false->WR r P n c Q σ w):WR r P n c Q σ w:=by
  cases b with
  | true=>exact ht rfl
  | false=>exact hf rfl
end Go.Nm
namespace Go.Nm
open Go
theorem lz_at {n:Nat} {C:Cells} {v:Value} {l:List (Raw n)} {r:Raw n} {i:Int} {k:Nat} {cs:List Value} (h:Sl C v l) (hi:i=k) (hk:l[k]?=some r) (hc:r.cs=cs):At C (vat v (n+1) i.toNat) cs:=by
  subst hi
  obtain ⟨cs',ha,hr⟩:=h.at hk
  rw [show cs'=r.cs from hr,hc] at ha
  exact ha
section
variable {P:Program} {all rest:List Oper} {Q:Post} {σ:Env} {ty:TypeId} {pos:String} {af:Array Edge} {d:Nat} {w0 w:World} {L R:List Chunk} {t e by':Nat} {z:Value}
end
end Go.Nm
namespace Go.Nm
open Go
section
variable {P:Program} {w:World} {σ:Env} {d:Nat} {ty:TypeId} {pos:String} {af:Array Edge} {g:Option (Nat × Bool)}
theorem x_shl {t yt:TypeId} {x y:Operand} {a b:Int} {n:Nat} (hx:ev σ x = .int .i64 a) (hy:ev σ y = .int .i64 b) (h:b=(n:Int)/\n<=62/\-9223372036854775808<=a*2 ^ n/\a*2 ^ n<=9223372036854775807) :
    (execOp (ev σ) ⟨some d,.binOp .shl t x y yt,ty,pos,af,g⟩).run P w = .ok (.value (.int .i64 (a*2 ^ n))) w:=by
  obtain ⟨rfl,h1,h2,h3⟩:=h
  have hn:¬ ((n:Int)<0):=by omega
  have hm:min n IntKind.i64.bits=n:=Nat.min_eq_left (by show n<=64; omega)
  simp [execOp,hx,hy,eqGuard,binOp,Op.shift,hn,hm,wrap64 (a:=a*2 ^ n) ⟨h2,h3⟩]
theorem x_shr {t yt:TypeId} {x y:Operand} {a b:Int} {n:Nat} (hx:ev σ x = .int .i64 a) (hy:ev σ y = .int .i64 b) (h:b=(n:Int)/\n<=62) :
    (execOp (ev σ) ⟨some d,.binOp .shr t x y yt,ty,pos,af,g⟩).run P w = .ok (.value (.int .i64 (a / 2 ^ n))) w:=by
  obtain ⟨rfl,h1⟩:=h
  have hn:¬ ((n:Int)<0):=by omega
  have hm:min n IntKind.i64.bits=n:=Nat.min_eq_left (by show n<=64; omega)
  have hf:a.fdiv (2 ^ n)=a / 2 ^ n:=Int.fdiv_eq_ediv_of_nonneg _ (Int.le_of_lt (Int.pow_pos (by decide)))
  simp [execOp,hx,hy,eqGuard,binOp,Op.shift,hn,hm,hf]
end
end Go.Nm
namespace Go.Nm
open Go
section
variable {P:Program} {w:World} {σ:Env} {d:Nat} {ty:TypeId} {pos:String} {af:Array Edge} {g:Option (Nat × Bool)}
theorem x_pand0 {c x y:Operand} {b:Bool} (hc:ev σ c = .bool b) (hx:b=true->ev σ x = .bool false) (hy:ev σ y = .bool false) :
    (execOp (ev σ) ⟨some d,.pick c x y,ty,pos,af,g⟩).run P w = .ok (.value (.bool false)) w:=by
  have:=x_pand (P:=P) (w:=w) (d:=d) (ty:=ty) (pos:=pos) (af:=af) (g:=g) hc hx hy
  rwa [Bool.and_false] at this
end
end Go.Nm
namespace Go.Nm
open Go
instance {x:Span}:EncL x [I x.lo,I x.hi]:=⟨rfl⟩
instance {x:Dem}:EncL x [I x.spring,I x.town]:=⟨rfl⟩
instance {x:Town}:EncL x [I x.station,I x.lead,I x.alarm]:=⟨rfl⟩
instance:FldC Flood 0 default (fun x=>I x.spring):=⟨fun hs h1=>by have:=Flood_at0 hs (i:=(_:Nat)) (Int.natCast_nonneg _) (Int.ofNat_lt.2 h1); exact this⟩
instance {x:Rpt}:EncL x [I x.watch,I x.stage,B x.danger]:=⟨rfl⟩
end Go.Nm
namespace Go.Proofs.YtbldmjejckjflabGreat
open Go Go.Nm
theorem cf4:CF Tryz.prog 4:=⟨_,Tryz.func4,rfl,by decide +kernel⟩
theorem cf5:CF Tryz.prog 5:=⟨_,Tryz.func5,rfl,by decide +kernel⟩
theorem cf6:CF Tryz.prog 6:=⟨_,Tryz.func6,rfl,by decide +kernel⟩
theorem cf7:CF Tryz.prog 7:=⟨_,Tryz.func7,rfl,by decide +kernel⟩
theorem cf8:CF Tryz.prog 8:=⟨_,Tryz.func8,rfl,by decide +kernel⟩
theorem cf9:CF Tryz.prog 9:=⟨_,Tryz.func9,rfl,by decide +kernel⟩
theorem cf10:CF Tryz.prog 10:=⟨_,Tryz.func10,rfl,by decide +kernel⟩
theorem cf11:CF Tryz.prog 11:=⟨_,Tryz.func11,rfl,by decide +kernel⟩
theorem cf12:CF Tryz.prog 12:=⟨_,Tryz.func12,rfl,by decide +kernel⟩
theorem cf13:CF Tryz.prog 13:=⟨_,Tryz.func13,rfl,by decide +kernel⟩
theorem cf14:CF Tryz.prog 14:=⟨_,Tryz.func14,rfl,by decide +kernel⟩
theorem cf15:CF Tryz.prog 15:=⟨_,Tryz.func15,rfl,by decide +kernel⟩
theorem cf16:CF Tryz.prog 16:=⟨_,Tryz.func16,rfl,by decide +kernel⟩
theorem cf17:CF Tryz.prog 17:=⟨_,Tryz.func17,rfl,by decide +kernel⟩
theorem cf18:CF Tryz.prog 18:=⟨_,Tryz.func18,rfl,by decide +kernel⟩
theorem cf19:CF Tryz.prog 19:=⟨_,Tryz.func19,rfl,by decide +kernel⟩
theorem cf20:CF Tryz.prog 20:=⟨_,Tryz.func20,rfl,by decide +kernel⟩
theorem cf21:CF Tryz.prog 21:=⟨_,Tryz.func21,rfl,by decide +kernel⟩
theorem cf22:CF Tryz.prog 22:=⟨_,Tryz.func22,rfl,by decide +kernel⟩
theorem cf23:CF Tryz.prog 23:=⟨_,Tryz.func23,rfl,by decide +kernel⟩
theorem cf24:CF Tryz.prog 24:=⟨_,Tryz.func24,rfl,by decide +kernel⟩
theorem cf25:CF Tryz.prog 25:=⟨_,Tryz.func25,rfl,by decide +kernel⟩
theorem cf26:CF Tryz.prog 26:=⟨_,Tryz.func26,rfl,by decide +kernel⟩
theorem cf27:CF Tryz.prog 27:=⟨_,Tryz.func27,rfl,by decide +kernel⟩
theorem cf28:CF Tryz.prog 28:=⟨_,Tryz.func28,rfl,by decide +kernel⟩
theorem cf29:CF Tryz.prog 29:=⟨_,Tryz.func29,rfl,by decide +kernel⟩
theorem cf30:CF Tryz.prog 30:=⟨_,Tryz.func30,rfl,by decide +kernel⟩
theorem cf31:CF Tryz.prog 31:=⟨_,Tryz.func31,rfl,by decide +kernel⟩
theorem cf32:CF Tryz.prog 32:=⟨_,Tryz.func32,rfl,by decide +kernel⟩
theorem cf33:CF Tryz.prog 33:=⟨_,Tryz.func33,rfl,by decide +kernel⟩
theorem cf34:CF Tryz.prog 34:=⟨_,Tryz.func34,rfl,by decide +kernel⟩
theorem cf35:CF Tryz.prog 35:=⟨_,Tryz.func35,rfl,by decide +kernel⟩
theorem cf36:CF Tryz.prog 36:=⟨_,Tryz.func36,rfl,by decide +kernel⟩
theorem cf37:CF Tryz.prog 37:=⟨_,Tryz.func37,rfl,by decide +kernel⟩
theorem cf38:CF Tryz.prog 38:=⟨_,Tryz.func38,rfl,by decide +kernel⟩
theorem cf39:CF Tryz.prog 39:=⟨_,Tryz.func39,rfl,by decide +kernel⟩
theorem cf40:CF Tryz.prog 40:=⟨_,Tryz.func40,rfl,by decide +kernel⟩
theorem cf41:CF Tryz.prog 41:=⟨_,Tryz.func41,rfl,by decide +kernel⟩
theorem cf42:CF Tryz.prog 42:=⟨_,Tryz.func42,rfl,by decide +kernel⟩
theorem cf43:CF Tryz.prog 43:=⟨_,Tryz.func43,rfl,by decide +kernel⟩
theorem cf44:CF Tryz.prog 44:=⟨_,Tryz.func44,rfl,by decide +kernel⟩
theorem cf45:CF Tryz.prog 45:=⟨_,Tryz.func45,rfl,by decide +kernel⟩
theorem cf46:CF Tryz.prog 46:=⟨_,Tryz.func46,rfl,by decide +kernel⟩
theorem cf47:CF Tryz.prog 47:=⟨_,Tryz.func47,rfl,by decide +kernel⟩
theorem cf48:CF Tryz.prog 48:=⟨_,Tryz.func48,rfl,by decide +kernel⟩
theorem cf49:CF Tryz.prog 49:=⟨_,Tryz.func49,rfl,by decide +kernel⟩
theorem cf50:CF Tryz.prog 50:=⟨_,Tryz.func50,rfl,by decide +kernel⟩
theorem cf51:CF Tryz.prog 51:=⟨_,Tryz.func51,rfl,by decide +kernel⟩
theorem cf52:CF Tryz.prog 52:=⟨_,Tryz.func52,rfl,by decide +kernel⟩
theorem cf53:CF Tryz.prog 53:=⟨_,Tryz.func53,rfl,by decide +kernel⟩
theorem cf54:CF Tryz.prog 54:=⟨_,Tryz.func54,rfl,by decide +kernel⟩
theorem cf55:CF Tryz.prog 55:=⟨_,Tryz.func55,rfl,by decide +kernel⟩
theorem cf56:CF Tryz.prog 56:=⟨_,Tryz.func56,rfl,by decide +kernel⟩
theorem cf57:CF Tryz.prog 57:=⟨_,Tryz.func57,rfl,by decide +kernel⟩
theorem cf58:CF Tryz.prog 58:=⟨_,Tryz.func58,rfl,by decide +kernel⟩
theorem cf59:CF Tryz.prog 59:=⟨_,Tryz.func59,rfl,by decide +kernel⟩
theorem cf60:CF Tryz.prog 60:=⟨_,Tryz.func60,rfl,by decide +kernel⟩
theorem cf61:CF Tryz.prog 61:=⟨_,Tryz.func61,rfl,by decide +kernel⟩
theorem cf62:CF Tryz.prog 62:=⟨_,Tryz.func62,rfl,by decide +kernel⟩
theorem cf63:CF Tryz.prog 63:=⟨_,Tryz.func63,rfl,by decide +kernel⟩
theorem cf64:CF Tryz.prog 64:=⟨_,Tryz.func64,rfl,by decide +kernel⟩
theorem cf65:CF Tryz.prog 65:=⟨_,Tryz.func65,rfl,by decide +kernel⟩
theorem cf66:CF Tryz.prog 66:=⟨_,Tryz.func66,rfl,by decide +kernel⟩
theorem cf67:CF Tryz.prog 67:=⟨_,Tryz.func67,rfl,by decide +kernel⟩
theorem cf68:CF Tryz.prog 68:=⟨_,Tryz.func68,rfl,by decide +kernel⟩
theorem cf69:CF Tryz.prog 69:=⟨_,Tryz.func69,rfl,by decide +kernel⟩
theorem cf70:CF Tryz.prog 70:=⟨_,Tryz.func70,rfl,by decide +kernel⟩
theorem cf71:CF Tryz.prog 71:=⟨_,Tryz.func71,rfl,by decide +kernel⟩
theorem cf72:CF Tryz.prog 72:=⟨_,Tryz.func72,rfl,by decide +kernel⟩
theorem cf73:CF Tryz.prog 73:=⟨_,Tryz.func73,rfl,by decide +kernel⟩
theorem cf74:CF Tryz.prog 74:=⟨_,Tryz.func74,rfl,by decide +kernel⟩
theorem cf75:CF Tryz.prog 75:=⟨_,Tryz.func75,rfl,by decide +kernel⟩
theorem cf76:CF Tryz.prog 76:=⟨_,Tryz.func76,rfl,by decide +kernel⟩
theorem cf77:CF Tryz.prog 77:=⟨_,Tryz.func77,rfl,by decide +kernel⟩
theorem cf78:CF Tryz.prog 78:=⟨_,Tryz.func78,rfl,by decide +kernel⟩
theorem cf79:CF Tryz.prog 79:=⟨_,Tryz.func79,rfl,by decide +kernel⟩
theorem cf80:CF Tryz.prog 80:=⟨_,Tryz.func80,rfl,by decide +kernel⟩
theorem cf81:CF Tryz.prog 81:=⟨_,Tryz.func81,rfl,by decide +kernel⟩
theorem cf82:CF Tryz.prog 82:=⟨_,Tryz.func82,rfl,by decide +kernel⟩
theorem cf83:CF Tryz.prog 83:=⟨_,Tryz.func83,rfl,by decide +kernel⟩
theorem cf84:CF Tryz.prog 84:=⟨_,Tryz.func84,rfl,by decide +kernel⟩
theorem cf85:CF Tryz.prog 85:=⟨_,Tryz.func85,rfl,by decide +kernel⟩
theorem cf86:CF Tryz.prog 86:=⟨_,Tryz.func86,rfl,by decide +kernel⟩
theorem cf87:CF Tryz.prog 87:=⟨_,Tryz.func87,rfl,by decide +kernel⟩
theorem cf88:CF Tryz.prog 88:=⟨_,Tryz.func88,rfl,by decide +kernel⟩
theorem cf89:CF Tryz.prog 89:=⟨_,Tryz.func89,rfl,by decide +kernel⟩
theorem cf90:CF Tryz.prog 90:=⟨_,Tryz.func90,rfl,by decide +kernel⟩
theorem cf91:CF Tryz.prog 91:=⟨_,Tryz.func91,rfl,by decide +kernel⟩
theorem cf92:CF Tryz.prog 92:=⟨_,Tryz.func92,rfl,by decide +kernel⟩
theorem cf93:CF Tryz.prog 93:=⟨_,Tryz.func93,rfl,by decide +kernel⟩
theorem cf94:CF Tryz.prog 94:=⟨_,Tryz.func94,rfl,by decide +kernel⟩
theorem cf95:CF Tryz.prog 95:=⟨_,Tryz.func95,rfl,by decide +kernel⟩
theorem cf96:CF Tryz.prog 96:=⟨_,Tryz.func96,rfl,by decide +kernel⟩
theorem cf97:CF Tryz.prog 97:=⟨_,Tryz.func97,rfl,by decide +kernel⟩
theorem cf98:CF Tryz.prog 98:=⟨_,Tryz.func98,rfl,by decide +kernel⟩
theorem cf99:CF Tryz.prog 99:=⟨_,Tryz.func99,rfl,by decide +kernel⟩
theorem cf100:CF Tryz.prog 100:=⟨_,Tryz.func100,rfl,by decide +kernel⟩
theorem cf101:CF Tryz.prog 101:=⟨_,Tryz.func101,rfl,by decide +kernel⟩
theorem cf102:CF Tryz.prog 102:=⟨_,Tryz.func102,rfl,by decide +kernel⟩
theorem cf103:CF Tryz.prog 103:=⟨_,Tryz.func103,rfl,by decide +kernel⟩
theorem cf104:CF Tryz.prog 104:=⟨_,Tryz.func104,rfl,by decide +kernel⟩
theorem cf105:CF Tryz.prog 105:=⟨_,Tryz.func105,rfl,by decide +kernel⟩
theorem cf106:CF Tryz.prog 106:=⟨_,Tryz.func106,rfl,by decide +kernel⟩
theorem cf107:CF Tryz.prog 107:=⟨_,Tryz.func107,rfl,by decide +kernel⟩
theorem cf108:CF Tryz.prog 108:=⟨_,Tryz.func108,rfl,by decide +kernel⟩
theorem cf109:CF Tryz.prog 109:=⟨_,Tryz.func109,rfl,by decide +kernel⟩
theorem cf110:CF Tryz.prog 110:=⟨_,Tryz.func110,rfl,by decide +kernel⟩
theorem cf111:CF Tryz.prog 111:=⟨_,Tryz.func111,rfl,by decide +kernel⟩
theorem cf114:CF Tryz.prog 114:=⟨_,Tryz.func114,rfl,by decide +kernel⟩
theorem T22:SlT Tryz.prog 22 3 1 8 (I 0):=⟨Tryz.underlying22,by kernel_rfl,rfl,by decide⟩
theorem T23:SlT Tryz.prog 23 26 2 16 (.agg #[I 0,I 0]):=⟨Tryz.underlying23,by kernel_rfl,rfl,by decide⟩
theorem T24:SlT Tryz.prog 24 36 3 24 (.agg #[I 0,I 0,I 0]):=⟨Tryz.underlying24,by kernel_rfl,rfl,by decide⟩
theorem T27:SlT Tryz.prog 27 38 2 32 (.agg #[I 0,.slice none 0 0]):=⟨Tryz.underlying27,by kernel_rfl,rfl,by decide⟩
theorem T33:SlT Tryz.prog 33 32 2 16 (.agg #[I 0,I 0]):=⟨Tryz.underlying33,by kernel_rfl,rfl,by decide⟩
theorem T39:SlT Tryz.prog 39 34 1 8 (.pointer none):=⟨Tryz.underlying39,by kernel_rfl,rfl,by decide⟩
theorem T44:SlT Tryz.prog 44 22 1 24 (.slice none 0 0):=⟨Tryz.underlying44,by kernel_rfl,rfl,by decide⟩
theorem T50:SlT Tryz.prog 50 105 3 24 (.agg #[I 0,I 0,I 0]):=⟨Tryz.underlying50,by kernel_rfl,rfl,by decide⟩
theorem T51:SlT Tryz.prog 51 106 2 32 (.agg #[I 0,.slice none 0 0]):=⟨Tryz.underlying51,by kernel_rfl,rfl,by decide⟩
theorem T68:SlT Tryz.prog 68 72 2 16 (.agg #[I 0,I 0]):=⟨Tryz.underlying68,by kernel_rfl,rfl,by decide⟩
theorem Sc3:isSc (Tryz.prog.underlying 3)=true:=by rw [Tryz.underlying3]; rfl
theorem Sc4:isSc (Tryz.prog.underlying 4)=true:=by rw [Tryz.underlying4]; rfl
theorem Sc22:isSc (Tryz.prog.underlying 22)=true:=by rw [Tryz.underlying22]; rfl
theorem Sc23:isSc (Tryz.prog.underlying 23)=true:=by rw [Tryz.underlying23]; rfl
theorem Sc24:isSc (Tryz.prog.underlying 24)=true:=by rw [Tryz.underlying24]; rfl
theorem Sc27:isSc (Tryz.prog.underlying 27)=true:=by rw [Tryz.underlying27]; rfl
theorem Sc34:isSc (Tryz.prog.underlying 34)=true:=by rw [Tryz.underlying34]; rfl
theorem Sc50:isSc (Tryz.prog.underlying 50)=true:=by rw [Tryz.underlying50]; rfl
theorem Sc51:isSc (Tryz.prog.underlying 51)=true:=by rw [Tryz.underlying51]; rfl
theorem Sc97:isSc (Tryz.prog.underlying 97)=true:=by rw [Tryz.underlying97]; rfl
theorem Sc102:isSc (Tryz.prog.underlying 102)=true:=by rw [Tryz.underlying102]; rfl
theorem Sc108:isSc (Tryz.prog.underlying 108)=true:=by rw [Tryz.underlying108]; rfl
theorem Sc111:isSc (Tryz.prog.underlying 111)=true:=by rw [Tryz.underlying111]; rfl
theorem Sc122:isSc (Tryz.prog.underlying 122)=true:=by rw [Tryz.underlying122]; rfl
theorem Sc123:isSc (Tryz.prog.underlying 123)=true:=by rw [Tryz.underlying123]; rfl
theorem Sc141:isSc (Tryz.prog.underlying 141)=true:=by rw [Tryz.underlying141]; rfl
theorem Sc149:isSc (Tryz.prog.underlying 149)=true:=by rw [Tryz.underlying149]; rfl
theorem Sz3:(Tryz.prog.info? 3).map (·.size)=some 1:=by kernel_rfl
theorem Sz4:(Tryz.prog.info? 4).map (·.size)=some 1:=by kernel_rfl
theorem Sz22:(Tryz.prog.info? 22).map (·.size)=some 1:=by kernel_rfl
theorem Sz23:(Tryz.prog.info? 23).map (·.size)=some 1:=by kernel_rfl
theorem Sz24:(Tryz.prog.info? 24).map (·.size)=some 1:=by kernel_rfl
theorem Ag26:isAg (Tryz.prog.underlying 26)=true:=by rw [Tryz.underlying26]; rfl
theorem Sz26:(Tryz.prog.info? 26).map (·.size)=some 2:=by kernel_rfl
theorem Sz27:(Tryz.prog.info? 27).map (·.size)=some 1:=by kernel_rfl
theorem Ag29:isAg (Tryz.prog.underlying 29)=true:=by rw [Tryz.underlying29]; rfl
theorem Sz29:(Tryz.prog.info? 29).map (·.size)=some 7:=by kernel_rfl
theorem Ag32:isAg (Tryz.prog.underlying 32)=true:=by rw [Tryz.underlying32]; rfl
theorem Sz32:(Tryz.prog.info? 32).map (·.size)=some 2:=by kernel_rfl
theorem Ag36:isAg (Tryz.prog.underlying 36)=true:=by rw [Tryz.underlying36]; rfl
theorem Sz36:(Tryz.prog.info? 36).map (·.size)=some 3:=by kernel_rfl
theorem Ag38:isAg (Tryz.prog.underlying 38)=true:=by rw [Tryz.underlying38]; rfl
theorem Sz38:(Tryz.prog.info? 38).map (·.size)=some 2:=by kernel_rfl
theorem Sz50:(Tryz.prog.info? 50).map (·.size)=some 1:=by kernel_rfl
theorem Sz51:(Tryz.prog.info? 51).map (·.size)=some 1:=by kernel_rfl
theorem Ag53:isAg (Tryz.prog.underlying 53)=true:=by rw [Tryz.underlying53]; rfl
theorem Sz53:(Tryz.prog.info? 53).map (·.size)=some 7:=by kernel_rfl
theorem Ag72:isAg (Tryz.prog.underlying 72)=true:=by rw [Tryz.underlying72]; rfl
theorem Sz72:(Tryz.prog.info? 72).map (·.size)=some 2:=by kernel_rfl
theorem Ag105:isAg (Tryz.prog.underlying 105)=true:=by rw [Tryz.underlying105]; rfl
theorem Sz105:(Tryz.prog.info? 105).map (·.size)=some 3:=by kernel_rfl
theorem Ag106:isAg (Tryz.prog.underlying 106)=true:=by rw [Tryz.underlying106]; rfl
theorem Sz106:(Tryz.prog.info? 106).map (·.size)=some 2:=by kernel_rfl
theorem Sz108:(Tryz.prog.info? 108).map (·.size)=some 1:=by kernel_rfl
theorem Sz111:(Tryz.prog.info? 111).map (·.size)=some 1:=by kernel_rfl
theorem Sz123:(Tryz.prog.info? 123).map (·.size)=some 1:=by kernel_rfl
theorem Ag127:isAg (Tryz.prog.underlying 127)=true:=by rw [Tryz.underlying127]; rfl
theorem Sz127:(Tryz.prog.info? 127).map (·.size)=some 12:=by kernel_rfl
theorem Ag136:isAg (Tryz.prog.underlying 136)=true:=by rw [Tryz.underlying136]; rfl
theorem Sz136:(Tryz.prog.info? 136).map (·.size)=some 3:=by kernel_rfl
theorem Sz141:(Tryz.prog.info? 141).map (·.size)=some 1:=by kernel_rfl
theorem Sz149:(Tryz.prog.info? 149).map (·.size)=some 1:=by kernel_rfl
theorem Fd26_0:(Tryz.prog.underlying 26).bind (fun d=>match d with | .struct fs=>(fs[0]?).map (fun f=>(f.offset,f.type)) | _=>none)=some (0,3):=by rw [Tryz.underlying26]; rfl
theorem Fd26_1:(Tryz.prog.underlying 26).bind (fun d=>match d with | .struct fs=>(fs[1]?).map (fun f=>(f.offset,f.type)) | _=>none)=some (1,3):=by rw [Tryz.underlying26]; rfl
theorem Fd29_0:(Tryz.prog.underlying 29).bind (fun d=>match d with | .struct fs=>(fs[0]?).map (fun f=>(f.offset,f.type)) | _=>none)=some (0,22):=by rw [Tryz.underlying29]; rfl
theorem Fd29_1:(Tryz.prog.underlying 29).bind (fun d=>match d with | .struct fs=>(fs[1]?).map (fun f=>(f.offset,f.type)) | _=>none)=some (1,23):=by rw [Tryz.underlying29]; rfl
theorem Fd29_2:(Tryz.prog.underlying 29).bind (fun d=>match d with | .struct fs=>(fs[2]?).map (fun f=>(f.offset,f.type)) | _=>none)=some (2,22):=by rw [Tryz.underlying29]; rfl
theorem Fd29_3:(Tryz.prog.underlying 29).bind (fun d=>match d with | .struct fs=>(fs[3]?).map (fun f=>(f.offset,f.type)) | _=>none)=some (3,24):=by rw [Tryz.underlying29]; rfl
theorem Fd29_4:(Tryz.prog.underlying 29).bind (fun d=>match d with | .struct fs=>(fs[4]?).map (fun f=>(f.offset,f.type)) | _=>none)=some (4,26):=by rw [Tryz.underlying29]; rfl
theorem Fd29_5:(Tryz.prog.underlying 29).bind (fun d=>match d with | .struct fs=>(fs[5]?).map (fun f=>(f.offset,f.type)) | _=>none)=some (6,27):=by rw [Tryz.underlying29]; rfl
theorem Fd32_0:(Tryz.prog.underlying 32).bind (fun d=>match d with | .struct fs=>(fs[0]?).map (fun f=>(f.offset,f.type)) | _=>none)=some (0,3):=by rw [Tryz.underlying32]; rfl
theorem Fd32_1:(Tryz.prog.underlying 32).bind (fun d=>match d with | .struct fs=>(fs[1]?).map (fun f=>(f.offset,f.type)) | _=>none)=some (1,3):=by rw [Tryz.underlying32]; rfl
theorem Fd36_0:(Tryz.prog.underlying 36).bind (fun d=>match d with | .struct fs=>(fs[0]?).map (fun f=>(f.offset,f.type)) | _=>none)=some (0,3):=by rw [Tryz.underlying36]; rfl
theorem Fd36_1:(Tryz.prog.underlying 36).bind (fun d=>match d with | .struct fs=>(fs[1]?).map (fun f=>(f.offset,f.type)) | _=>none)=some (1,3):=by rw [Tryz.underlying36]; rfl
theorem Fd36_2:(Tryz.prog.underlying 36).bind (fun d=>match d with | .struct fs=>(fs[2]?).map (fun f=>(f.offset,f.type)) | _=>none)=some (2,3):=by rw [Tryz.underlying36]; rfl
theorem Fd38_0:(Tryz.prog.underlying 38).bind (fun d=>match d with | .struct fs=>(fs[0]?).map (fun f=>(f.offset,f.type)) | _=>none)=some (0,3):=by rw [Tryz.underlying38]; rfl
theorem Fd38_1:(Tryz.prog.underlying 38).bind (fun d=>match d with | .struct fs=>(fs[1]?).map (fun f=>(f.offset,f.type)) | _=>none)=some (1,22):=by rw [Tryz.underlying38]; rfl
theorem Fd53_0:(Tryz.prog.underlying 53).bind (fun d=>match d with | .struct fs=>(fs[0]?).map (fun f=>(f.offset,f.type)) | _=>none)=some (0,22):=by rw [Tryz.underlying53]; rfl
theorem Fd53_1:(Tryz.prog.underlying 53).bind (fun d=>match d with | .struct fs=>(fs[1]?).map (fun f=>(f.offset,f.type)) | _=>none)=some (1,23):=by rw [Tryz.underlying53]; rfl
theorem Fd53_2:(Tryz.prog.underlying 53).bind (fun d=>match d with | .struct fs=>(fs[2]?).map (fun f=>(f.offset,f.type)) | _=>none)=some (2,22):=by rw [Tryz.underlying53]; rfl
theorem Fd53_3:(Tryz.prog.underlying 53).bind (fun d=>match d with | .struct fs=>(fs[3]?).map (fun f=>(f.offset,f.type)) | _=>none)=some (3,50):=by rw [Tryz.underlying53]; rfl
theorem Fd53_4:(Tryz.prog.underlying 53).bind (fun d=>match d with | .struct fs=>(fs[4]?).map (fun f=>(f.offset,f.type)) | _=>none)=some (4,26):=by rw [Tryz.underlying53]; rfl
theorem Fd53_5:(Tryz.prog.underlying 53).bind (fun d=>match d with | .struct fs=>(fs[5]?).map (fun f=>(f.offset,f.type)) | _=>none)=some (6,51):=by rw [Tryz.underlying53]; rfl
theorem Fd72_0:(Tryz.prog.underlying 72).bind (fun d=>match d with | .struct fs=>(fs[0]?).map (fun f=>(f.offset,f.type)) | _=>none)=some (0,3):=by rw [Tryz.underlying72]; rfl
theorem Fd72_1:(Tryz.prog.underlying 72).bind (fun d=>match d with | .struct fs=>(fs[1]?).map (fun f=>(f.offset,f.type)) | _=>none)=some (1,3):=by rw [Tryz.underlying72]; rfl
theorem Fd105_0:(Tryz.prog.underlying 105).bind (fun d=>match d with | .struct fs=>(fs[0]?).map (fun f=>(f.offset,f.type)) | _=>none)=some (0,3):=by rw [Tryz.underlying105]; rfl
theorem Fd105_1:(Tryz.prog.underlying 105).bind (fun d=>match d with | .struct fs=>(fs[1]?).map (fun f=>(f.offset,f.type)) | _=>none)=some (1,3):=by rw [Tryz.underlying105]; rfl
theorem Fd105_2:(Tryz.prog.underlying 105).bind (fun d=>match d with | .struct fs=>(fs[2]?).map (fun f=>(f.offset,f.type)) | _=>none)=some (2,3):=by rw [Tryz.underlying105]; rfl
theorem Fd106_0:(Tryz.prog.underlying 106).bind (fun d=>match d with | .struct fs=>(fs[0]?).map (fun f=>(f.offset,f.type)) | _=>none)=some (0,3):=by rw [Tryz.underlying106]; rfl
theorem Fd106_1:(Tryz.prog.underlying 106).bind (fun d=>match d with | .struct fs=>(fs[1]?).map (fun f=>(f.offset,f.type)) | _=>none)=some (1,22):=by rw [Tryz.underlying106]; rfl
theorem Fd113_0:(Tryz.prog.underlying 113).bind (fun d=>match d with | .struct fs=>(fs[0]?).map (fun f=>(f.offset,f.type)) | _=>none)=some (0,29):=by rw [Tryz.underlying113]; rfl
theorem Fd113_1:(Tryz.prog.underlying 113).bind (fun d=>match d with | .struct fs=>(fs[1]?).map (fun f=>(f.offset,f.type)) | _=>none)=some (7,111):=by rw [Tryz.underlying113]; rfl
theorem Fd136_0:(Tryz.prog.underlying 136).bind (fun d=>match d with | .struct fs=>(fs[0]?).map (fun f=>(f.offset,f.type)) | _=>none)=some (0,3):=by rw [Tryz.underlying136]; rfl
theorem Fd136_1:(Tryz.prog.underlying 136).bind (fun d=>match d with | .struct fs=>(fs[1]?).map (fun f=>(f.offset,f.type)) | _=>none)=some (1,3):=by rw [Tryz.underlying136]; rfl
theorem Fd136_2:(Tryz.prog.underlying 136).bind (fun d=>match d with | .struct fs=>(fs[2]?).map (fun f=>(f.offset,f.type)) | _=>none)=some (2,4):=by rw [Tryz.underlying136]; rfl
theorem Fd143_0:(Tryz.prog.underlying 143).bind (fun d=>match d with | .struct fs=>(fs[0]?).map (fun f=>(f.offset,f.type)) | _=>none)=some (0,141):=by rw [Tryz.underlying143]; rfl
theorem Al3:(Tryz.prog.info? 3).map (·.zero)=some (some (I 0)):=by kernel_rfl
theorem Al4:(Tryz.prog.info? 4).map (·.zero)=some (some (B false)):=by kernel_rfl
theorem Al22:(Tryz.prog.info? 22).map (·.zero)=some (some (.slice none 0 0)):=by kernel_rfl
theorem Al23:(Tryz.prog.info? 23).map (·.zero)=some (some (.slice none 0 0)):=by kernel_rfl
theorem Al26:(Tryz.prog.info? 26).map (·.zero)=some (some (.agg #[I 0,I 0])):=by kernel_rfl
theorem Al29:(Tryz.prog.info? 29).map (·.zero)=some (some (.agg #[.slice none 0 0,.slice none 0 0,.slice none 0 0,.slice none 0 0,I 0,I 0,.slice none 0 0])):=by kernel_rfl
theorem Al32:(Tryz.prog.info? 32).map (·.zero)=some (some (.agg #[I 0,I 0])):=by kernel_rfl
theorem Al36:(Tryz.prog.info? 36).map (·.zero)=some (some (.agg #[I 0,I 0,I 0])):=by kernel_rfl
theorem Al38:(Tryz.prog.info? 38).map (·.zero)=some (some (.agg #[I 0,.slice none 0 0])):=by kernel_rfl
theorem Al53:(Tryz.prog.info? 53).map (·.zero)=some (some (.agg #[.slice none 0 0,.slice none 0 0,.slice none 0 0,.slice none 0 0,I 0,I 0,.slice none 0 0])):=by kernel_rfl
theorem Al72:(Tryz.prog.info? 72).map (·.zero)=some (some (.agg #[I 0,I 0])):=by kernel_rfl
theorem Al105:(Tryz.prog.info? 105).map (·.zero)=some (some (.agg #[I 0,I 0,I 0])):=by kernel_rfl
theorem Al106:(Tryz.prog.info? 106).map (·.zero)=some (some (.agg #[I 0,.slice none 0 0])):=by kernel_rfl
theorem Al108:(Tryz.prog.info? 108).map (·.zero)=some (some (.pointer none)):=by kernel_rfl
theorem Al113:(Tryz.prog.info? 113).map (·.zero)=some (some (.agg #[.slice none 0 0,.slice none 0 0,.slice none 0 0,.slice none 0 0,I 0,I 0,.slice none 0 0,.map none])):=by kernel_rfl
theorem Al123:(Tryz.prog.info? 123).map (·.zero)=some (some (.nilFunc)):=by kernel_rfl
theorem Al127:(Tryz.prog.info? 127).map (·.zero)=some (some (.agg #[B false,B false,B false,B false,B false,B false,B false,B false,B false,B false,B false,B false])):=by kernel_rfl
theorem Al136:(Tryz.prog.info? 136).map (·.zero)=some (some (.agg #[I 0,I 0,B false])):=by kernel_rfl
theorem Al141:(Tryz.prog.info? 141).map (·.zero)=some (some (.nilFunc)):=by kernel_rfl
theorem Al143:(Tryz.prog.info? 143).map (·.zero)=some (some (.agg #[.nilFunc])):=by kernel_rfl
theorem Al149:(Tryz.prog.info? 149).map (·.zero)=some (some (.nilFunc)):=by kernel_rfl
theorem Bd26 {fs:Array Field} (h:Tryz.prog.underlying 26=some (.struct fs)):fs.toList.mapM (fun f=>(Tryz.prog.info? f.type).map fun i=>(f.offset,i.size))=some [(0,1),(1,1)]:=by rw [Tryz.underlying26] at h; simp only [Option.some.injEq,TypeDesc.struct.injEq] at h; subst h; kernel_rfl
theorem Bd29 {fs:Array Field} (h:Tryz.prog.underlying 29=some (.struct fs)):fs.toList.mapM (fun f=>(Tryz.prog.info? f.type).map fun i=>(f.offset,i.size))=some [(0,1),(1,1),(2,1),(3,1),(4,2),(6,1)]:=by rw [Tryz.underlying29] at h; simp only [Option.some.injEq,TypeDesc.struct.injEq] at h; subst h; kernel_rfl
theorem Bd32 {fs:Array Field} (h:Tryz.prog.underlying 32=some (.struct fs)):fs.toList.mapM (fun f=>(Tryz.prog.info? f.type).map fun i=>(f.offset,i.size))=some [(0,1),(1,1)]:=by rw [Tryz.underlying32] at h; simp only [Option.some.injEq,TypeDesc.struct.injEq] at h; subst h; kernel_rfl
theorem Bd36 {fs:Array Field} (h:Tryz.prog.underlying 36=some (.struct fs)):fs.toList.mapM (fun f=>(Tryz.prog.info? f.type).map fun i=>(f.offset,i.size))=some [(0,1),(1,1),(2,1)]:=by rw [Tryz.underlying36] at h; simp only [Option.some.injEq,TypeDesc.struct.injEq] at h; subst h; kernel_rfl
theorem Bd38 {fs:Array Field} (h:Tryz.prog.underlying 38=some (.struct fs)):fs.toList.mapM (fun f=>(Tryz.prog.info? f.type).map fun i=>(f.offset,i.size))=some [(0,1),(1,1)]:=by rw [Tryz.underlying38] at h; simp only [Option.some.injEq,TypeDesc.struct.injEq] at h; subst h; kernel_rfl
theorem Bd53 {fs:Array Field} (h:Tryz.prog.underlying 53=some (.struct fs)):fs.toList.mapM (fun f=>(Tryz.prog.info? f.type).map fun i=>(f.offset,i.size))=some [(0,1),(1,1),(2,1),(3,1),(4,2),(6,1)]:=by rw [Tryz.underlying53] at h; simp only [Option.some.injEq,TypeDesc.struct.injEq] at h; subst h; kernel_rfl
theorem Bd72 {fs:Array Field} (h:Tryz.prog.underlying 72=some (.struct fs)):fs.toList.mapM (fun f=>(Tryz.prog.info? f.type).map fun i=>(f.offset,i.size))=some [(0,1),(1,1)]:=by rw [Tryz.underlying72] at h; simp only [Option.some.injEq,TypeDesc.struct.injEq] at h; subst h; kernel_rfl
theorem Bd113 {fs:Array Field} (h:Tryz.prog.underlying 113=some (.struct fs)):fs.toList.mapM (fun f=>(Tryz.prog.info? f.type).map fun i=>(f.offset,i.size))=some [(0,7),(7,1)]:=by rw [Tryz.underlying113] at h; simp only [Option.some.injEq,TypeDesc.struct.injEq] at h; subst h; kernel_rfl
theorem Bd136 {fs:Array Field} (h:Tryz.prog.underlying 136=some (.struct fs)):fs.toList.mapM (fun f=>(Tryz.prog.info? f.type).map fun i=>(f.offset,i.size))=some [(0,1),(1,1),(2,1)]:=by rw [Tryz.underlying136] at h; simp only [Option.some.injEq,TypeDesc.struct.injEq] at h; subst h; kernel_rfl
theorem Bd143 {fs:Array Field} (h:Tryz.prog.underlying 143=some (.struct fs)):fs.toList.mapM (fun f=>(Tryz.prog.info? f.type).map fun i=>(f.offset,i.size))=some [(0,1)]:=by rw [Tryz.underlying143] at h; simp only [Option.some.injEq,TypeDesc.struct.injEq] at h; subst h; kernel_rfl
theorem mixed:Tryz.prog.follows .mixedOrders=true:=by kernel_rfl

instance:TlC Tryz.prog 22 3 1 8 (I 0):=⟨T22⟩
instance:TlC Tryz.prog 23 26 2 16 (.agg #[I 0,I 0]):=⟨T23⟩
instance:TlC Tryz.prog 24 36 3 24 (.agg #[I 0,I 0,I 0]):=⟨T24⟩
instance:TlC Tryz.prog 27 38 2 32 (.agg #[I 0,.slice none 0 0]):=⟨T27⟩
instance:TlC Tryz.prog 33 32 2 16 (.agg #[I 0,I 0]):=⟨T33⟩
instance:TlC Tryz.prog 39 34 1 8 (.pointer none):=⟨T39⟩
instance:TlC Tryz.prog 44 22 1 24 (.slice none 0 0):=⟨T44⟩
instance:TlC Tryz.prog 50 105 3 24 (.agg #[I 0,I 0,I 0]):=⟨T50⟩
instance:TlC Tryz.prog 51 106 2 32 (.agg #[I 0,.slice none 0 0]):=⟨T51⟩
instance:TlC Tryz.prog 68 72 2 16 (.agg #[I 0,I 0]):=⟨T68⟩
instance:ScC Tryz.prog 3:=⟨Sc3⟩
instance:ScC Tryz.prog 4:=⟨Sc4⟩
instance:ScC Tryz.prog 22:=⟨Sc22⟩
instance:ScC Tryz.prog 23:=⟨Sc23⟩
instance:ScC Tryz.prog 24:=⟨Sc24⟩
instance:ScC Tryz.prog 27:=⟨Sc27⟩
instance:ScC Tryz.prog 34:=⟨Sc34⟩
instance:ScC Tryz.prog 50:=⟨Sc50⟩
instance:ScC Tryz.prog 51:=⟨Sc51⟩
instance:ScC Tryz.prog 97:=⟨Sc97⟩
instance:ScC Tryz.prog 102:=⟨Sc102⟩
instance:ScC Tryz.prog 108:=⟨Sc108⟩
instance:ScC Tryz.prog 111:=⟨Sc111⟩
instance:ScC Tryz.prog 122:=⟨Sc122⟩
instance:ScC Tryz.prog 123:=⟨Sc123⟩
instance:ScC Tryz.prog 141:=⟨Sc141⟩
instance:ScC Tryz.prog 149:=⟨Sc149⟩
instance:SzC Tryz.prog 3 1:=⟨Sz3⟩
instance:SzC Tryz.prog 4 1:=⟨Sz4⟩
instance:SzC Tryz.prog 22 1:=⟨Sz22⟩
instance:SzC Tryz.prog 23 1:=⟨Sz23⟩
instance:SzC Tryz.prog 24 1:=⟨Sz24⟩
instance:AgC Tryz.prog 26:=⟨Ag26⟩
instance:SzC Tryz.prog 26 2:=⟨Sz26⟩
instance:SzC Tryz.prog 27 1:=⟨Sz27⟩
instance:AgC Tryz.prog 29:=⟨Ag29⟩
instance:SzC Tryz.prog 29 7:=⟨Sz29⟩
instance:AgC Tryz.prog 32:=⟨Ag32⟩
instance:SzC Tryz.prog 32 2:=⟨Sz32⟩
instance:AgC Tryz.prog 36:=⟨Ag36⟩
instance:SzC Tryz.prog 36 3:=⟨Sz36⟩
instance:AgC Tryz.prog 38:=⟨Ag38⟩
instance:SzC Tryz.prog 38 2:=⟨Sz38⟩
instance:SzC Tryz.prog 50 1:=⟨Sz50⟩
instance:SzC Tryz.prog 51 1:=⟨Sz51⟩
instance:AgC Tryz.prog 53:=⟨Ag53⟩
instance:SzC Tryz.prog 53 7:=⟨Sz53⟩
instance:AgC Tryz.prog 72:=⟨Ag72⟩
instance:SzC Tryz.prog 72 2:=⟨Sz72⟩
instance:AgC Tryz.prog 105:=⟨Ag105⟩
instance:SzC Tryz.prog 105 3:=⟨Sz105⟩
instance:AgC Tryz.prog 106:=⟨Ag106⟩
instance:SzC Tryz.prog 106 2:=⟨Sz106⟩
instance:SzC Tryz.prog 108 1:=⟨Sz108⟩
instance:SzC Tryz.prog 111 1:=⟨Sz111⟩
instance:SzC Tryz.prog 123 1:=⟨Sz123⟩
instance:AgC Tryz.prog 127:=⟨Ag127⟩
instance:SzC Tryz.prog 127 12:=⟨Sz127⟩
instance:AgC Tryz.prog 136:=⟨Ag136⟩
instance:SzC Tryz.prog 136 3:=⟨Sz136⟩
instance:SzC Tryz.prog 141 1:=⟨Sz141⟩
instance:SzC Tryz.prog 149 1:=⟨Sz149⟩
instance:FdC Tryz.prog 26 0 0 3:=⟨Fd26_0⟩
instance:FdC Tryz.prog 26 1 1 3:=⟨Fd26_1⟩
instance:FdC Tryz.prog 29 0 0 22:=⟨Fd29_0⟩
instance:FdC Tryz.prog 29 1 1 23:=⟨Fd29_1⟩
instance:FdC Tryz.prog 29 2 2 22:=⟨Fd29_2⟩
instance:FdC Tryz.prog 29 3 3 24:=⟨Fd29_3⟩
instance:FdC Tryz.prog 29 4 4 26:=⟨Fd29_4⟩
instance:FdC Tryz.prog 29 5 6 27:=⟨Fd29_5⟩
instance:FdC Tryz.prog 32 0 0 3:=⟨Fd32_0⟩
instance:FdC Tryz.prog 32 1 1 3:=⟨Fd32_1⟩
instance:FdC Tryz.prog 36 0 0 3:=⟨Fd36_0⟩
instance:FdC Tryz.prog 36 1 1 3:=⟨Fd36_1⟩
instance:FdC Tryz.prog 36 2 2 3:=⟨Fd36_2⟩
instance:FdC Tryz.prog 38 0 0 3:=⟨Fd38_0⟩
instance:FdC Tryz.prog 38 1 1 22:=⟨Fd38_1⟩
instance:FdC Tryz.prog 53 0 0 22:=⟨Fd53_0⟩
instance:FdC Tryz.prog 53 1 1 23:=⟨Fd53_1⟩
instance:FdC Tryz.prog 53 2 2 22:=⟨Fd53_2⟩
instance:FdC Tryz.prog 53 3 3 50:=⟨Fd53_3⟩
instance:FdC Tryz.prog 53 4 4 26:=⟨Fd53_4⟩
instance:FdC Tryz.prog 53 5 6 51:=⟨Fd53_5⟩
instance:FdC Tryz.prog 72 0 0 3:=⟨Fd72_0⟩
instance:FdC Tryz.prog 72 1 1 3:=⟨Fd72_1⟩
instance:FdC Tryz.prog 105 0 0 3:=⟨Fd105_0⟩
instance:FdC Tryz.prog 105 1 1 3:=⟨Fd105_1⟩
instance:FdC Tryz.prog 105 2 2 3:=⟨Fd105_2⟩
instance:FdC Tryz.prog 106 0 0 3:=⟨Fd106_0⟩
instance:FdC Tryz.prog 106 1 1 22:=⟨Fd106_1⟩
instance:FdC Tryz.prog 113 0 0 29:=⟨Fd113_0⟩
instance:FdC Tryz.prog 113 1 7 111:=⟨Fd113_1⟩
instance:FdC Tryz.prog 136 0 0 3:=⟨Fd136_0⟩
instance:FdC Tryz.prog 136 1 1 3:=⟨Fd136_1⟩
instance:FdC Tryz.prog 136 2 2 4:=⟨Fd136_2⟩
instance:FdC Tryz.prog 143 0 0 141:=⟨Fd143_0⟩
instance:AlC Tryz.prog 3 (I 0):=⟨Al3⟩
instance:AlC Tryz.prog 4 (B false):=⟨Al4⟩
instance:AlC Tryz.prog 22 (.slice none 0 0):=⟨Al22⟩
instance:AlC Tryz.prog 23 (.slice none 0 0):=⟨Al23⟩
instance:AlC Tryz.prog 26 (.agg #[I 0,I 0]):=⟨Al26⟩
instance:AlC Tryz.prog 29 (.agg #[.slice none 0 0,.slice none 0 0,.slice none 0 0,.slice none 0 0,I 0,I 0,.slice none 0 0]):=⟨Al29⟩
instance:AlC Tryz.prog 32 (.agg #[I 0,I 0]):=⟨Al32⟩
instance:AlC Tryz.prog 36 (.agg #[I 0,I 0,I 0]):=⟨Al36⟩
instance:AlC Tryz.prog 38 (.agg #[I 0,.slice none 0 0]):=⟨Al38⟩
instance:AlC Tryz.prog 53 (.agg #[.slice none 0 0,.slice none 0 0,.slice none 0 0,.slice none 0 0,I 0,I 0,.slice none 0 0]):=⟨Al53⟩
instance:AlC Tryz.prog 72 (.agg #[I 0,I 0]):=⟨Al72⟩
instance:AlC Tryz.prog 105 (.agg #[I 0,I 0,I 0]):=⟨Al105⟩
instance:AlC Tryz.prog 106 (.agg #[I 0,.slice none 0 0]):=⟨Al106⟩
instance:AlC Tryz.prog 108 (.pointer none):=⟨Al108⟩
instance:AlC Tryz.prog 113 (.agg #[.slice none 0 0,.slice none 0 0,.slice none 0 0,.slice none 0 0,I 0,I 0,.slice none 0 0,.map none]):=⟨Al113⟩
instance:AlC Tryz.prog 123 (.nilFunc):=⟨Al123⟩
instance:AlC Tryz.prog 127 (.agg #[B false,B false,B false,B false,B false,B false,B false,B false,B false,B false,B false,B false]):=⟨Al127⟩
instance:AlC Tryz.prog 136 (.agg #[I 0,I 0,B false]):=⟨Al136⟩
instance:AlC Tryz.prog 141 (.nilFunc):=⟨Al141⟩
instance:AlC Tryz.prog 143 (.agg #[.nilFunc]):=⟨Al143⟩
instance:AlC Tryz.prog 149 (.nilFunc):=⟨Al149⟩
instance:BdC Tryz.prog 26 [(0,1),(1,1)]:=⟨_,Tryz.underlying26,Bd26 Tryz.underlying26⟩
instance:BdC Tryz.prog 29 [(0,1),(1,1),(2,1),(3,1),(4,2),(6,1)]:=⟨_,Tryz.underlying29,Bd29 Tryz.underlying29⟩
instance:BdC Tryz.prog 32 [(0,1),(1,1)]:=⟨_,Tryz.underlying32,Bd32 Tryz.underlying32⟩
instance:BdC Tryz.prog 36 [(0,1),(1,1),(2,1)]:=⟨_,Tryz.underlying36,Bd36 Tryz.underlying36⟩
instance:BdC Tryz.prog 38 [(0,1),(1,1)]:=⟨_,Tryz.underlying38,Bd38 Tryz.underlying38⟩
instance:BdC Tryz.prog 53 [(0,1),(1,1),(2,1),(3,1),(4,2),(6,1)]:=⟨_,Tryz.underlying53,Bd53 Tryz.underlying53⟩
instance:BdC Tryz.prog 72 [(0,1),(1,1)]:=⟨_,Tryz.underlying72,Bd72 Tryz.underlying72⟩
instance:BdC Tryz.prog 113 [(0,7),(7,1)]:=⟨_,Tryz.underlying113,Bd113 Tryz.underlying113⟩
instance:BdC Tryz.prog 136 [(0,1),(1,1),(2,1)]:=⟨_,Tryz.underlying136,Bd136 Tryz.underlying136⟩
instance:BdC Tryz.prog 143 [(0,1)]:=⟨_,Tryz.underlying143,Bd143 Tryz.underlying143⟩
end Go.Proofs.YtbldmjejckjflabGreat
namespace Go.Nm
open Go
abbrev encDm (d:Dem):Value:=.agg #[I d.spring,I d.town]
end Go.Nm
namespace Go.Proofs.YtbldmjejckjflabGreat
open Go Go.Nm Go.Proofs
theorem findAskDm {ν:Type} (k:Dem) (w:World):∀ (es:List MapEntry) (m:List (Dem × ν)) (venc:ν->Value) (j:Nat),es.map (fun e=>(e.key,e.val))=m.map (fun p=>(encDm p.1,venc p.2)) →
    (Instr.findAsking 32 (encDm k) es j).run Tryz.prog w = .ok ((idxM m k).bind fun i=>(es[i]?).map fun e=>(i+j,e.val)) w
  | [],[],_,_,_=>rfl
  | [],_ :: _,_,_,h=>by simp at h
  | _ :: _,[],_,_,h=>by simp at h
  | e :: es,p :: m,venc,j,h=>by
    simp only [List.map_cons,List.cons.injEq,Prod.mk.injEq] at h
    have ih:=findAskDm k w es m venc (j+1) h.2
    unfold Instr.findAsking
    rw [h.1.1]
    have he:=eqT32 k p.1 w
    unfold idxM
    by_cases hp:p.1=k
    · rw [if_pos hp]
      have:decide (k=p.1)=true:=by simp [hp]
      rw [this] at he
      simp [Op.equal,Op.maxDepth,he]
    · rw [if_neg hp]
      have:decide (k=p.1)=false:=by simp; exact fun e=>hp e.symm
      rw [this] at he
      simp only [Op.equal,Op.maxDepth,Sem.run_bind,he,Result.andThen_ok,Bool.false_eq_true,if_false,ih]
      cases hi:idxM m k with
      | none=>rfl
      | some i =>
        simp only [Option.map_some,Option.bind_some,List.getElem?_cons_succ]
        cases es[i]? with
        | none=>rfl
        | some e'=>simp; omega
theorem keyDem {ν:Type}:KeyL (ν:=ν) Tryz.prog 32 encDm:=by
  refine ⟨fun e w k=>?_,fun w es m venc k h=>?_,fun k=>?_⟩
  · have u3:=Tryz.underlying3
    have a3:=Tryz.isAgg3
    have z3:=Tryz.sizeOf3
    have h1:∀ (n:Nat) (x:Int),(Instr.checkKey e (n+1) 3 (I x)).run Tryz.prog w = .ok () w:=fun n x=>MapKept.run_checkKey u3 (show MapKept.IsKey (.int .i64) (I x) from rfl) e n
    have key:∀ n:Nat,(Instr.checkKey e (n+1+1) 32 (encDm k)).run Tryz.prog w = .ok () w:=by
      intro n
      rw [Instr.checkKey]
      simp only [Sem.run_bind,run_underlying Tryz.underlying32,Result.andThen_ok]
      rw [← Array.forIn_toList]
      simp only [List.forIn_cons,List.forIn_nil]
      go_simp
    exact key 9998
  · rw [run_findKey_eq w (by rw [Tryz.underlying32]),findAskDm k w es m venc 0 h]
    rfl
  · simp [Instr.sameBits]
end Go.Proofs.YtbldmjejckjflabGreat
namespace Go.Nm
open Go
theorem x_eqnilA {P:Program} {w:World} {σ:Env} {d:Nat} {ty:TypeId} {pos:String} {af:Array Edge} {g:Option (Nat × Bool)} {t e yt:TypeId} {x y:Operand} {a:Option Addr} {n c:Nat} (ht:P.underlying t=some (.slice e)) (hx:ev σ x = .slice a n c) (hy:ev σ y = .slice none 0 0) :
    (execOp (ev σ) ⟨some d,.binOp .eql t x y yt,ty,pos,af,g⟩).run P w = .ok (.value (.bool a.isNone)) w:=by
  simp [execOp,hx,hy,eqGuard,binOp,run_equal_slice_nil w t e a n c ht]
end Go.Nm
namespace Go.Proofs.YtbldmjejckjflabGreat
open Go Go.Nm
set_option maxRecDepth 100000 in
theorem clone_any {R:List Chunk} {C_s:Cells} {v_s:Value} (s:List Int) (hC_s:Reads R C_s) (hs_s:Sl C_s v_s s) (hlen:s.length*8<=140737488355328) (w:World) (hsep:Sep w R) :
    Ret Tryz.prog 71 #[v_s] w fun v w'=>St w w' [cOwn (α:=Int) 3 v s] R:=by
 have H:St w w [] R:=St.refl hsep
 obtain ⟨a,c,hv,hc,hm,hk⟩:=hs_s.ex
 refine ret_of_W Tryz.func71 rfl rfl rfl ?_
 refine W.seq ?_
 refine W.region rfl ?_
 refine s_val (x_as (v:=.slice none 0 0) rfl) ?_
 refine s_nil ?_
 refine W.seq ?_
 refine W.seq ?_
 refine W.region rfl ?_
 refine s_val (x_mv (v:=v_s) rfl) ?_
 refine s_val (v:=B a.isNone) (x_eqnilA (a:=a) (n:=s.length) (c:=c) Tryz.underlying22 hv rfl) ?_
 refine s_nil ?_
 refine W.cond a.isNone rfl (fun h=>?_) (fun h=>?_)
 ·have e:s=[]:=by
   cases s with
   | nil=>rfl
   | cons x s =>
    obtain ⟨b,o,cs,ha,_⟩:=hk 0 x rfl
    subst ha
    cases h
  subst e
  refine W.seq ?_
  refine W.region rfl ?_
  refine s_val (x_as (v:=.slice none 0 0) rfl) ?_
  refine s_nil ?_
  refine W.ret ?_
  exact ⟨_,resE_tmp rfl,H.nilOwn (α:=Int) 3⟩
 ·refine W.skip ?_
  refine W.seq ?_
  refine W.region rfl ?_
  refine t_bs0 (α:=Int) T22 H ?_
  intro v3z w4z H
  refine s_val (x_mv (v:=v_s) rfl) ?_
  refine t_app (α:=Int) (k:=0) (l:=[]) (l2:=s) (l':=s) (vy:=v_s) T22 rfl H rfl rfl rfl hs_s (hC_s.at H) (List.nil_append _) (by simp only [List.length_nil]; omega) ?_
  intro v6z w7z H
  refine s_val (x_as (v:=v6z) rfl) ?_
  refine s_nil ?_
  refine W.ret ?_
  exact ⟨_,resE_tmp rfl,H⟩
end Go.Proofs.YtbldmjejckjflabGreat
section
set_option maxRecDepth 100000
set_option maxHeartbeats 16000000
namespace Go.Proofs.YtbldmjejckjflabGreat
open Go Go.Nm
attribute [local irreducible] gd execOp SL SLD SLT WR
def zaE (ac:List Int) (ae:List Span) (ag:List Int) (ah:List Town) (aa ab:Int) (ai:List Flood) (station:Int):M (Int × Int × Int) :=
  M.pure (station,aa,ab)
theorem zaV {R:List Chunk} {aj:Cells} {aa:Value} {ak:Cells} {ab:Value} {al:Cells} {ac:Value} {am:Cells} {ae:Value} {ao:Cells} {ag:Value} (ap:List Int) (aq:List Span) (au:List Int) (av:List Town) (ah:Int) (ai:Int) (aw:List Flood) (station:Int) (aC:Reads R aj) (aD:Sl aj aa ap) (aE:Reads R ak) (aF:Sl ak ab aq) (aG:Reads R al) (aH:Sl al ac au) (aI:Reads R am) (aJ:Sl am ae av) (aK:Reads R ao) (aL:Sl ao ag aw) {r:(Int × Int × Int)} (hM:(zaE ap aq au av ah ai aw station).Ends r) (w:World) (H:St w w [] R):Ret Tryz.prog 51 #[.agg #[aa,ab,ac,ae,I ah,I ai,ag],I station] w fun v w'=>∃ (y0:Int) (y1:Int) (y2:Int) (ax:Nat) (ay:Nat),(y0,y1,y2)=r/\v = .func (.func 95) #[] #[Pq ax,Pq ay]/\St w w' [cBlk ax [I y0] 3,cBlk ay [aa,ab,ac,ae,I y1,I y2,ag] 29] R:=by
 refine ret_of_W Tryz.func51 rfl rfl rfl ?_;refine kg 2 ?_;refine t_bx [aa,ab,ac,ae,I ah,I ai,ag] H rfl ?_;intro az aM H;refine t_b1 (I station) H rfl rfl ?_;intro aA aN H;refine kg 4 ?_;refine s_val (x_mf (fs:=[]) (cs:=[Pq aA,Pq az]) rfl rfl) ?_;refine kg 2 ?_;refine W.ret ?_
 have aB:=M.e_pure hM
 exact ⟨_,resE_tmp rfl,⟨station,ah,ai,aA,az,aB,rfl,H⟩⟩

def zb7 {T_:Type} (ab:T_->(Int × Int)->M (Bool × T_)) (aa:List Int):(Int × Nat × T_)->M ((Int × Nat × T_) ⊕ ((T_ × Int) ⊕ (T_ × Int))):=fun (s,s2,t2) =>
  bif ((s != (-1))&&(decide (s<(aa.length:Int)))) then (
  M.bind (ab t2 ((s2:Int),s)) fun (go,t) =>
  bif !go then (
  M.pure (.inr (.inl (t,s))))
  else (
  M.grd (decide ((0:Int)<=s)&&decide (s<(aa.length:Int))) <|
  M.grd (decide ((-9223372036854775808:Int)<=((s2:Int)+1))&&decide (((s2:Int)+1)<=(9223372036854775807:Int))) <|
  M.pure (.inl (aa.getD (Int.toNat s) 0,s2+1,t))))
  else (
  M.pure (.inr (.inr (t2,s))))
def zaG {T_:Type} (aa:T_->(Int × Int)->M (Bool × T_)) (t_:T_) (ab:Int) (ac:List Int) (ae:List Span) (ag:List Int) (ah:List Town) (ai k15:Int) (aj:List Flood):M (T_ × Int) :=
  M.bind (M.iter (zb7 aa ac) (ab,0,t_)) fun x_=>match x_ with
  | (.inl (t3,s3))=>(
  M.pure (t3,s3))
  | (.inr (t4,s4))=>(
  M.pure (t4,s4))
theorem zaS {R:List Chunk} {T_:Type} {Y_:T_->List Chunk->Prop} {ac:Value} {ae:List Chunk} {ab:Nat} {ag:Nat} {ap:Cells} {aq:Value} {au:Cells} {av:Value} {aw:Cells} {ax:Value} {ay:Cells} {az:Value} {aA:Cells} {aB:Value} (ah:T_->(Int × Int)->M (Bool × T_)) (t_:T_) (ai:Int) (aa:List Int) (aC:List Span) (aD:List Int) (aE:List Town) (aF:Int) (k15:Int) (aG:List Flood) (aL:YieldC Tryz.prog R arII Y_ ac ah) (aM:Y_ t_ ae) (aU:Reads R ap) (aN:Sl ap aq aa) (aV:Reads R au) (aW:Sl au av aC) (aX:Reads R aw) (aY:Sl aw ax aD) (aZ:Reads R ay) (a6:Sl ay az aE) (a7:Reads R aA) (a8:Sl aA aB aG) (ba:Has R (cBlk ag [aq,av,ax,az,I aF,I k15,aB] 29)) {r:(T_ × Int)} (hM:(zaG ah t_ ai aa aC aD aE aF k15 aG).Ends r) (w:World) (H:St w w [cAll ae,cBlk ab [I ai] 3] R):Ret Tryz.prog 95 #[ac,Pq ab,Pq ag] w fun v w'=>∃ (y0:T_) (y1:Int) (Ls0:List Chunk),(y0,y1)=r/\v = .tuple #[]/\St w w' [cAll Ls0,cBlk ab [I y1] 3] R/\Y_ y0 Ls0:=by
 refine ret_of_W Tryz.func95 rfl rfl rfl ?_;refine kg 5 ?_;obtain ⟨aO,aj,aH⟩:=M.e_bind hM
 obtain ⟨bb,aj⟩:=M.e_iter aj
 refine W.loop (fun m σ W=>∃ (s:Int) (s2:Nat) (t2:T_) (Ls_t2:List Chunk) (ρ:Env),σ=upds ρ [(0,ac),(1,Pq ab),(2,Pq ag),(4,I (s2:Int))]/\M.iterN (zb7 ah aa) m (s,s2,t2)=some aO/\St w W [cAll Ls_t2,cBlk ab [I s] 3] R/\Y_ t2 Ls_t2) ?_ ?_
 ·exact ⟨_,ai,0,t_,ae,_,upds_of _ _ ⟨rfl,rfl,rfl,rfl,trivial⟩,aj,H,aM⟩
 rintro bc σ bf ⟨s,s2,t2,Ls_t2,ρ,rfl,aI,H,hY_t2⟩
 obtain ⟨aP,aQ,bg,hM,ak⟩:=M.e_iterN aI
 simp only [zb7] at hM
 clear aI
 have bh:=(aN).len_le
 refine kg 11 ?_;refine s_val (x_pand (b:=s != (-1)) (r:=decide (s<(aa.length:Int))) rfl (fun hb=>gd_of (c:=s != (-1)) (by first | exact hb | (rw [hb]; rfl) | simp_all) (B (decide (s<(aa.length:Int))))) rfl)<|s_nil ?_
 refine W.cond ((s != (-1))&&(decide (s<(aa.length:Int)))) rfl (fun al=>?_) (fun al=>?_)
 ·replace hM:=M.e_t hM al;refine kg 9 ?_
  obtain ⟨⟨go,t⟩,aR,hM⟩:=M.e_bind hM
  (try dsimp only at hM);refine t_yield (L:=[cBlk ab [I s] 3]) H aL hY_t2 rfl [I (s2:Int),I s] rfl ((s2:Int),s) Reads.none rfl aR ?_;intro aJ bi aK H;replace H:=H.nf;refine kg 2 ?_
  refine W.cond (!go) rfl (fun am=>?_) (fun am=>?_)
  ·replace hM:=M.e_t hM am;refine W.ret ?_
   have aS:=M.e_inr hM ak
   subst aS;replace hM:=aH;(try dsimp only at hM)
   have ao:=M.e_pure hM
   exact ⟨_,resE_tmp0 rfl,⟨t,s,aJ,ao,rfl,H,aK⟩⟩
  replace hM:=M.e_f hM am;obtain ⟨bj,hM⟩:=M.e_gd hM;refine kg 7 ?_;refine t_sw 1 0 [I (aa.getD (Int.toNat s) 0)] (I (aa.getD (Int.toNat s) 0)) H rfl rfl Sz3 rfl rfl rfl rfl ?_;intro bm H;obtain ⟨bn,hM⟩:=M.e_gd hM;refine kg 6 ?_
  exact ⟨aP,aQ,aa.getD (Int.toNat s) 0,s2+1,t,aJ,_,upds_of _ _ ⟨rfl,rfl,rfl,rfl,trivial⟩,M.e_inl hM ak,H,aK⟩
 replace hM:=M.e_f hM al;refine W.exit ?_
 have aT:=M.e_inr hM ak
 subst aT;replace hM:=aH;(try dsimp only at hM)
 have ao:=M.e_pure hM
 exact ⟨_,resE_tmp0 rfl,⟨t2,s,Ls_t2,ao,rfl,H,hY_t2⟩⟩
def zcz (l:List Span):(Int × Int × Nat)->M ((Int × Int × Nat) ⊕ (Int × Int)):=fun (s,s2,s3) =>
  bif decide ((s3:Int)<(l.length:Int)) then (
  M.grd (decide ((s3:Int)<(l.length:Int))) <|
  M.grd (decide ((-9223372036854775808:Int)<=(s+((l.getD s3 default).lo)))&&decide ((s+((l.getD s3 default).lo))<=(9223372036854775807:Int))) <|
  M.grd (decide ((-9223372036854775808:Int)<=(s2+((l.getD s3 default).hi)))&&decide ((s2+((l.getD s3 default).hi))<=(9223372036854775807:Int))) <|
  M.pure (.inl (s+((l.getD s3 default).lo),s2+((l.getD s3 default).hi),s3+1)))
  else (
  M.pure (.inr (s,s2)))
def zci (l:List Span):M (Int × Int) :=
  M.bind (M.iter (zcz l) (0,0,0)) fun (s4,s5) =>
  M.pure (s4,s5)
theorem zdw {R:List Chunk} {ae:Cells} {ab:Value} (l:List Span) (aw:Reads R ae) (ak:Sl ae ab l) {r:(Int × Int)} (hM:(zci l).Ends r) (w:World) (H:St w w [] R):Ret Tryz.prog 65 #[ab] w fun v w'=>∃ (y0:Int) (y1:Int),(y0,y1)=r/\v = .agg #[I y0,I y1]/\St w w' [] R:=by
 refine ret_of_W Tryz.func65 rfl rfl rfl ?_;refine kg 2 ?_;refine t_alloc (cs:=[I 0,I 0]) H Al26 rfl ?_;intro ag ax H;refine kg 3 ?_;refine t_alloc (cs:=[I 0,I 0]) H Al26 rfl ?_;intro ah ay H
 have az:=(ak).len_le
 refine kg 9 ?_;obtain ⟨al,ac,am⟩:=M.e_bind hM
 obtain ⟨aA,ac⟩:=M.e_iter ac
 refine W.loop (fun m σ W=>∃ (s:Int) (s2:Int) (s3:Nat) (ρ:Env),σ=upds ρ [(2,Pq ag),(3,Pq ah),(6,ab),(7,I (l.length:Int)),(8,I (s3:Int))]/\M.iterN (zcz l) m (s,s2,s3)=some al/\St w W [cBlk ah [I s,I s2] 26,cBlk ag [I 0,I 0] 26] R) ?_ ?_
 ·exact ⟨_,0,0,0,_,upds_of _ _ ⟨rfl,rfl,rfl,rfl,rfl,trivial⟩,ac,H⟩
 rintro aB σ aC ⟨s,s2,s3,ρ,rfl,ai,H⟩
 obtain ⟨ao,ap,aD,hM,aj⟩:=M.e_iterN ai
 simp only [zcz] at hM
 clear ai;refine kg 5 ?_
 refine W.cond (decide ((s3:Int)<(l.length:Int))) rfl (fun aa=>?_) (fun aa=>?_)
 ·replace hM:=M.e_t hM aa
  replace aa:=dI aa
  obtain ⟨aE,hM⟩:=M.e_gd hM;refine kg 7 ?_;refine t_alloc (cs:=[I 0,I 0]) H Al26 rfl ?_;intro aF aG H;refine t_sw 0 0 [I ((l.getD s3 default).lo),I ((l.getD s3 default).hi)] (.agg #[I ((l.getD s3 default).lo),I ((l.getD s3 default).hi)]) H rfl rfl Sz26 rfl rfl rfl rfl ?_;intro aH H;obtain ⟨aI,hM⟩:=M.e_gd hM;obtain ⟨aJ,hM⟩:=M.e_gd hM;refine kg 12 ?_;refine s_val (x_bld (ps:=[(0,I (s+((l.getD s3 default).lo))),(1,I (s2+((l.getD s3 default).hi)))]) (zs:=[I 0,I 0]) (L':=[I (s+((l.getD s3 default).lo)),I (s2+((l.getD s3 default).hi))]) rfl Tryz.underlying26 Al26 rfl (Bd26 Tryz.underlying26) (.cons (cs:=[I (s+((l.getD s3 default).lo))]) rfl rfl rfl rfl rfl<|.cons (cs:=[I (s2+((l.getD s3 default).hi))]) rfl rfl rfl rfl rfl<|.nil)) ?_;refine t_sw 1 0 [I (s+((l.getD s3 default).lo)),I (s2+((l.getD s3 default).hi))] (.agg #[I (s+((l.getD s3 default).lo)),I (s2+((l.getD s3 default).hi))]) H rfl rfl Sz26 rfl rfl rfl rfl ?_;intro aK H;refine kg 5 ?_
  exact ⟨ao,ap,s+((l.getD s3 default).lo),s2+((l.getD s3 default).hi),s3+1,_,upds_of _ _ ⟨rfl,rfl,rfl,rfl,rfl,trivial⟩,M.e_inl hM aj,(H.pk [1,2])⟩
 replace hM:=M.e_f hM aa
 replace aa:=dI aa
 refine W.exit ?_
 have aq:=M.e_inr hM aj
 subst aq;replace hM:=am;(try dsimp only at hM);refine kg 3 ?_;refine t_sw 1 0 [I s,I s2] (.agg #[I s,I s2]) H rfl rfl Sz26 rfl rfl rfl rfl ?_;intro aL H;refine s_nil ?_;refine W.ret ?_
 have au:=(H.bl 1)
 have av:=M.e_pure hM
 exact ⟨_,(resE_of1 (v:=.agg #[I s,I s2]) rfl (.cell (v:=.agg #[I s,I s2]) rfl (run_loadVar_ag (ds:=[I s,I s2]) Ag26 Sz26 au rfl rfl)<|.nil)),⟨s,s2,av,rfl,(H.pk [])⟩⟩

def zaL (aa:List Span) (ab:Int):(List Span)->(Int × Int)->M ((List Span) ⊕ ((List Span) × (List Span) × Int × Int)):=fun l (x,x2) =>
  bif x2==ab then (
  M.bind (zci l) fun (r0,r1) =>
  M.pure (.inr (l,l,r0,r1)))
  else (
  M.grd (decide ((0:Int)<=x2)&&decide (x2<(aa.length:Int))) <|
  M.grd (decide ((l.length+([(aa.getD (Int.toNat x2) default)]).length)*16<=140737488355328)) <|
  M.pure (.inl (l++([(aa.getD (Int.toNat x2) default)]))))
def zaR (ab:List Int) (aa:List Span) (ac:List Int) (ae:List Town) (ah ai:Int) (ag:List Flood) (aj ak:Int):M (Int × Int × Bool) :=
  M.bind (zaE ab aa ac ae ah ai ag aj) fun (al,am,ao) =>
  M.bind (zaG (M.yl (zaL aa ak)) (.inl ([])) al ab aa ac ae am ao ag) fun x_=>match x_ with
  | (.inl l,q0)=>(
  M.pure (0,0,false))
  | (.inr (l2,l3,s,s2),q0)=>(
  M.pure (s,s2,true))
theorem zbt {R:List Chunk} {ao:Nat} {ba:Cells} {ah:Value} {bb:Cells} {ai:Value} {bc:Cells} {aj:Value} {bf:Cells} {ak:Value} {bg:Cells} {al:Value} {bj:Nat} (aH:List Int) (aa:List Span) (aI:List Int) (aJ:List Town) (aB:Int) (aC:Int) (aK:List Flood) (aL:Int) (ab:Int) (aM:Reads R ba) (aU:Sl ba ah aH) (aN:Reads R bb) (aV:Sl bb ai aa) (aO:Reads R bc) (aW:Sl bc aj aI) (aP:Reads R bf) (aX:Sl bf ak aJ) (aQ:Reads R bg) (aY:Sl bg al aK) (aZ:Has R (cBlk ao [ah,ai,aj,ak,I aB,I aC,al,.map (some bj)] 113)) {r:(Int × Int × Bool)} (hM:(zaR aH aa aI aJ aB aC aK aL ab).Ends r) (w:World) (H:St w w [] R):Ret Tryz.prog 63 #[Pq ao,I aL,I ab] w fun v w'=>∃ (y0:Int) (y1:Int) (y2:Bool),(y0,y1,y2)=r/\v = .tuple #[.agg #[I y0,I y1],B y2]/\St w w' [] R:=by
 refine ret_of_WD Tryz.func63 rfl rfl rfl ?_
 replace H:St w w [cMk ([])] R:=H.mk0
 have bE:=aU.len_le
 have bF:=aV.len_le
 have bG:=aW.len_le
 have bH:=aX.len_le
 have bI:=aY.len_le
 unfold zaR at hM
 refine WD.seq<|WD.of<|W.region rfl ?_;refine t_b1 (Pq ao) H rfl rfl ?_;intro ay bJ H;refine t_b1 (I ab) H rfl rfl ?_;intro az bK H;refine t_alloc (cs:=[I 0,I 0]) H Al26 rfl ?_;intro ac bL H;refine t_alloc (cs:=[B false]) H Al4 rfl ?_;intro ae bM H;refine s_nil<|WD.seq<|WD.of<|W.region rfl ?_;refine t_alloc (cs:=[.slice none 0 0]) H Al23 rfl ?_;intro am bN H;refine s_nil<|WD.seq<|WD.seq<|WD.of ?_;refine kg 4 ?_;refine s_val (x_ld (v:=.agg #[ah,ai,aj,ak,I aB,I aC,al]) rfl (ldb_ag (ds:=[ah,ai,aj,ak,I aB,I aC,al]) Ag29 Sz29 (aZ.blk H) rfl rfl)) ?_;refine kg 1 ?_;obtain ⟨bO,bm,hM⟩:=M.e_bind hM;refine s_call cf51 [.agg #[ah,ai,aj,ak,I aB,I aC,al],I aL] rfl (zaV aH aa aI aJ aB aC aK aL (aM.app _) aU (aN.app _) aV (aO.app _) aW (aP.app _) aX (aQ.app _) aY bm _ (H.gt 6)) ?_
 rintro vq bP ⟨aR,ap,aq,aD,au,rfl,hvq,av⟩
 subst vq;(try dsimp only at hM);replace H:=H.bk av;clear av;refine s_nil<|WD.block ?_
 replace H:=H.nilOwn (α:=Span) 26
 obtain ⟨bQ,bn,hM⟩:=M.e_bind hM;refine WD.range (L:=[cOwn (α:=Span) 26 (.slice none 0 0) ([]),cBlk am [(.slice none 0 0)] 23,cBlk ae [B false] 4,cBlk ac [I 0,I 0] 26,cBlk au [ah,ai,aj,ak,I ap,I aq,al] 29,cBlk az [I ab] 3,cBlk ay [Pq ao] 108,cBlk aD [I aR] 3]) [Pq aD,Pq au] (H.pk [8,0,3,4,5,2,6,7,1]) rfl cf95 ?_;intro aS aT a6 bo a7 H
 have hYC:YieldC Tryz.prog ([cMk (aT :: ([])),cBlk au [ah,ai,aj,ak,I ap,I aq,al] 29,cBlk az [I ab] 3,cBlk ay [Pq ao] 108]++R) arII (yJ aS a6 (fun l aw=>∃ (ag:Value),aw=[cOwn (α:=Span) 26 ag l,cBlk am [ag] 23,cBlk ae [B false] 4,cBlk ac [I 0,I 0] 26]) (fun (l2,l3,s,s2) aw=>∃ (ax:Value),aw=[cOwn (α:=Span) 26 ax l3,cBlk am [ax] 23,cBlk ae [B true] 4,cBlk ac [I s,I s2] 26]) (fun _=>.ret)) (.func (.yield aS) #[] #[]) (M.yl (zaL aa ab)):=by
  refine YieldC.mk a7 (fun l aw=>∃ (ag:Value),aw=[cOwn (α:=Span) 26 ag l,cBlk am [ag] 23,cBlk ae [B false] 4,cBlk ac [I 0,I 0] 26]) (fun (l2,l3,s,s2) aw=>∃ (ax:Value),aw=[cOwn (α:=Span) 26 ax l3,cBlk am [ax] 23,cBlk ae [B true] 4,cBlk ac [I s,I s2] 26]) (fun _=>.ret) (zaL aa ab) (by rintro l _ h_; obtain ⟨_,rfl⟩:=h_; rfl) (by rintro ⟨l2,l3,s,s2⟩ _ h_; (obtain ⟨_,rfl⟩:=h_; rfl)) rfl (arII_len rfl) ?_;intro C_ bR x_ W_ bp
  obtain ⟨x,x2⟩:=x_
  obtain rfl:=bp
  refine kg 3 ?_
  refine ⟨rfl,rfl,?_⟩
  intro w R aE aw s_ r br hM H
  skip
  obtain ⟨l,bt⟩:∃ y_,y_=s_:=⟨_,rfl⟩
  subst bt
  obtain ⟨ag,rfl⟩:=br
  replace aM:=aM.sub aE
  replace aN:=aN.sub aE
  replace aO:=aO.sub aE
  replace aP:=aP.sub aE
  replace aQ:=aQ.sub aE
  replace aZ:=aZ.sub aE
  replace hM:(zaL aa ab l (x,x2)).Ends r:=hM
  simp only [zaL] at hM
  replace H:=H.pk [0,1,2,3,5,6,7,4];refine kg 8 ?_
  refine W.cond (x2==ab) rfl (fun aA=>?_) (fun aA=>?_)
  ·replace hM:=M.e_t hM aA
   replace aA:=dI aA
   refine kg 3 ?_;obtain ⟨bS,bu,hM⟩:=M.e_bind hM;refine s_call cf65 [ag] rfl (zdw l (rdo 0) (H.os 0) bu _ (H.gt 8)) ?_
   rintro vq bT ⟨r0,r1,rfl,hvq,av⟩
   subst vq;(try dsimp only at hM);replace H:=H.bk av;clear av;refine t_sw 3 0 [I r0,I r1] (.agg #[I r0,I r1]) H rfl rfl Sz26 rfl rfl rfl rfl ?_;intro bU H;refine t_sw 2 0 [B true] (B true) H rfl rfl Sz4 rfl rfl rfl rfl ?_;intro bV H;refine s_nil ?_;refine W.ret ?_
   exact ⟨(l,l,r0,r1),[cOwn (α:=Span) 26 ag l,cBlk am [ag] 23,cBlk ae [B true] 4,cBlk ac [I r0,I r1] 26],(M.e_pure hM).symm,⟨ag,rfl⟩,H.pick [0,1,2,3,7,4,5,6] (by decide) rfl,rfl⟩
  replace hM:=M.e_f hM aA
  replace aA:=dI aA
  refine W.skip ?_;refine W.drawT (fun W=>St w W [cBlk ae [B false] 4,cBlk ac [I 0,I 0] 26,cBlk au [ah,ai,aj,ak,I ap,I aq,al] 29,cBlk az [I ab] 3,cBlk ay [Pq ao] 108,cMk (aT :: ([]))] R) (.q 1 (.q 2 (.q 3 (.q 4 (.q 5 (.q 6 (.q 7 (.q 8 (.l2 0 (.l 9 (.l 10 (.l 11 .nil))) 9 (.l 0 (.l 10 (.l 11 .nil)))))))))))) mixed (by decide +kernel) rfl ?_;intro bW bh;replace H:=H.ext bh;clear bh
  refine ⟨(H.pk [2,3,4,5,6,7]),?_⟩
  obtain ⟨bX,hM⟩:=M.e_gd hM;obtain ⟨bY,hM⟩:=M.e_gd hM;refine kg 8 ?_;refine t_l2 rfl rfl ?_ ?_
  ·skip
   refine kg 1 ?_
   have bZ:=Sl.cells (H.os 0)
   have b0:=Sl.oc (H.os 0)
   refine s_nil ⟨(H.pk [2,3,4,5,6,7]),?_⟩
   refine t_l rfl ?_;refine t_bs (α:=Span) T23 [.agg #[I ((aa.getD (Int.toNat x2) default).lo),I ((aa.getD (Int.toNat x2) default).hi)]] [(aa.getD (Int.toNat x2) default)] H rfl (.cons rfl (Flat.rep_enc _ (aa.getD (Int.toNat x2) default))<|.nil) rfl rfl rfl ?_;intro bv b1 H
   have b2:=Sl.cells (H.os 0)
   have b3:=Sl.oc (H.os 0)
   refine s_nil ⟨(H.pk [3,4,5,6,7,8]),?_⟩
   refine t_l rfl ?_;refine t_app (α:=Span) (k:=1) (l:=l) (l2:=[(aa.getD (Int.toNat x2) default)]) (l':=l++([(aa.getD (Int.toNat x2) default)])) (vy:=bv) T23 rfl H rfl rfl rfl (H.os 0) (H.ol 0) (rfl) (by first | omega | (simp only [List.length_nil] at *; omega)) ?_;intro aF b4 H;replace H:=H.nf
   have b5:=Sl.cells (H.os 1)
   have b6:=Sl.oc (H.os 1)
   refine s_nil ⟨(H.pk [3,4,5,6,7,8]),?_⟩
   refine t_l rfl ?_;refine t_sw 2 0 [aF] aF H rfl rfl Sz23 (Sl.cells (H.os 1)) rfl rfl (by simp only [List.all_cons,List.all_nil,Bool.true_and,Bool.and_true,Sl.oc (H.os 1)]; try rfl) ?_;intro b7 H
   refine s_nil ⟨(H.pk [3,4,5,6,7,8]),?_⟩
   refine t_nil ?_
   exact ⟨l++([(aa.getD (Int.toNat x2) default)]),[cOwn (α:=Span) 26 aF (l++([(aa.getD (Int.toNat x2) default)])),cBlk am [aF] 23,cBlk ae [B false] 4,cBlk ac [I 0,I 0] 26],(M.e_pure hM).symm,⟨aF,rfl⟩,H.pick [1,2,3,4,8,5,6,7] (by decide) rfl⟩
  skip
  refine t_bs (α:=Span) T23 [.agg #[I ((aa.getD (Int.toNat x2) default).lo),I ((aa.getD (Int.toNat x2) default).hi)]] [(aa.getD (Int.toNat x2) default)] H rfl (.cons rfl (Flat.rep_enc _ (aa.getD (Int.toNat x2) default))<|.nil) rfl rfl rfl ?_;intro bw b8 H
  have b9:=Sl.cells (H.os 0)
  have ca:=Sl.oc (H.os 0)
  have cb:=Sl.cells (H.os 1)
  have cc:=Sl.oc (H.os 1)
  refine s_nil ⟨(H.pk [3,4,5,6,7,8]),?_⟩
  refine t_l rfl ?_;refine kg 1 ?_
  refine s_nil ⟨(H.pk [3,4,5,6,7,8]),?_⟩
  refine t_l rfl ?_;refine t_app (α:=Span) (k:=1) (l:=l) (l2:=[(aa.getD (Int.toNat x2) default)]) (l':=l++([(aa.getD (Int.toNat x2) default)])) (vy:=bw) T23 rfl H rfl rfl rfl (H.os 0) (H.ol 0) (rfl) (by first | omega | (simp only [List.length_nil] at *; omega)) ?_;intro aG cd H;replace H:=H.nf
  have ce:=Sl.cells (H.os 1)
  have cf:=Sl.oc (H.os 1)
  refine s_nil ⟨(H.pk [3,4,5,6,7,8]),?_⟩
  refine t_l rfl ?_;refine t_sw 2 0 [aG] aG H rfl rfl Sz23 (Sl.cells (H.os 1)) rfl rfl (by simp only [List.all_cons,List.all_nil,Bool.true_and,Bool.and_true,Sl.oc (H.os 1)]; try rfl) ?_;intro cg H
  refine s_nil ⟨(H.pk [3,4,5,6,7,8]),?_⟩
  refine t_nil ?_
  exact ⟨l++([(aa.getD (Int.toNat x2) default)]),[cOwn (α:=Span) 26 aG (l++([(aa.getD (Int.toNat x2) default)])),cBlk am [aG] 23,cBlk ae [B false] 4,cBlk ac [I 0,I 0] 26],(M.e_pure hM).symm,⟨aG,rfl⟩,H.pick [1,2,3,4,8,5,6,7] (by decide) rfl⟩
 replace H:St w bo (cAll (cObj aS (.loop a6) :: [cOwn (α:=Span) 26 (.slice none 0 0) ([]),cBlk am [(.slice none 0 0)] 23,cBlk ae [B false] 4,cBlk ac [I 0,I 0] 26]) :: [cBlk aD [I aR] 3,cMk (aT :: ([])),cBlk au [ah,ai,aj,ak,I ap,I aq,al] 29,cBlk az [I ab] 3,cBlk ay [Pq ao] 108]) R:=St.bundleB (A:=cObj aS (.loop a6) :: [cOwn (α:=Span) 26 (.slice none 0 0) ([]),cBlk am [(.slice none 0 0)] 23,cBlk ae [B false] 4,cBlk ac [I 0,I 0] 26]) (T:=[cBlk aD [I aR] 3,cMk (aT :: ([])),cBlk au [ah,ai,aj,ak,I ap,I aq,al] 29,cBlk az [I ab] 3,cBlk ay [Pq ao] 108]) rfl (H.pk [0,2,3,4,5,9,1,6,7,8])
 refine (zaS (M.yl (zaL aa ab)) (.inl ([])) aR aH aa aI aJ ap aq aK hYC ⟨_,rfl,⟨(.slice none 0 0),rfl⟩⟩ (aM.app _) aU (aN.app _) aV (aO.app _) aW (aP.app _) aX (aQ.app _) aY (Has.here (k:=1) rfl) bn _ (H.gt 4)).mono ?_
 rintro vq ci ⟨bx,q0,cj,rfl,hvq,av,bi⟩
 replace H:=H.back av rfl
 clear av hYC
 rcases bx with l | ⟨l2,l3,s,s2⟩
 ·(try dsimp only at hM)
  obtain ⟨_,rfl,ag,rfl⟩:=bi
  refine ⟨_,[cOwn (α:=Span) 26 ag l,cBlk am [ag] 23,cBlk ae [B false] 4,cBlk ac [I 0,I 0] 26,cBlk au [ah,ai,aj,ak,I ap,I aq,al] 29,cBlk az [I ab] 3,cBlk ay [Pq ao] 108,cBlk aD [I q0] 3],H.unbundle.pick [0,6,1,2,3,4,7,8,9,5] (by decide) rfl,a7.nb,?_⟩
  intro bz H
  rw [a7.pd]
  replace H:=H.nf
  try simp only []
  replace H:=H.pk [0,3,4];refine WD.seq<|WD.of<|W.region rfl<|s_val (x_bld (ps:=[]) (zs:=[I 0,I 0]) (L':=[I 0,I 0]) rfl Tryz.underlying26 Al26 rfl (Bd26 Tryz.underlying26) (.nil)) ?_;refine t_sw 2 0 [I 0,I 0] (.agg #[I 0,I 0]) H rfl rfl Sz26 rfl rfl rfl rfl ?_;intro ck H;refine t_sw 1 0 [B false] (B false) H rfl rfl Sz4 rfl rfl rfl rfl ?_;intro cm H;refine s_nil<|WD.of ?_;refine W.ret ?_;refine bodyD_r (H.pk [0,1,2]) ?_;intro cn H;replace H:=H.nf
  have bA:=(H.bl 1)
  have bB:=(H.bl 0)
  have a8:=M.e_pure hM
  exact ⟨_,(resE_ofn (vs:=[.agg #[I 0,I 0],B false]) rfl rfl (.cell (v:=.agg #[I 0,I 0]) rfl (run_loadVar_ag (ds:=[I 0,I 0]) Ag26 Sz26 bA rfl rfl)<|.cell (v:=B false) rfl (run_loadVar_sc Sc4 bB rfl)<|.nil)),⟨0,0,false,a8,rfl,(H.pk [])⟩⟩
 (try dsimp only at hM)
 obtain ⟨_,rfl,ax,rfl⟩:=bi
 refine ⟨_,[cOwn (α:=Span) 26 ax l3,cBlk am [ax] 23,cBlk ae [B true] 4,cBlk ac [I s,I s2] 26,cBlk au [ah,ai,aj,ak,I ap,I aq,al] 29,cBlk az [I ab] 3,cBlk ay [Pq ao] 108,cBlk aD [I q0] 3],H.unbundle.pick [0,6,1,2,3,4,7,8,9,5] (by decide) rfl,nofun,?_⟩
 intro bz H
 show WD _ _ _ (.ret) _ _ _
 refine WD.of ?_;refine W.ret ?_;replace H:=H.nf;refine bodyD_r (H.pk [0,1,2,3,4,5,6,7,8]) ?_;intro co H;replace H:=H.nf
 have bC:=(H.bl 3)
 have bD:=(H.bl 2)
 have a8:=M.e_pure hM
 exact ⟨_,(resE_ofn (vs:=[.agg #[I s,I s2],B true]) rfl rfl (.cell (v:=.agg #[I s,I s2]) rfl (run_loadVar_ag (ds:=[I s,I s2]) Ag26 Sz26 bC rfl rfl)<|.cell (v:=B true) rfl (run_loadVar_sc Sc4 bD rfl)<|.nil)),⟨s,s2,true,a8,rfl,(H.pk [])⟩⟩

def zaU (ac:List Int) (ae:List Span) (ag:List Int) (aa:List Town) (ah ab:Int) (ai:List Flood) (d:Dem):(List Int)->(Int × Int)->M ((List Int) ⊕ Unit):=fun l (x,x2) =>
  M.bind (zaR ac ae ag aa ah ab ai x2 ((aa.getD (Int.toNat d.town) default).station)) fun (aj,ak,r1) =>
  M.grd ((!r1||(decide ((-9223372036854775808:Int)<=(((aa.getD (Int.toNat d.town) default).lead)+ab))&&decide ((((aa.getD (Int.toNat d.town) default).lead)+ab)<=(9223372036854775807:Int))))) <|
  bif (r1&&(decide ((((aa.getD (Int.toNat d.town) default).lead)+ab)<=aj))) then (
  M.grd (decide ((l.length+([(x2:Int)]).length)*8<=140737488355328)) <|
  M.pure (.inl (l++([(x2:Int)]))))
  else (
  M.pure (.inl l))
def zaa (ab:List Int) (ac:List Span) (ae:List Int) (aa:List Town) (ah ai:Int) (ag:List Flood) (d:Dem):M (List Int) :=
  M.grd (decide ((0:Int)<=d.town)&&decide (d.town<(aa.length:Int))) <|
  M.bind (zaE ab ac ae aa ah ai ag d.spring) fun (aj,ak,al) =>
  M.bind (zaG (M.yl (zaU ab ac ae aa ah ai ag d)) (.inl ([])) aj ab ac ae aa ak al ag) fun x_=>match x_ with
  | (.inl l,q0)=>(
  M.pure l)
  | (.inr _,_)=>M.fail
theorem zaN {R:List Chunk} {ac:Nat} {bi:Cells} {aw:Value} {bj:Cells} {ax:Value} {bm:Cells} {ay:Value} {bn:Cells} {az:Value} {bo:Cells} {aA:Value} {aj:Nat} {ah:Base} (ap:List Int) (aq:List Span) (au:List Int) (aa:List Town) (ai:Int) (ae:Int) (av:List Flood) (d:Dem) (aK:Reads R bi) (aR:Sl bi aw ap) (aL:Reads R bj) (aS:Sl bj ax aq) (aM:Reads R bm) (aT:Sl bm ay au) (aG:Reads R bn) (aN:Sl bn az aa) (aO:Reads R bo) (aU:Sl bo aA av) (aV:Has R (cBlk ac [aw,ax,ay,az,I ai,I ae,aA,.map (some aj)] 113)) {r:(List Int)} (hM:(zaa ap aq au aa ai ae av d).Ends r) (w:World) (H:St w w [cMem encDm aj ah (zaa ap aq au aa ai ae av)] R):Ret Tryz.prog 72 #[Pq ac,.agg #[I d.spring,I d.town]] w fun v w'=>∃ (y0:List Int) (u0:Value) (bp:Base),y0=r/\v=u0/\St w w' [cMem encDm aj bp (zaa ap aq au aa ai ae av)] R/\Sl bp.cells u0 y0:=by
 refine ret_of_WD Tryz.func72 rfl rfl rfl ?_
 replace H:St w w [cMk ([]),cMem encDm aj ah (zaa ap aq au aa ai ae av)] R:=H.mk0
 have bK:=aR.len_le
 have bL:=aS.len_le
 have bM:=aT.len_le
 have bN:=aN.len_le
 have bO:=aU.len_le
 unfold zaa at hM
 have hM0:=hM
 obtain ⟨ak,H,aZ⟩:=St.memOpen H (i:=1) rfl
 replace H:=H.nf
 cases a6:ak d with
 | none =>
  refine WD.seq<|WD.of<|W.region rfl ?_;refine t_b1 (Pq ac) H rfl rfl ?_;intro al bP H;refine t_bx [I d.spring,I d.town] H rfl ?_;intro am bQ H;refine kg 2 ?_;refine WD.seq<|WD.seq<|WD.of ?_;refine W.draw (fun W=>St w W [cBlk am [I d.spring,I d.town] 32,cBlk al [Pq ac] 108,cRx ah,cMk ([])] R) [(0,true),(1,true),(2,true),(3,true),(4,true),(5,false),(6,true),(7,true),(8,true),(9,true),(10,true)] mixed (by decide +kernel) rfl ?_;intro bR ag;replace H:=H.ext ag;clear ag
  refine ⟨(H.pk [0,1,3,4]),?_⟩
  refine kg 5 ?_;refine d_l rfl<|s_val (q_look (kenc:=encDm) (venc:=id) (f:=ak) (k:=d) (z:=.slice none 0 0) (v:=.tuple #[.slice none 0 0,B false]) keyDem Tryz.underlying111 (by kernel_rfl) rfl rfl (H.get (k:=2) rfl) true (by simp [a6])) ?_
  refine s_nil ⟨(H.pk [0,1,3,4]),?_⟩
  refine kg 6 ?_;refine WD.seq<|WD.of ?_;refine kg 3 ?_
  refine WD.cond false rfl (fun br=>?_) (fun br=>?_)
  ·skip
   exact absurd br (by decide)
  skip
  refine WD.of<|W.skip<|WD.seq<|WD.of<|W.region rfl ?_;refine t_alloc (cs:=[.slice none 0 0]) H Al22 rfl ?_;intro ao bS H;refine s_nil<|WD.seq<|WD.of ?_;refine W.draw (fun W=>St w W [cBlk ao [.slice none 0 0] 22,cBlk am [I d.spring,I d.town] 32,cBlk al [Pq ac] 108,cMap encDm id aj ak,cRx ah,cMk ([])] R) [(0,true),(1,true),(2,true),(3,true),(4,true),(5,true),(6,true),(7,true),(8,true),(9,false),(10,false)] mixed (by decide +kernel) rfl ?_;intro bT ag;replace H:=H.ext ag;clear ag
  refine ⟨(H.pk [0,1,2,3,4,5]),?_⟩
  obtain ⟨bU,hM⟩:=M.e_gd hM;refine kg 8 ?_;refine d_q rfl (fun w' H=>x_ld (v:=.agg #[I ((aa.getD (Int.toNat d.town) default).station),I ((aa.getD (Int.toNat d.town) default).lead),I ((aa.getD (Int.toNat d.town) default).alarm)]) rfl (ld_ag Ag36 Sz36 (At.mono (Town_atA aN (i:=d.town) (by omega) (by omega)) (aG.at H))))<|d_l rfl ?_;refine t_alloc (cs:=[I 0,I 0,I 0]) H Al36 rfl ?_;intro aC bV H
  refine s_nil ⟨(H.pk [1,2,3,4,5,6]),?_⟩
  refine d_l rfl ?_;refine t_sw 0 0 [I ((aa.getD (Int.toNat d.town) default).station),I ((aa.getD (Int.toNat d.town) default).lead),I ((aa.getD (Int.toNat d.town) default).alarm)] (.agg #[I ((aa.getD (Int.toNat d.town) default).station),I ((aa.getD (Int.toNat d.town) default).lead),I ((aa.getD (Int.toNat d.town) default).alarm)]) H rfl rfl Sz36 rfl rfl rfl rfl ?_;intro bW H
  refine s_nil ⟨(H.pk [1,2,3,4,5,6]),?_⟩
  refine d_nil<|WD.seq<|WD.seq<|WD.of ?_;refine W.draw (fun W=>St w W [cBlk aC [I ((aa.getD (Int.toNat d.town) default).station),I ((aa.getD (Int.toNat d.town) default).lead),I ((aa.getD (Int.toNat d.town) default).alarm)] 36,cBlk ao [.slice none 0 0] 22,cBlk am [I d.spring,I d.town] 32,cBlk al [Pq ac] 108,cMap encDm id aj ak,cRx ah,cMk ([])] R) [(0,true),(1,true),(2,true),(3,true),(4,true),(5,true),(6,false)] mixed (by decide +kernel) rfl ?_;intro bX ag;replace H:=H.ext ag;clear ag
  refine ⟨(H.pk [0,1,2,3,4,5,6]),?_⟩
  refine kg 3 ?_;refine d_q rfl (fun w' H=>x_ld (v:=.agg #[aw,ax,ay,az,I ai,I ae,aA]) rfl (ldb_ag (ds:=[aw,ax,ay,az,I ai,I ae,aA]) Ag29 Sz29 (aV.blk H) rfl rfl)) ?_;refine kg 2 ?_;refine d_l rfl ?_;obtain ⟨bY,bv,hM⟩:=M.e_bind hM;refine s_call cf51 [.agg #[aw,ax,ay,az,I ai,I ae,aA],I d.spring] rfl (zaV ap aq au aa ai ae av d.spring (aK.app _) aR (aL.app _) aS (aM.app _) aT (aG.app _) aN (aO.app _) aU bv _ (H.gt 7)) ?_
  rintro vq bZ ⟨aW,aD,aE,aP,aF,rfl,hvq,aB⟩
  subst vq;(try dsimp only at hM);replace H:=H.bk aB;clear aB
  refine s_nil ⟨(H.pk [2,3,4,5,6,7,8]),?_⟩
  refine d_nil<|WD.block ?_
  replace H:=H.nilOwn (α:=Int) 3
  obtain ⟨b0,bw,hM⟩:=M.e_bind hM;refine WD.range (L:=[cOwn (α:=Int) 3 (.slice none 0 0) ([]),cBlk ao [(.slice none 0 0)] 22,cBlk aF [aw,ax,ay,az,I aD,I aE,aA] 29,cBlk aC [I ((aa.getD (Int.toNat d.town) default).station),I ((aa.getD (Int.toNat d.town) default).lead),I ((aa.getD (Int.toNat d.town) default).alarm)] 36,cBlk am [I d.spring,I d.town] 32,cBlk al [Pq ac] 108,cMap encDm id aj ak,cRx ah,cBlk aP [I aW] 3]) [Pq aP,Pq aF] (H.pk [9,0,4,2,3,5,6,7,8,1]) rfl cf95 ?_;intro aX aH a7 bx a8 H
  have hYC:YieldC Tryz.prog ([cMk (aH :: ([])),cBlk aF [aw,ax,ay,az,I aD,I aE,aA] 29,cBlk aC [I ((aa.getD (Int.toNat d.town) default).station),I ((aa.getD (Int.toNat d.town) default).lead),I ((aa.getD (Int.toNat d.town) default).alarm)] 36,cBlk am [I d.spring,I d.town] 32,cBlk al [Pq ac] 108,cMap encDm id aj ak,cRx ah]++R) arII (yJ aX a7 (fun l aY=>∃ (ab:Value),aY=[cOwn (α:=Int) 3 ab l,cBlk ao [ab] 22]) (fun (_:Unit) _=>False) (fun _=>.ret)) (.func (.yield aX) #[] #[]) (M.yl (zaU ap aq au aa ai ae av d)):=by
   refine YieldC.mk a8 (fun l aY=>∃ (ab:Value),aY=[cOwn (α:=Int) 3 ab l,cBlk ao [ab] 22]) (fun (_:Unit) _=>False) (fun _=>.ret) (zaU ap aq au aa ai ae av d) (by rintro l _ h_; obtain ⟨_,rfl⟩:=h_; rfl) (fun _ _ h_=>h_.elim) rfl (arII_len rfl) ?_;intro C_ b1 x_ W_ bz
   obtain ⟨x,x2⟩:=x_
   obtain rfl:=bz
   refine kg 3 ?_
   refine ⟨rfl,rfl,?_⟩
   intro w R aI aY s_ r bA hM H
   skip
   obtain ⟨l,bB⟩:∃ y_,y_=s_:=⟨_,rfl⟩
   subst bB
   obtain ⟨ab,rfl⟩:=bA
   replace aK:=aK.sub aI
   replace aL:=aL.sub aI
   replace aM:=aM.sub aI
   replace aG:=aG.sub aI
   replace aO:=aO.sub aI
   replace aV:=aV.sub aI
   replace hM:(zaU ap aq au aa ai ae av d l (x,x2)).Ends r:=hM
   simp only [zaU] at hM
   replace H:=H.pk [0,1,3,4,5,6,7,8,2];refine kg 7 ?_;obtain ⟨b2,bC,hM⟩:=M.e_bind hM;refine s_call cf63 [Pq ac,I x2,I ((aa.getD (Int.toNat d.town) default).station)] rfl (zbt ap aq au aa ai ae av x2 ((aa.getD (Int.toNat d.town) default).station) (aK.app _) aR (aL.app _) aS (aM.app _) aT (aG.app _) aN (aO.app _) aU (aV.app _) bC _ (H.gt 9)) ?_
   rintro vq b3 ⟨aJ,ba,r1,rfl,hvq,aB⟩
   subst vq;(try dsimp only at hM);replace H:=H.bk aB;clear aB;refine kg 3 ?_;refine t_alloc (cs:=[I 0,I 0]) H Al26 rfl ?_;intro bD b4 H;refine t_sw 0 0 [I aJ,I ba] (.agg #[I aJ,I ba]) H rfl rfl Sz26 rfl rfl rfl rfl ?_;intro b5 H;refine kg 3 ?_;refine W.draw (fun W=>St w W [cBlk bD [I aJ,I ba] 26,cOwn (α:=Int) 3 ab l,cBlk ao [ab] 22,cBlk aF [aw,ax,ay,az,I aD,I aE,aA] 29,cBlk aC [I ((aa.getD (Int.toNat d.town) default).station),I ((aa.getD (Int.toNat d.town) default).lead),I ((aa.getD (Int.toNat d.town) default).alarm)] 36,cBlk am [I d.spring,I d.town] 32,cBlk al [Pq ac] 108,cMap encDm id aj ak,cRx ah,cMk (aH :: ([]))] R) [(0,true),(1,true),(2,true),(3,true),(4,true),(5,true),(6,true),(7,true),(8,true),(9,true),(10,true),(11,true),(12,true),(13,true),(14,true)] mixed (by decide +kernel) rfl ?_;intro b6 ag;replace H:=H.ext ag;clear ag
   refine ⟨(H.pk [0,1,2,3,4,5,6,7,8,9]),?_⟩
   obtain ⟨bb,hM⟩:=M.e_grd hM
   replace bb:=M.imp_of bb
   simp only [Bool.and_eq_true,decide_eq_true_eq] at bb
   refine kg 14 ?_;refine d_q rfl (fun w' H=>x_pand (b:=r1) (r:=decide ((((aa.getD (Int.toNat d.town) default).lead)+ae)<=aJ)) rfl (fun hb=>gd_of (c:=r1) (by first | exact hb | (rw [hb]; rfl) | simp_all) (B (decide ((((aa.getD (Int.toNat d.town) default).lead)+ae)<=aJ)))) rfl) ?_;refine d_nil ?_
   refine W.cond (r1&&(decide ((((aa.getD (Int.toNat d.town) default).lead)+ae)<=aJ))) rfl (fun bc=>?_) (fun bc=>?_)
   ·replace hM:=M.e_t hM bc;refine kg 3 ?_;refine t_bs (α:=Int) T22 [I x2] [(x2:Int)] H rfl (.cons rfl (Flat.rep_enc _ (x2:Int))<|.nil) rfl rfl rfl ?_;intro bE b7 H;obtain ⟨b8,hM⟩:=M.e_gd hM;refine t_app (α:=Int) (k:=2) (l:=l) (l2:=[(x2:Int)]) (l':=l++([(x2:Int)])) (vy:=bE) T22 rfl H rfl rfl rfl (H.os 0) (H.ol 0) (rfl) (by first | omega | (simp only [List.length_nil] at *; omega)) ?_;intro aQ b9 H;replace H:=H.nf;refine t_sw 3 0 [aQ] aQ H rfl rfl Sz22 (Sl.cells (H.os 2)) rfl rfl (by simp only [List.all_cons,List.all_nil,Bool.true_and,Bool.and_true,Sl.oc (H.os 2)]; try rfl) ?_;intro ca H;refine s_nil ?_
    exact ⟨l++([(x2:Int)]),[cOwn (α:=Int) 3 aQ (l++([(x2:Int)])),cBlk ao [aQ] 22],(M.e_pure hM).symm,⟨aQ,rfl⟩,H.pick [2,3,10,4,5,6,7,8,9] (by decide) rfl⟩
   replace hM:=M.e_f hM bc;refine W.skip ?_
   exact ⟨l,[cOwn (α:=Int) 3 ab l,cBlk ao [ab] 22],(M.e_pure hM).symm,⟨ab,rfl⟩,H.pick [1,2,9,3,4,5,6,7,8] (by decide) rfl⟩
  replace H:St w bx (cAll (cObj aX (.loop a7) :: [cOwn (α:=Int) 3 (.slice none 0 0) ([]),cBlk ao [(.slice none 0 0)] 22]) :: [cBlk aP [I aW] 3,cMk (aH :: ([])),cBlk aF [aw,ax,ay,az,I aD,I aE,aA] 29,cBlk aC [I ((aa.getD (Int.toNat d.town) default).station),I ((aa.getD (Int.toNat d.town) default).lead),I ((aa.getD (Int.toNat d.town) default).alarm)] 36,cBlk am [I d.spring,I d.town] 32,cBlk al [Pq ac] 108,cMap encDm id aj ak,cRx ah]) R:=St.bundleB (A:=cObj aX (.loop a7) :: [cOwn (α:=Int) 3 (.slice none 0 0) ([]),cBlk ao [(.slice none 0 0)] 22]) (T:=[cBlk aP [I aW] 3,cMk (aH :: ([])),cBlk aF [aw,ax,ay,az,I aD,I aE,aA] 29,cBlk aC [I ((aa.getD (Int.toNat d.town) default).station),I ((aa.getD (Int.toNat d.town) default).lead),I ((aa.getD (Int.toNat d.town) default).alarm)] 36,cBlk am [I d.spring,I d.town] 32,cBlk al [Pq ac] 108,cMap encDm id aj ak,cRx ah]) rfl (H.pk [0,2,3,10,1,4,5,6,7,8,9])
  refine (zaS (M.yl (zaU ap aq au aa ai ae av d)) (.inl ([])) aW ap aq au aa aD aE av hYC ⟨_,rfl,⟨(.slice none 0 0),rfl⟩⟩ (aK.app _) aR (aL.app _) aS (aM.app _) aT (aG.app _) aN (aO.app _) aU (Has.here (k:=1) rfl) bw _ (H.gt 7)).mono ?_
  rintro vq cb ⟨bF,q0,cc,rfl,hvq,aB,bt⟩
  replace H:=H.back aB rfl
  clear aB hYC
  rcases bF with l | _
  ·(try dsimp only at hM)
   obtain ⟨_,rfl,ab,rfl⟩:=bt
   refine ⟨_,[cOwn (α:=Int) 3 ab l,cBlk ao [ab] 22,cBlk aF [aw,ax,ay,az,I aD,I aE,aA] 29,cBlk aC [I ((aa.getD (Int.toNat d.town) default).station),I ((aa.getD (Int.toNat d.town) default).lead),I ((aa.getD (Int.toNat d.town) default).alarm)] 36,cBlk am [I d.spring,I d.town] 32,cBlk al [Pq ac] 108,cMap encDm id aj ak,cRx ah,cBlk aP [I q0] 3],H.unbundle.pick [0,4,1,2,5,6,7,8,9,10,3] (by decide) rfl,a8.nb,?_⟩
   intro cd H
   rw [a8.pd]
   replace H:=H.nf
   try simp only []
   replace H:=H.pk [0,1,2,5,6,7,8];refine WD.seq<|WD.of ?_;refine W.draw (fun W=>St w W [cMk (aH :: ([])),cOwn (α:=Int) 3 ab l,cBlk ao [ab] 22,cBlk am [I d.spring,I d.town] 32,cBlk al [Pq ac] 108,cRx ah] R) [(0,true),(1,true),(2,true),(3,true),(4,true),(5,true),(6,false)] mixed (by decide +kernel) rfl ?_;intro ce ag;replace H:=H.ext ag;clear ag
   refine ⟨(H.pk [0,1,2,3,4,6]),?_⟩
   refine kg 6 ?_;refine d_l rfl ?_;refine t_mapu (i:=5) (kenc:=encDm) (venc:=id) (f:=ak) (k:=d) (v:=ab) (L':=[cMk (aH :: ([])),cOwn (α:=Int) 3 ab l,cBlk ao [ab] 22,cBlk am [I d.spring,I d.town] 32,cBlk al [Pq ac] 108,cMap encDm id aj (updF ak d ab),cRx ah]) keyDem Tryz.underlying111 H rfl rfl rfl rfl rfl ?_;intro cf H
   refine s_nil ⟨(H.pk [0,1,2,3,4,6]),?_⟩
   refine d_nil ?_;replace H:=H.pk [0,1,2,5,6];refine WD.seq<|WD.of ?_;refine kg 4 ?_;refine WD.of ?_;refine W.ret ?_;refine bodyD_r (H.pk [0,1,2,3,4]) ?_;intro cg H;replace H:=H.nf
   obtain ⟨bG,ci,bH,H⟩:=St.memShut1 (H.pk [2,3,0,1]) aZ (by rw [M.e_pure hM]; exact hM0)
   replace H:=H.nf
   have bf:=M.e_pure hM
   exact ⟨_,resE_tmp rfl,⟨l,ab,bG,bf,rfl,(H.pk [0]),bH⟩⟩
  obtain ⟨_,_,h_⟩:=bt; exact h_.elim
 | some bg =>
  obtain ⟨bh,bI,bJ⟩:=aZ d bg a6
  obtain rfl:=M.Ends.det bI hM0
  replace hM:(M.pure bh).Ends bh:=M.i_pure
  refine WD.seq<|WD.of<|W.region rfl ?_;refine t_b1 (Pq ac) H rfl rfl ?_;intro al cj H;refine t_bx [I d.spring,I d.town] H rfl ?_;intro am ck H;refine kg 2 ?_;refine WD.seq<|WD.seq<|WD.of ?_;refine W.draw (fun W=>St w W [cBlk am [I d.spring,I d.town] 32,cBlk al [Pq ac] 108,cRx ah,cMk ([])] R) [(0,true),(1,true),(2,true),(3,true),(4,true),(5,false),(6,true),(7,true),(8,true),(9,true),(10,true)] mixed (by decide +kernel) rfl ?_;intro cm ag;replace H:=H.ext ag;clear ag
  refine ⟨(H.pk [0,1,3,4]),?_⟩
  refine kg 5 ?_;refine d_l rfl<|s_val (q_look (kenc:=encDm) (venc:=id) (f:=ak) (k:=d) (z:=.slice none 0 0) (v:=.tuple #[bg,B true]) keyDem Tryz.underlying111 (by kernel_rfl) rfl rfl (H.get (k:=2) rfl) true (by simp [a6])) ?_
  refine s_nil ⟨(H.pk [0,1,3,4]),?_⟩
  refine kg 6 ?_;refine WD.seq<|WD.of ?_;refine kg 3 ?_
  refine WD.cond true rfl (fun bu=>?_) (fun bu=>?_)
  ·skip
   refine WD.seq<|WD.of ?_;refine kg 4 ?_;replace H:=H.pk [2,3,4];refine WD.of ?_;refine W.ret ?_;refine bodyD_r (H.pk [2,0,1]) ?_;intro cn H;replace H:=H.nf
   replace H:=St.memShut (H.pk [0,1]) aZ
   replace H:=H.nf
   have bf:=M.e_pure hM
   exact ⟨_,resE_tmp rfl,⟨bh,bg,ah,bf,rfl,H,bJ⟩⟩
  skip
  exact absurd bu (by decide)

def zak (lo hi:Int):M (Int × Int) :=
  M.pure (lo,hi)
theorem zah {R:List Chunk}  (lo:Int) (hi:Int)  {r:(Int × Int)} (hM:(zak lo hi).Ends r) (w:World) (H:St w w [] R):Ret Tryz.prog 8 #[I lo,I hi] w fun v w'=>∃ (y0:Int) (y1:Int),(y0,y1)=r/\v = .agg #[I y0,I y1]/\St w w' [] R:=by
 refine ret_of_W Tryz.func8 rfl rfl rfl ?_;refine kg 2 ?_;refine t_alloc (cs:=[I 0,I 0]) H Al26 rfl ?_;intro ac ae H;refine kg 5 ?_;refine s_val (x_bld (ps:=[(0,I lo),(1,I hi)]) (zs:=[I 0,I 0]) (L':=[I lo,I hi]) rfl Tryz.underlying26 Al26 rfl (Bd26 Tryz.underlying26) (.cons (cs:=[I lo]) rfl rfl rfl rfl rfl<|.cons (cs:=[I hi]) rfl rfl rfl rfl rfl<|.nil)) ?_;refine t_sw 0 0 [I lo,I hi] (.agg #[I lo,I hi]) H rfl rfl Sz26 rfl rfl rfl rfl ?_;intro ag H;refine s_nil ?_;refine W.ret ?_
 have aa:=(H.bl 0)
 have ab:=M.e_pure hM
 exact ⟨_,(resE_of1 (v:=.agg #[I lo,I hi]) rfl (.cell (v:=.agg #[I lo,I hi]) rfl (run_loadVar_ag (ds:=[I lo,I hi]) Ag26 Sz26 aa rfl rfl)<|.nil)),⟨lo,hi,ab,rfl,(H.pk [])⟩⟩

def zag (lead:Int):M ((List Int) × (List Span) × (List Int) × (List Town) × Int × Int × (List Flood)) :=
  M.bind (zak 5 6) fun (r0,r1) =>
  M.bind (zak 2 4) fun (aa,ab) =>
  M.bind (zak 3 5) fun (ac,ae) =>
  M.bind (zak 1 2) fun (ag,ah) =>
  M.pure (([(2:Int),(2:Int),(3:Int),(-1:Int)]),([(⟨(r0:Int),(r1:Int)⟩:Span),(⟨(aa:Int),(ab:Int)⟩:Span),(⟨(ac:Int),(ae:Int)⟩:Span),(⟨(0:Int),(0:Int)⟩:Span)]),([(0:Int),(1:Int)]),([(⟨(3:Int),(lead:Int),(300:Int)⟩:Town)]),ag,ah,([(⟨(0:Int),([(200:Int),(250:Int),(310:Int)])⟩:Flood),(⟨(1:Int),([(280:Int),(240:Int),(290:Int)])⟩:Flood),(⟨(0:Int),([(100:Int),(260:Int),(300:Int)])⟩:Flood)]))
theorem zac {R:List Chunk}  (lead:Int)  {r:((List Int) × (List Span) × (List Int) × (List Town) × Int × Int × (List Flood))} (hM:(zag lead).Ends r) (w:World) (H:St w w [] R):Ret Tryz.prog 4 #[I lead] w fun v w'=>∃ (y0:List Int) (y1:List Span) (y2:List Int) (y3:List Town) (y4:Int) (y5:Int) (y6:List Flood) (u0:Value) (u1:Value) (u2:Value) (u3:Value) (u4:Value) (rr5:List (Raw 1)) (aC:Base),(y0,y1,y2,y3,y4,y5,y6)=r/\v = .agg #[u0,u1,u2,u3,I y4,I y5,u4]/\St w w' [cOwn (α:=Int) 3 u0 y0,cOwn (α:=Span) 26 u1 y1,cOwn (α:=Int) 3 u2 y2,cOwn (α:=Town) 36 u3 y3,cOwn (α:=Raw 1) 38 u4 rr5,cRo aC] R/\RepR (α:=Flood) aC.cells rr5 y6:=by
 refine ret_of_W Tryz.func4 rfl rfl rfl ?_;refine kg 2 ?_;refine t_alloc (cs:=[.slice none 0 0,.slice none 0 0,.slice none 0 0,.slice none 0 0,I 0,I 0,.slice none 0 0]) H Al29 rfl ?_;intro aV aW H;refine kg 3 ?_;refine t_bs (α:=Int) T22 [I 2,I 2,I 3,I (-1)] [(2:Int),(2:Int),(3:Int),(-1:Int)] H rfl (.cons rfl (Flat.rep_enc _ (2:Int))<|.cons rfl (Flat.rep_enc _ (2:Int))<|.cons rfl (Flat.rep_enc _ (3:Int))<|.cons rfl (Flat.rep_enc _ (-1:Int))<|.nil) rfl rfl rfl ?_;intro ab aX H;obtain ⟨aY,aI,hM⟩:=M.e_bind hM;refine s_call cf8 [I 5,I 6] rfl (zah 5 6 aI _ (H.gt 2)) ?_
 rintro vq aZ ⟨r0,r1,rfl,hvq,aa⟩
 subst vq;(try dsimp only at hM);replace H:=H.bk aa;clear aa;obtain ⟨a6,aJ,hM⟩:=M.e_bind hM;refine s_call cf8 [I 2,I 4] rfl (zah 2 4 aJ _ (H.gt 2)) ?_
 rintro vq a7 ⟨aw,ax,rfl,hvq,aa⟩
 subst vq;(try dsimp only at hM);replace H:=H.bk aa;clear aa;obtain ⟨a8,aK,hM⟩:=M.e_bind hM;refine s_call cf8 [I 3,I 5] rfl (zah 3 5 aK _ (H.gt 2)) ?_
 rintro vq ba ⟨ay,az,rfl,hvq,aa⟩
 subst vq;(try dsimp only at hM);replace H:=H.bk aa;clear aa;refine s_val (x_bld (ps:=[]) (zs:=[I 0,I 0]) (L':=[I 0,I 0]) rfl Tryz.underlying26 Al26 rfl (Bd26 Tryz.underlying26) (.nil)) ?_;refine t_bs (α:=Span) T23 [.agg #[I r0,I r1],.agg #[I aw,I ax],.agg #[I ay,I az],.agg #[I 0,I 0]] [(⟨(r0:Int),(r1:Int)⟩:Span),(⟨(aw:Int),(ax:Int)⟩:Span),(⟨(ay:Int),(az:Int)⟩:Span),(⟨(0:Int),(0:Int)⟩:Span)] H rfl (.cons rfl (Flat.rep_enc _ (⟨(r0:Int),(r1:Int)⟩:Span))<|.cons rfl (Flat.rep_enc _ (⟨(aw:Int),(ax:Int)⟩:Span))<|.cons rfl (Flat.rep_enc _ (⟨(ay:Int),(az:Int)⟩:Span))<|.cons rfl (Flat.rep_enc _ (⟨(0:Int),(0:Int)⟩:Span))<|.nil) rfl rfl rfl ?_;intro ac bb H;refine t_bs (α:=Int) T22 [I 0,I 1] [(0:Int),(1:Int)] H rfl (.cons rfl (Flat.rep_enc _ (0:Int))<|.cons rfl (Flat.rep_enc _ (1:Int))<|.nil) rfl rfl rfl ?_;intro ae bc H;refine kg 1 ?_;refine s_val (x_bld (ps:=[(0,I 3),(1,I lead),(2,I 300)]) (zs:=[I 0,I 0,I 0]) (L':=[I 3,I lead,I 300]) rfl Tryz.underlying36 Al36 rfl (Bd36 Tryz.underlying36) (.cons (cs:=[I 3]) rfl rfl rfl rfl rfl<|.cons (cs:=[I lead]) rfl rfl rfl rfl rfl<|.cons (cs:=[I 300]) rfl rfl rfl rfl rfl<|.nil)) ?_;refine t_bs (α:=Town) T24 [.agg #[I 3,I lead,I 300]] [(⟨(3:Int),(lead:Int),(300:Int)⟩:Town)] H rfl (.cons rfl (Flat.rep_enc _ (⟨(3:Int),(lead:Int),(300:Int)⟩:Town))<|.nil) rfl rfl rfl ?_;intro ag bf H;obtain ⟨bg,aL,hM⟩:=M.e_bind hM;refine s_call cf8 [I 1,I 2] rfl (zah 1 2 aL _ (H.gt 5)) ?_
 rintro vq bh ⟨ah,ai,rfl,hvq,aa⟩
 subst vq;(try dsimp only at hM);replace H:=H.bk aa;clear aa;refine t_bs (α:=Int) T22 [I 200,I 250,I 310] [(200:Int),(250:Int),(310:Int)] H rfl (.cons rfl (Flat.rep_enc _ (200:Int))<|.cons rfl (Flat.rep_enc _ (250:Int))<|.cons rfl (Flat.rep_enc _ (310:Int))<|.nil) rfl rfl rfl ?_;intro al bi H;refine s_val (x_bld (ps:=[(0,I 0),(1,al)]) (zs:=[I 0,.slice none 0 0]) (L':=[I 0,al]) rfl Tryz.underlying38 Al38 rfl (Bd38 Tryz.underlying38) (.cons (cs:=[I 0]) rfl rfl rfl rfl rfl<|.cons (cs:=[al]) (Sl.cells (H.os 0)) rfl rfl rfl rfl<|.nil)) ?_;refine t_bs (α:=Int) T22 [I 280,I 240,I 290] [(280:Int),(240:Int),(290:Int)] H rfl (.cons rfl (Flat.rep_enc _ (280:Int))<|.cons rfl (Flat.rep_enc _ (240:Int))<|.cons rfl (Flat.rep_enc _ (290:Int))<|.nil) rfl rfl rfl ?_;intro am bj H;refine s_val (x_bld (ps:=[(0,I 1),(1,am)]) (zs:=[I 0,.slice none 0 0]) (L':=[I 1,am]) rfl Tryz.underlying38 Al38 rfl (Bd38 Tryz.underlying38) (.cons (cs:=[I 1]) rfl rfl rfl rfl rfl<|.cons (cs:=[am]) (Sl.cells (H.os 0)) rfl rfl rfl rfl<|.nil)) ?_;refine t_bs (α:=Int) T22 [I 100,I 260,I 300] [(100:Int),(260:Int),(300:Int)] H rfl (.cons rfl (Flat.rep_enc _ (100:Int))<|.cons rfl (Flat.rep_enc _ (260:Int))<|.cons rfl (Flat.rep_enc _ (300:Int))<|.nil) rfl rfl rfl ?_;intro ao bm H;refine s_val (x_bld (ps:=[(0,I 0),(1,ao)]) (zs:=[I 0,.slice none 0 0]) (L':=[I 0,ao]) rfl Tryz.underlying38 Al38 rfl (Bd38 Tryz.underlying38) (.cons (cs:=[I 0]) rfl rfl rfl rfl rfl<|.cons (cs:=[ao]) (Sl.cells (H.os 0)) rfl rfl rfl rfl<|.nil)) ?_
 obtain ⟨bn,H⟩:=H.emptyE
 obtain ⟨bo,H,aM⟩:=H.freezeE (k:=3) rfl
 replace H:=H.nf
 have ak:=aM
 obtain ⟨bp,H,br,aN⟩:=H.joinE (i:=0) (j:=3) rfl rfl
 replace ak:=ak.mono aN
 obtain ⟨bt,H,aO⟩:=H.freezeE (k:=3) rfl
 replace H:=H.nf
 have ap:=aO
 obtain ⟨bu,H,aP,aQ⟩:=H.joinE (i:=0) (j:=3) rfl rfl
 replace ak:=ak.mono aP
 replace ap:=ap.mono aQ
 obtain ⟨bv,H,aR⟩:=H.freezeE (k:=3) rfl
 replace H:=H.nf
 have aA:=aR
 obtain ⟨aD,H,aE,aS⟩:=H.joinE (i:=0) (j:=3) rfl rfl
 replace ak:=ak.mono aE
 replace ap:=ap.mono aE
 replace aA:=aA.mono aS
 obtain ⟨aq,aF⟩:∃ r:Raw 1,r.cs=[I 0,al]:=⟨Raw.of [I 0,al] rfl (by simp only [List.all_cons,List.all_nil,Bool.true_and,Bool.and_true,Sl.oc ak]; try rfl),rfl⟩
 obtain ⟨au,aG⟩:∃ r:Raw 1,r.cs=[I 1,am]:=⟨Raw.of [I 1,am] rfl (by simp only [List.all_cons,List.all_nil,Bool.true_and,Bool.and_true,Sl.oc ap]; try rfl),rfl⟩
 obtain ⟨av,aH⟩:∃ r:Raw 1,r.cs=[I 0,ao]:=⟨Raw.of [I 0,ao] rfl (by simp only [List.all_cons,List.all_nil,Bool.true_and,Bool.and_true,Sl.oc aA]; try rfl),rfl⟩
 have aB:RepR (α:=Flood) aD.cells [aq,au,av] [(⟨(0:Int),([(200:Int),(250:Int),(310:Int)])⟩:Flood),(⟨(1:Int),([(280:Int),(240:Int),(290:Int)])⟩:Flood),(⟨(0:Int),([(100:Int),(260:Int),(300:Int)])⟩:Flood)]:=.cons (by rw [aF]; exact ⟨_,rfl,ak⟩)<|.cons (by rw [aG]; exact ⟨_,rfl,ap⟩)<|.cons (by rw [aH]; exact ⟨_,rfl,aA⟩)<|.nil
 refine t_bs (α:=Raw 1) T27 [.agg #[I 0,al],.agg #[I 1,am],.agg #[I 0,ao]] [aq,au,av] H rfl (.cons (by rw [show (Flat.enc aq:List Value)=aq.cs from rfl,aF]; rfl) (Flat.rep_enc _ _)<|.cons (by rw [show (Flat.enc au:List Value)=au.cs from rfl,aG]; rfl) (Flat.rep_enc _ _)<|.cons (by rw [show (Flat.enc av:List Value)=av.cs from rfl,aH]; rfl) (Flat.rep_enc _ _)<|.nil) rfl rfl rfl ?_;intro aj bw H;replace H:=H.nf;refine s_val (x_bld (ps:=[(0,ab),(1,ac),(2,ae),(3,ag),(4,.agg #[I ah,I ai]),(5,aj)]) (zs:=[.slice none 0 0,.slice none 0 0,.slice none 0 0,.slice none 0 0,I 0,I 0,.slice none 0 0]) (L':=[ab,ac,ae,ag,I ah,I ai,aj]) rfl Tryz.underlying29 Al29 rfl (Bd29 Tryz.underlying29) (.cons (cs:=[ab]) (Sl.cells (H.os 11)) rfl rfl rfl rfl<|.cons (cs:=[ac]) (Sl.cells (H.os 10)) rfl rfl rfl rfl<|.cons (cs:=[ae]) (Sl.cells (H.os 9)) rfl rfl rfl rfl<|.cons (cs:=[ag]) (Sl.cells (H.os 8)) rfl rfl rfl rfl<|.cons (cs:=[I ah,I ai]) rfl rfl rfl rfl rfl<|.cons (cs:=[aj]) (Sl.cells (rowSl rfl (H.get (k:=0) rfl) (roLe _ (H.get (k:=1) rfl)) aB)) rfl rfl rfl rfl<|.nil)) ?_;refine t_sw 12 0 [ab,ac,ae,ag,I ah,I ai,aj] (.agg #[ab,ac,ae,ag,I ah,I ai,aj]) H rfl rfl Sz29 rfl rfl rfl (by simp only [List.all_cons,List.all_nil,Bool.true_and,Bool.and_true,Sl.oc (H.os 11),Sl.oc (H.os 10),Sl.oc (H.os 9),Sl.oc (H.os 8),Sl.oc (rowSl rfl (H.get (k:=0) rfl) (roLe _ (H.get (k:=1) rfl)) aB)]; try rfl) ?_;intro bx H;refine s_nil ?_;replace H:=H.pk [0,1,8,9,10,11,12];refine W.ret ?_
 have aT:=(H.bl 6)
 have aU:=M.e_pure hM
 exact ⟨_,(resE_of1 (v:=.agg #[ab,ac,ae,ag,I ah,I ai,aj]) rfl (.cell (v:=.agg #[ab,ac,ae,ag,I ah,I ai,aj]) rfl (run_loadVar_ag (ds:=[ab,ac,ae,ag,I ah,I ai,aj]) Ag29 Sz29 aT rfl rfl)<|.nil)),⟨([(2:Int),(2:Int),(3:Int),(-1:Int)]),([(⟨(r0:Int),(r1:Int)⟩:Span),(⟨(aw:Int),(ax:Int)⟩:Span),(⟨(ay:Int),(az:Int)⟩:Span),(⟨(0:Int),(0:Int)⟩:Span)]),([(0:Int),(1:Int)]),([(⟨(3:Int),(lead:Int),(300:Int)⟩:Town)]),ah,ai,([(⟨(0:Int),([(200:Int),(250:Int),(310:Int)])⟩:Flood),(⟨(1:Int),([(280:Int),(240:Int),(290:Int)])⟩:Flood),(⟨(0:Int),([(100:Int),(260:Int),(300:Int)])⟩:Flood)]),ab,ac,ae,ag,aj,[aq,au,av],aD,aU,rfl,(H.pk [5,4,3,2,0,1]),aB⟩⟩

def zam (n aa greatest:Int):M Bool :=
  M.pure ((decide (aa<=n))&&(decide (n<=greatest)))
theorem zan {R:List Chunk}  (n:Int) (aa:Int) (greatest:Int)  {r:Bool} (hM:(zam n aa greatest).Ends r) (w:World) (H:St w w [] R):Ret Tryz.prog 45 #[I n,I aa,I greatest] w fun v w'=>∃ (y0:Bool),y0=r/\v=B y0/\St w w' [] R:=by
 refine ret_of_W Tryz.func45 rfl rfl rfl ?_;refine kg 13 ?_;refine s_val (x_pand (b:=decide (aa<=n)) (r:=decide (n<=greatest)) rfl (fun hb=>gd_of (c:=decide (aa<=n)) (by first | exact hb | (rw [hb]; rfl) | simp_all) (B (decide (n<=greatest)))) rfl) ?_;refine kg 2 ?_;refine W.ret ?_
 have ab:=M.e_pure hM
 exact ⟨_,resE_tmp rfl,⟨((decide (aa<=n))&&(decide (n<=greatest))),ab,rfl,H⟩⟩

def zdf (s:Span):M Bool :=
  M.bind (zam s.lo 0 s.hi) fun r2 =>
  M.bind (M.opt r2 (zam s.hi 0 1000) false) fun r3 =>
  M.pure (r2&&r3)
theorem zdQ {R:List Chunk}  (s:Span)  {r:Bool} (hM:(zdf s).Ends r) (w:World) (H:St w w [] R):Ret Tryz.prog 46 #[.agg #[I s.lo,I s.hi]] w fun v w'=>∃ (y0:Bool),y0=r/\v=B y0/\St w w' [] R:=by
 refine ret_of_W Tryz.func46 rfl rfl rfl ?_;refine kg 2 ?_;refine t_bx [I s.lo,I s.hi] H rfl ?_;intro ah ai H;refine kg 8 ?_;obtain ⟨aj,ac,hM⟩:=M.e_bind hM;refine s_call cf45 [I s.lo,I 0,I s.hi] rfl (zan s.lo 0 s.hi ac _ (H.gt 1)) ?_
 rintro vq ak ⟨r2,rfl,hvq,ab⟩
 subst vq;(try dsimp only at hM);replace H:=H.bk ab;clear ab;refine kg 3 ?_;obtain ⟨r3,ae,hM⟩:=M.e_bind hM;refine t_gcall r2 (gy_t rfl) cf45 (B r3) (fun _=>[I s.hi,I 0,I 1000]) (fun hg=>lst3 (gd_of hg (I s.hi)) rfl rfl) H (fun hg=>(zan s.hi 0 1000 (M.e_opt ae hg) _ (H.give (A:=[]) rfl)).mono fun v_ w_ ⟨y_,aa,ag,H_⟩=>by subst aa; exact ⟨ag,H.via H_⟩) ?_;intro al H;refine s_val (x_pand (b:=r2) (r:=r3) rfl (fun hb=>gd_of (c:=r2) (by first | exact hb | (rw [hb]; rfl) | simp_all) (B r3)) rfl) ?_;refine kg 2 ?_;refine W.ret ?_
 have aa:=M.e_pure hM
 exact ⟨_,resE_tmp rfl,⟨(r2&&r3),aa,rfl,(H.pk [])⟩⟩

def zcT (l:List Int) (aa:Int):(Int × Nat)->M ((Int × Nat) ⊕ (Unit ⊕ Unit)):=fun (last,s) =>
  bif decide ((s:Int)<(l.length:Int)) then (
  M.grd (decide ((s:Int)<(l.length:Int))) <|
  M.grd (decide ((-9223372036854775808:Int)<=(last+1))&&decide ((last+1)<=(9223372036854775807:Int))) <|
  M.grd (decide ((-9223372036854775808:Int)<=(aa-1))&&decide ((aa-1)<=(9223372036854775807:Int))) <|
  M.bind (zam (l.getD s 0) (last+1) (aa-1)) fun r2 =>
  bif !r2 then (
  M.pure (.inr (.inl ())))
  else (
  M.pure (.inl (l.getD s 0,s+1))))
  else (
  M.pure (.inr (.inr ())))
def zbg (l:List Int) (aa:Int):M Bool :=
  M.bind (M.iter (zcT l aa) (-1,0)) fun x_=>match x_ with
  | (.inl (_:Unit))=>(
  M.pure false)
  | (.inr (_:Unit))=>(
  M.pure true)
theorem zcw {R:List Chunk} {aj:Cells} {ac:Value} (l:List Int) (ab:Int) (ay:Reads R aj) (ao:Sl aj ac l) {r:Bool} (hM:(zbg l ab).Ends r) (w:World) (H:St w w [] R):Ret Tryz.prog 47 #[ac,I ab] w fun v w'=>∃ (y0:Bool),y0=r/\v=B y0/\St w w' [] R:=by
 refine ret_of_W Tryz.func47 rfl rfl rfl ?_
 have az:=(ao).len_le
 refine kg 16 ?_;obtain ⟨ap,ae,ak⟩:=M.e_bind hM
 obtain ⟨aA,ae⟩:=M.e_iter ae
 refine W.loop (fun m σ W=>∃ (last:Int) (s:Nat) (ρ:Env),σ=upds ρ [(1,I ab),(5,I last),(8,ac),(9,I (l.length:Int)),(10,I (s:Int))]/\M.iterN (zcT l ab) m (last,s)=some ap/\St w W [] R) ?_ ?_
 ·exact ⟨_,-1,0,_,upds_of _ _ ⟨rfl,rfl,rfl,rfl,rfl,trivial⟩,ae,H⟩
 rintro aB σ aC ⟨last,s,ρ,rfl,al,H⟩
 obtain ⟨aq,au,aD,hM,ag⟩:=M.e_iterN al
 simp only [zcT] at hM
 clear al;refine kg 5 ?_
 refine W.cond (decide ((s:Int)<(l.length:Int))) rfl (fun aa=>?_) (fun aa=>?_)
 ·replace hM:=M.e_t hM aa
  replace aa:=dI aa
  obtain ⟨aE,hM⟩:=M.e_gd hM;obtain ⟨aF,hM⟩:=M.e_gd hM;obtain ⟨aG,hM⟩:=M.e_gd hM;refine kg 17 ?_;obtain ⟨aH,av,hM⟩:=M.e_bind hM;refine s_call cf45 [I (l.getD s 0),I (last+1),I (ab-1)] rfl (zan (l.getD s 0) (last+1) (ab-1) av _ (H.gt 0)) ?_
  rintro vq aI ⟨r2,rfl,hvq,am⟩
  subst vq;(try dsimp only at hM);replace H:=H.bk am;clear am;refine kg 2 ?_
  refine W.cond (!r2) rfl (fun ah=>?_) (fun ah=>?_)
  ·replace hM:=M.e_t hM ah;refine kg 4 ?_;refine W.ret ?_
   have aw:=M.e_inr hM ag
   subst aw;replace hM:=ak;(try dsimp only at hM)
   have ai:=M.e_pure hM
   exact ⟨_,resE_tmp rfl,⟨false,ai,rfl,H⟩⟩
  replace hM:=M.e_f hM ah;refine kg 9 ?_
  exact ⟨aq,au,l.getD s 0,s+1,_,upds_of _ _ ⟨rfl,rfl,rfl,rfl,rfl,trivial⟩,M.e_inl hM ag,H⟩
 replace hM:=M.e_f hM aa
 replace aa:=dI aa
 refine W.exit ?_
 have ax:=M.e_inr hM ag
 subst ax;replace hM:=ak;(try dsimp only at hM);refine kg 4 ?_;refine W.ret ?_
 have ai:=M.e_pure hM
 exact ⟨_,resE_tmp rfl,⟨true,ai,rfl,H⟩⟩

def zc6 (s:List Town) (f:Town->M Bool):Nat->M (Nat ⊕ (Int ⊕ Unit)):=fun s2 =>
  bif decide ((s2:Int)<(s.length:Int)) then (
  M.grd (decide ((s2:Int)<(s.length:Int))) <|
  M.bind (f (s.getD s2 default)) fun r2 =>
  bif r2 then (
  M.pure (.inr (.inl (s2:Int))))
  else (
  M.pure (.inl (s2+1))))
  else (
  M.pure (.inr (.inr ())))
def zdr (s:List Town) (f:Town->M Bool):M Int :=
  M.bind (M.iter (zc6 s f) 0) fun x_=>match x_ with
  | (.inl s3)=>(
  M.pure s3)
  | (.inr (_:Unit))=>(
  M.pure (-1))
theorem zfo {R:List Chunk} {aj:Cells} {ab:Value} {ac:Value} (s:List Town) (f:Town->M Bool) (ao:Reads R aj) (ak:Sl aj ab s) (ap:FnM Tryz.prog R ac f) {r:Int} (hM:(zdr s f).Ends r) (w:World) (H:St w w [] R):Ret Tryz.prog 109 #[ab,ac] w fun v w'=>∃ (y0:Int),y0=r/\v=I y0/\St w w' [] R:=by
 refine ret_of_W Tryz.func109 rfl rfl rfl ?_
 have az:=(ak).len_le
 refine kg 12 ?_;obtain ⟨aq,ae,al⟩:=M.e_bind hM
 obtain ⟨aA,ae⟩:=M.e_iter ae
 refine W.loop (fun m σ W=>∃ (s2:Nat) (ρ:Env),σ=upds ρ [(0,ab),(1,ac),(7,I (s.length:Int)),(8,I (s2:Int))]/\M.iterN (zc6 s f) m s2=some aq/\St w W [] R) ?_ ?_
 ·exact ⟨_,0,_,upds_of _ _ ⟨rfl,rfl,rfl,rfl,trivial⟩,ae,H⟩
 rintro aB σ aC ⟨s2,ρ,rfl,am,H⟩
 obtain ⟨au,av,aD,hM,ag⟩:=M.e_iterN am
 simp only [zc6] at hM
 clear am;refine kg 5 ?_
 refine W.cond (decide ((s2:Int)<(s.length:Int))) rfl (fun aa=>?_) (fun aa=>?_)
 ·replace hM:=M.e_t hM aa
  replace aa:=dI aa
  obtain ⟨aE,hM⟩:=M.e_gd hM;refine kg 14 ?_;refine s_val (x_ld (v:=.agg #[I ((s.getD s2 default).station),I ((s.getD s2 default).lead),I ((s.getD s2 default).alarm)]) rfl (ld_ag Ag36 Sz36 (At.mono (Town_atA ak (i:=(s2:Int)) (by omega) (by omega)) (ao.at H)))) ?_;obtain ⟨r2,aw,hM⟩:=M.e_bind hM;refine t_callM H ap rfl rfl (s.getD s2 default) Reads.none ⟨_,rfl,rfl⟩ aw ?_;intro aF H;refine s_nil ?_
  refine W.cond r2 rfl (fun ah=>?_) (fun ah=>?_)
  ·replace hM:=M.e_t hM ah;refine kg 5 ?_;refine W.ret ?_
   have ax:=M.e_inr hM ag
   subst ax;replace hM:=al;(try dsimp only at hM)
   have ai:=M.e_pure hM
   exact ⟨_,resE_tmp rfl,⟨(s2:Int),ai,rfl,H⟩⟩
  replace hM:=M.e_f hM ah;refine kg 5 ?_
  exact ⟨au,av,s2+1,_,upds_of _ _ ⟨rfl,rfl,rfl,rfl,trivial⟩,M.e_inl hM ag,H⟩
 replace hM:=M.e_f hM aa
 replace aa:=dI aa
 refine W.exit ?_
 have ay:=M.e_inr hM ag
 subst ay;replace hM:=al;(try dsimp only at hM);refine kg 4 ?_;refine W.ret ?_
 have ai:=M.e_pure hM
 exact ⟨_,resE_tmp rfl,⟨(-1),ai,rfl,H⟩⟩

def zbs (s:List Town) (f:Town->M Bool):M Bool :=
  M.bind (zdr s f) fun r2 =>
  M.pure (decide (0<=r2))
theorem zcE {R:List Chunk} {ac:Cells} {aa:Value} {ab:Value} (s:List Town) (f:Town->M Bool) (ag:Reads R ac) (ah:Sl ac aa s) (ai:FnM Tryz.prog R ab f) {r:Bool} (hM:(zbs s f).Ends r) (w:World) (H:St w w [] R):Ret Tryz.prog 93 #[aa,ab] w fun v w'=>∃ (y0:Bool),y0=r/\v=B y0/\St w w' [] R:=by
 refine ret_of_W Tryz.func93 rfl rfl rfl ?_;refine kg 8 ?_;obtain ⟨al,aj,hM⟩:=M.e_bind hM;refine s_call cf109 [aa,ab] rfl (zfo s f (ag.app _) ah (ai.app _) aj _ (H.gt 0)) ?_
 rintro vq am ⟨r2,rfl,hvq,ae⟩
 subst vq;(try dsimp only at hM);replace H:=H.bk ae;clear ae;refine kg 3 ?_;refine W.ret ?_
 have ak:=M.e_pure hM
 exact ⟨_,resE_tmp rfl,⟨(decide (0<=r2)),ak,rfl,H⟩⟩

def zbV (x:Town) (aa:Town->M Bool):M Bool :=
  M.bind (aa x) fun r2 =>
  M.pure (!r2)
theorem ze3 {R:List Chunk} {aa:Nat} {ab:Value} (x:Town) (ac:Town->M Bool) (ae:FnM Tryz.prog R ab ac) (ai:Has R (cBlk aa [ab] 97)) {r:Bool} (hM:(zbV x ac).Ends r) (w:World) (H:St w w [] R):Ret Tryz.prog 94 #[.agg #[I x.station,I x.lead,I x.alarm],Pq aa] w fun v w'=>∃ (y0:Bool),y0=r/\v=B y0/\St w w' [] R:=by
 refine ret_of_W Tryz.func94 rfl rfl rfl ?_;refine kg 2 ?_;refine t_bx [I x.station,I x.lead,I x.alarm] H rfl ?_;intro aj ak H;refine kg 6 ?_;obtain ⟨r2,ag,hM⟩:=M.e_bind hM;refine t_callM H ae rfl rfl x Reads.none ⟨_,rfl,rfl⟩ ag ?_;intro al H;refine kg 3 ?_;refine W.ret ?_
 have ah:=M.e_pure hM
 exact ⟨_,resE_tmp rfl,⟨(!r2),ah,rfl,(H.pk [])⟩⟩

def zcW (l:List Town) (so:Town->M Bool):M Bool :=
  M.bind (zbs l (fun aa=>zbV aa so)) fun r2 =>
  M.pure (!r2)
theorem zdH {R:List Chunk} {ag:Cells} {ab:Value} {aa:Value} (l:List Town) (so:Town->M Bool) (ak:Reads R ag) (al:Sl ag ab l) (ah:FnM Tryz.prog R aa so) {r:Bool} (hM:(zcW l so).Ends r) (w:World) (H:St w w [] R):Ret Tryz.prog 48 #[ab,aa] w fun v w'=>∃ (y0:Bool),y0=r/\v=B y0/\St w w' [] R:=by
 refine ret_of_W Tryz.func48 rfl rfl rfl ?_;refine kg 2 ?_;refine t_box (v:=aa) (cs:=[aa]) H rfl (FnM.cells ah) ?_;intro ac az H;refine kg 5 ?_;refine s_val (x_mf (fs:=[]) (cs:=[Pq ac]) rfl rfl) ?_;obtain ⟨aA,am,hM⟩:=M.e_bind hM;refine s_call cf93 [ab,.func (.func 94) #[] #[Pq ac]] rfl (zcE l (fun ae=>zbV ae so) (ak.app _) al ⟨94,[Pq ac],rfl,cf94,fun ai aB aC ao ae aD ap aE aq au=>by obtain rfl:=Town_arg aq; exact (ze3 ae so (FnM.app (ah.app _) _) (Has.app (Has.here (k:=0) rfl) _) au ai (St.refl ap)).mono fun ao ai ⟨aF,av,aw,ax⟩=>by subst av; exact ⟨aw,ax⟩⟩ am _ (H.gt 1)) ?_
 rintro vq aG ⟨r2,rfl,hvq,aj⟩
 subst vq;(try dsimp only at hM);replace H:=H.bk aj;clear aj;refine kg 3 ?_;refine W.ret ?_
 have ay:=M.e_pure hM
 exact ⟨_,resE_tmp rfl,⟨(!r2),ay,rfl,(H.pk [])⟩⟩

def zbm (n:Int):M Bool :=
  M.bind (zam n 0 2000) fun r2 =>
  M.pure r2
theorem zd5 {R:List Chunk}  (n:Int)  {r:Bool} (hM:(zbm n).Ends r) (w:World) (H:St w w [] R):Ret Tryz.prog 54 #[I n] w fun v w'=>∃ (y0:Bool),y0=r/\v=B y0/\St w w' [] R:=by
 refine ret_of_W Tryz.func54 rfl rfl rfl ?_;refine kg 7 ?_;obtain ⟨ae,ab,hM⟩:=M.e_bind hM;refine s_call cf45 [I n,I 0,I 2000] rfl (zan n 0 2000 ab _ (H.gt 0)) ?_
 rintro vq ag ⟨r2,rfl,hvq,aa⟩
 subst vq;(try dsimp only at hM);replace H:=H.bk aa;clear aa;refine kg 2 ?_;refine W.ret ?_
 have ac:=M.e_pure hM
 exact ⟨_,resE_tmp rfl,⟨r2,ac,rfl,H⟩⟩

def zb5 (t:Town):M Bool :=
  M.bind (zam t.lead 0 1000) fun r2 =>
  M.bind (M.opt r2 (zbm t.alarm) false) fun r3 =>
  M.pure (r2&&r3)
theorem zfn {R:List Chunk}  (t:Town)  {r:Bool} (hM:(zb5 t).Ends r) (w:World) (H:St w w [] R):Ret Tryz.prog 49 #[.agg #[I t.station,I t.lead,I t.alarm]] w fun v w'=>∃ (y0:Bool),y0=r/\v=B y0/\St w w' [] R:=by
 refine ret_of_W Tryz.func49 rfl rfl rfl ?_;refine kg 2 ?_;refine t_bx [I t.station,I t.lead,I t.alarm] H rfl ?_;intro ah ai H;refine kg 6 ?_;obtain ⟨aj,ac,hM⟩:=M.e_bind hM;refine s_call cf45 [I t.lead,I 0,I 1000] rfl (zan t.lead 0 1000 ac _ (H.gt 1)) ?_
 rintro vq ak ⟨r2,rfl,hvq,ab⟩
 subst vq;(try dsimp only at hM);replace H:=H.bk ab;clear ab;refine kg 3 ?_;obtain ⟨r3,ae,hM⟩:=M.e_bind hM;refine t_gcall r2 (gy_t rfl) cf54 (B r3) (fun _=>[I t.alarm]) (fun hg=>lst1 (gd_of hg (I t.alarm))) H (fun hg=>(zd5 t.alarm (M.e_opt ae hg) _ (H.give (A:=[]) rfl)).mono fun v_ w_ ⟨y_,aa,ag,H_⟩=>by subst aa; exact ⟨ag,H.via H_⟩) ?_;intro al H;refine s_val (x_pand (b:=r2) (r:=r3) rfl (fun hb=>gd_of (c:=r2) (by first | exact hb | (rw [hb]; rfl) | simp_all) (B r3)) rfl) ?_;refine kg 2 ?_;refine W.ret ?_
 have aa:=M.e_pure hM
 exact ⟨_,resE_tmp rfl,⟨(r2&&r3),aa,rfl,(H.pk [])⟩⟩

def zbM (t:Town) (aa:Int):M Bool :=
  M.grd (decide ((-9223372036854775808:Int)<=(aa-1))&&decide ((aa-1)<=(9223372036854775807:Int))) <|
  M.bind (zam t.station 0 (aa-1)) fun r2 =>
  M.pure r2
theorem zeL {R:List Chunk} {ab:Nat} (t:Town) (aa:Int) (ah:Has R (cBlk ab [I aa] 3)) {r:Bool} (hM:(zbM t aa).Ends r) (w:World) (H:St w w [] R):Ret Tryz.prog 50 #[.agg #[I t.station,I t.lead,I t.alarm],Pq ab] w fun v w'=>∃ (y0:Bool),y0=r/\v=B y0/\St w w' [] R:=by
 refine ret_of_W Tryz.func50 rfl rfl rfl ?_;refine kg 2 ?_;refine t_bx [I t.station,I t.lead,I t.alarm] H rfl ?_;intro ai aj H;obtain ⟨ak,hM⟩:=M.e_gd hM;refine kg 8 ?_;obtain ⟨al,ae,hM⟩:=M.e_bind hM;refine s_call cf45 [I t.station,I 0,I (aa-1)] rfl (zan t.station 0 (aa-1) ae _ (H.gt 1)) ?_
 rintro vq am ⟨r2,rfl,hvq,ac⟩
 subst vq;(try dsimp only at hM);replace H:=H.bk ac;clear ac;refine kg 2 ?_;refine W.ret ?_
 have ag:=M.e_pure hM
 exact ⟨_,resE_tmp rfl,⟨r2,ag,rfl,(H.pk [])⟩⟩

def zcU (s:List Int) (v:Int):Nat->M (Nat ⊕ (Int ⊕ Unit)):=fun s2 =>
  bif decide ((s2:Int)<(s.length:Int)) then (
  M.grd (decide ((s2:Int)<(s.length:Int))) <|
  bif v==(s.getD s2 0) then (
  M.pure (.inr (.inl (s2:Int))))
  else (
  M.pure (.inl (s2+1))))
  else (
  M.pure (.inr (.inr ())))
def zcr (s:List Int) (v:Int):M Int :=
  M.bind (M.iter (zcU s v) 0) fun x_=>match x_ with
  | (.inl s3)=>(
  M.pure s3)
  | (.inr (_:Unit))=>(
  M.pure (-1))
theorem zec {R:List Chunk} {ai:Cells} {ac:Value} (s:List Int) (v:Int) (av:Reads R ai) (al:Sl ai ac s) {r:Int} (hM:(zcr s v).Ends r) (w:World) (H:St w w [] R):Ret Tryz.prog 90 #[ac,I v] w fun v w'=>∃ (y0:Int),y0=r/\v=I y0/\St w w' [] R:=by
 refine ret_of_W Tryz.func90 rfl rfl rfl ?_
 have aw:=(al).len_le
 refine kg 12 ?_;obtain ⟨am,ae,aj⟩:=M.e_bind hM
 obtain ⟨ax,ae⟩:=M.e_iter ae
 refine W.loop (fun m σ W=>∃ (s2:Nat) (ρ:Env),σ=upds ρ [(0,ac),(1,I v),(7,I (s.length:Int)),(8,I (s2:Int))]/\M.iterN (zcU s v) m s2=some am/\St w W [] R) ?_ ?_
 ·exact ⟨_,0,_,upds_of _ _ ⟨rfl,rfl,rfl,rfl,trivial⟩,ae,H⟩
 rintro ay σ az ⟨s2,ρ,rfl,ak,H⟩
 obtain ⟨ao,ap,aA,hM,ag⟩:=M.e_iterN ak
 simp only [zcU] at hM
 clear ak;refine kg 5 ?_
 refine W.cond (decide ((s2:Int)<(s.length:Int))) rfl (fun aa=>?_) (fun aa=>?_)
 ·replace hM:=M.e_t hM aa
  replace aa:=dI aa
  obtain ⟨aB,hM⟩:=M.e_gd hM;refine kg 17 ?_
  refine W.cond (v==(s.getD s2 0)) rfl (fun ab=>?_) (fun ab=>?_)
  ·replace hM:=M.e_t hM ab
   replace ab:=dI ab
   refine kg 5 ?_;refine W.ret ?_
   have aq:=M.e_inr hM ag
   subst aq;replace hM:=aj;(try dsimp only at hM)
   have ah:=M.e_pure hM
   exact ⟨_,resE_tmp rfl,⟨(s2:Int),ah,rfl,H⟩⟩
  replace hM:=M.e_f hM ab
  replace ab:=dI ab
  refine kg 5 ?_
  exact ⟨ao,ap,s2+1,_,upds_of _ _ ⟨rfl,rfl,rfl,rfl,trivial⟩,M.e_inl hM ag,H⟩
 replace hM:=M.e_f hM aa
 replace aa:=dI aa
 refine W.exit ?_
 have au:=M.e_inr hM ag
 subst au;replace hM:=aj;(try dsimp only at hM);refine kg 4 ?_;refine W.ret ?_
 have ah:=M.e_pure hM
 exact ⟨_,resE_tmp rfl,⟨(-1),ah,rfl,H⟩⟩

def zeh (s:List Int) (v:Int):M Bool :=
  M.bind (zcr s v) fun r2 =>
  M.pure (decide (0<=r2))
theorem zeZ {R:List Chunk} {ab:Cells} {aa:Value} (s:List Int) (v:Int) (ae:Reads R ab) (ag:Sl ab aa s) {r:Bool} (hM:(zeh s v).Ends r) (w:World) (H:St w w [] R):Ret Tryz.prog 52 #[aa,I v] w fun v w'=>∃ (y0:Bool),y0=r/\v=B y0/\St w w' [] R:=by
 refine ret_of_W Tryz.func52 rfl rfl rfl ?_;refine kg 8 ?_;obtain ⟨aj,ah,hM⟩:=M.e_bind hM;refine s_call cf90 [aa,I v] rfl (zec s v (ae.app _) ag ah _ (H.gt 0)) ?_
 rintro vq ak ⟨r2,rfl,hvq,ac⟩
 subst vq;(try dsimp only at hM);replace H:=H.bk ac;clear ac;refine kg 3 ?_;refine W.ret ?_
 have ai:=M.e_pure hM
 exact ⟨_,resE_tmp rfl,⟨(decide (0<=r2)),ai,rfl,H⟩⟩

def zcn (s:List Int) (f:Int->M Bool):Nat->M (Nat ⊕ (Int ⊕ Unit)):=fun s2 =>
  bif decide ((s2:Int)<(s.length:Int)) then (
  M.grd (decide ((s2:Int)<(s.length:Int))) <|
  M.bind (f (s.getD s2 0)) fun r2 =>
  bif r2 then (
  M.pure (.inr (.inl (s2:Int))))
  else (
  M.pure (.inl (s2+1))))
  else (
  M.pure (.inr (.inr ())))
def zen (s:List Int) (f:Int->M Bool):M Int :=
  M.bind (M.iter (zcn s f) 0) fun x_=>match x_ with
  | (.inl s3)=>(
  M.pure s3)
  | (.inr (_:Unit))=>(
  M.pure (-1))
theorem zfj {R:List Chunk} {aj:Cells} {ab:Value} {ac:Value} (s:List Int) (f:Int->M Bool) (ay:Reads R aj) (am:Sl aj ab s) (ao:FnM Tryz.prog R ac f) {r:Int} (hM:(zen s f).Ends r) (w:World) (H:St w w [] R):Ret Tryz.prog 100 #[ab,ac] w fun v w'=>∃ (y0:Int),y0=r/\v=I y0/\St w w' [] R:=by
 refine ret_of_W Tryz.func100 rfl rfl rfl ?_
 have az:=(am).len_le
 refine kg 12 ?_;obtain ⟨ap,ae,ak⟩:=M.e_bind hM
 obtain ⟨aA,ae⟩:=M.e_iter ae
 refine W.loop (fun m σ W=>∃ (s2:Nat) (ρ:Env),σ=upds ρ [(0,ab),(1,ac),(7,I (s.length:Int)),(8,I (s2:Int))]/\M.iterN (zcn s f) m s2=some ap/\St w W [] R) ?_ ?_
 ·exact ⟨_,0,_,upds_of _ _ ⟨rfl,rfl,rfl,rfl,trivial⟩,ae,H⟩
 rintro aB σ aC ⟨s2,ρ,rfl,al,H⟩
 obtain ⟨aq,au,aD,hM,ag⟩:=M.e_iterN al
 simp only [zcn] at hM
 clear al;refine kg 5 ?_
 refine W.cond (decide ((s2:Int)<(s.length:Int))) rfl (fun aa=>?_) (fun aa=>?_)
 ·replace hM:=M.e_t hM aa
  replace aa:=dI aa
  obtain ⟨aE,hM⟩:=M.e_gd hM;refine kg 15 ?_;obtain ⟨r2,av,hM⟩:=M.e_bind hM;refine t_callM H ao rfl rfl (s.getD s2 0) Reads.none (Arg.mkI (fun _=>none) _) av ?_;intro aF H;refine s_nil ?_
  refine W.cond r2 rfl (fun ah=>?_) (fun ah=>?_)
  ·replace hM:=M.e_t hM ah;refine kg 5 ?_;refine W.ret ?_
   have aw:=M.e_inr hM ag
   subst aw;replace hM:=ak;(try dsimp only at hM)
   have ai:=M.e_pure hM
   exact ⟨_,resE_tmp rfl,⟨(s2:Int),ai,rfl,H⟩⟩
  replace hM:=M.e_f hM ah;refine kg 5 ?_
  exact ⟨aq,au,s2+1,_,upds_of _ _ ⟨rfl,rfl,rfl,rfl,trivial⟩,M.e_inl hM ag,H⟩
 replace hM:=M.e_f hM aa
 replace aa:=dI aa
 refine W.exit ?_
 have ax:=M.e_inr hM ag
 subst ax;replace hM:=ak;(try dsimp only at hM);refine kg 4 ?_;refine W.ret ?_
 have ai:=M.e_pure hM
 exact ⟨_,resE_tmp rfl,⟨(-1),ai,rfl,H⟩⟩

def za7 (s:List Int) (f:Int->M Bool):M Bool :=
  M.bind (zen s f) fun r2 =>
  M.pure (decide (0<=r2))
theorem zc2 {R:List Chunk} {ac:Cells} {aa:Value} {ab:Value} (s:List Int) (f:Int->M Bool) (ag:Reads R ac) (ah:Sl ac aa s) (ai:FnM Tryz.prog R ab f) {r:Bool} (hM:(za7 s f).Ends r) (w:World) (H:St w w [] R):Ret Tryz.prog 78 #[aa,ab] w fun v w'=>∃ (y0:Bool),y0=r/\v=B y0/\St w w' [] R:=by
 refine ret_of_W Tryz.func78 rfl rfl rfl ?_;refine kg 8 ?_;obtain ⟨al,aj,hM⟩:=M.e_bind hM;refine s_call cf100 [aa,ab] rfl (zfj s f (ag.app _) ah (ai.app _) aj _ (H.gt 0)) ?_
 rintro vq am ⟨r2,rfl,hvq,ae⟩
 subst vq;(try dsimp only at hM);replace H:=H.bk ae;clear ae;refine kg 3 ?_;refine W.ret ?_
 have ak:=M.e_pure hM
 exact ⟨_,resE_tmp rfl,⟨(decide (0<=r2)),ak,rfl,H⟩⟩

def zcH (x:Int) (aa:Int->M Bool):M Bool :=
  M.bind (aa x) fun r2 =>
  M.pure (!r2)
theorem zfg {R:List Chunk} {aa:Nat} {ab:Value} (x:Int) (ac:Int->M Bool) (ae:FnM Tryz.prog R ab ac) (ai:Has R (cBlk aa [ab] 102)) {r:Bool} (hM:(zcH x ac).Ends r) (w:World) (H:St w w [] R):Ret Tryz.prog 96 #[I x,Pq aa] w fun v w'=>∃ (y0:Bool),y0=r/\v=B y0/\St w w' [] R:=by
 refine ret_of_W Tryz.func96 rfl rfl rfl ?_;refine kg 8 ?_;obtain ⟨r2,ag,hM⟩:=M.e_bind hM;refine t_callM H ae rfl rfl x Reads.none (Arg.mkI (fun _=>none) _) ag ?_;intro aj H;refine kg 3 ?_;refine W.ret ?_
 have ah:=M.e_pure hM
 exact ⟨_,resE_tmp rfl,⟨(!r2),ah,rfl,H⟩⟩

end Go.Proofs.YtbldmjejckjflabGreat
end
section
set_option maxRecDepth 100000
set_option maxHeartbeats 16000000
namespace Go.Proofs.YtbldmjejckjflabGreat
open Go Go.Nm
attribute [local irreducible] gd execOp SL SLD SLT WR
def zcm (l:List Int) (so:Int->M Bool):M Bool :=
  M.bind (za7 l (fun aa=>zcH aa so)) fun r2 =>
  M.pure (!r2)
theorem zeo {R:List Chunk} {ag:Cells} {ab:Value} {aa:Value} (l:List Int) (so:Int->M Bool) (ak:Reads R ag) (al:Sl ag ab l) (ah:FnM Tryz.prog R aa so) {r:Bool} (hM:(zcm l so).Ends r) (w:World) (H:St w w [] R):Ret Tryz.prog 53 #[ab,aa] w fun v w'=>∃ (y0:Bool),y0=r/\v=B y0/\St w w' [] R:=by
 refine ret_of_W Tryz.func53 rfl rfl rfl ?_;refine kg 2 ?_;refine t_box (v:=aa) (cs:=[aa]) H rfl (FnM.cells ah) ?_;intro ac az H;refine kg 5 ?_;refine s_val (x_mf (fs:=[]) (cs:=[Pq ac]) rfl rfl) ?_;obtain ⟨aA,am,hM⟩:=M.e_bind hM;refine s_call cf78 [ab,.func (.func 96) #[] #[Pq ac]] rfl (zc2 l (fun ae=>zcH ae so) (ak.app _) al ⟨96,[Pq ac],rfl,cf96,fun ai aB aC ao ae aD ap aE aq au=>by obtain rfl:=Arg.int aq; exact (zfg ae so (FnM.app (ah.app _) _) (Has.app (Has.here (k:=0) rfl) _) au ai (St.refl ap)).mono fun ao ai ⟨aF,av,aw,ax⟩=>by subst av; exact ⟨aw,ax⟩⟩ am _ (H.gt 1)) ?_
 rintro vq aG ⟨r2,rfl,hvq,aj⟩
 subst vq;(try dsimp only at hM);replace H:=H.bk aj;clear aj;refine kg 3 ?_;refine W.ret ?_
 have ay:=M.e_pure hM
 exact ⟨_,resE_tmp rfl,⟨(!r2),ay,rfl,(H.pk [])⟩⟩

def zde (aa:List Int) (ab:List Span):Nat->M (Nat ⊕ (Int ⊕ Unit)):=fun s =>
  bif decide ((s:Int)<(aa.length:Int)) then (
  M.grd (decide ((s:Int)<(aa.length:Int))) <|
  M.bind (M.opt ((aa.getD s 0) != (-1)) (zam (aa.getD s 0) ((s:Int)+1) ((aa.length:Int)-1)) false) fun r4 =>
  bif (((aa.getD s 0) != (-1))&&(!r4)) then (
  M.pure (.inr (.inl 2)))
  else (
  M.grd (decide ((s:Int)<(ab.length:Int))) <|
  M.bind (zdf (ab.getD s default)) fun r5 =>
  bif !r5 then (
  M.pure (.inr (.inl 130)))
  else (
  M.pure (.inl (s+1)))))
  else (
  M.pure (.inr (.inr ())))
def zaQ  : Int->(Int × Int)->M (Int ⊕ Unit):=fun s3 (x,x2) =>
  M.grd (decide ((-9223372036854775808:Int)<=(s3+1))&&decide ((s3+1)<=(9223372036854775807:Int))) <|
  M.pure (.inl (s3+1))
def zb6 (ac:List Int) (ae:List Span) (ab:List Int) (ag:List Town) (ah ai:Int) (aa:List Flood):Nat->M (Nat ⊕ (Int ⊕ Unit)):=fun s4 =>
  bif decide ((s4:Int)<(aa.length:Int)) then (
  M.grd (decide ((s4:Int)<(aa.length:Int))) <|
  M.bind (zaE ac ae ab ag ah ai aa (max 0 ((aa.getD s4 default).spring))) fun (aj,ak,al) =>
  M.bind (zaG (M.yl zaQ) (.inl 0) aj ac ae ab ag ak al aa) fun x_=>match x_ with
  | (.inl s3,q0)=>(
  M.bind (zeh ab ((aa.getD s4 default).spring)) fun am =>
  bif ((!am)||((((aa.getD s4 default).stages).length:Int) != s3)) then (
  M.pure (.inr (.inl 2)))
  else (
  M.bind (zcm ((aa.getD s4 default).stages) (fun ao=>zbm ao)) fun ap =>
  bif !ap then (
  M.pure (.inr (.inl 130)))
  else (
  M.pure (.inl (s4+1)))))
  | (.inr _,_)=>M.fail)
  else (
  M.pure (.inr (.inr ())))
def zaA (aa:List Int) (ab:List Span) (ae:List Int) (ac:List Town) (ah ai:Int) (aj:List Flood):M Int :=
  M.bind (zam (aa.length:Int) 1 12) fun r2 =>
  M.bind (M.opt (!((!r2)||((ab.length:Int) != (aa.length:Int)))) (zam (ae.length:Int) 1 8) false) fun r3 =>
  bif (((((!r2)||((ab.length:Int) != (aa.length:Int)))||(!r3))||(decide (8<(ac.length:Int))))||(decide (20<(aj.length:Int)))) then (
  M.pure 3)
  else (
  M.bind (M.iter (zde aa ab) 0) fun x_=>match x_ with
  | (.inl s2)=>(
  M.pure s2)
  | (.inr (_:Unit))=>(
  M.bind (zbg ae (aa.length:Int)) fun r6 =>
  bif !r6 then (
  M.pure 9)
  else (
  M.bind (zcW ac (fun ag=>zb5 ag)) fun r7 =>
  M.bind (M.opt (!(!r7)) (zcW ac (fun ag=>zbM ag (aa.length:Int))) false) fun r8 =>
  M.bind (M.opt (!((!r7)||(!r8))) (zdf (⟨(ah:Int),(ai:Int)⟩:Span)) false) fun r9 =>
  bif (((!r7)||(!r8))||(!r9)) then (
  M.pure 130)
  else (
  M.bind (M.iter (zb6 aa ab ae ac ah ai aj) 0) fun x_=>match x_ with
  | (.inl s5)=>(
  M.pure s5)
  | (.inr (_:Unit))=>(
  M.pure 0)))))
theorem zaK {R:List Chunk} {bA:Cells} {ao:Value} {bB:Cells} {aq:Value} {bC:Cells} {ai:Value} {bD:Cells} {ah:Value} {bE:Cells} {aj:Value} (aa:List Int) (ab:List Span) (aw:List Int) (ak:List Town) (al:Int) (am:Int) (ac:List Flood) (aZ:Reads R bA) (aN:Sl bA ao aa) (a6:Reads R bB) (a7:Sl bB aq ab) (aG:Reads R bC) (az:Sl bC ai aw) (aH:Reads R bD) (aA:Sl bD ah ak) (aI:Reads R bE) (aB:Sl bE aj ac) {r:Int} (hM:(zaA aa ab aw ak al am ac).Ends r) (w:World) (H:St w w [] R):Ret Tryz.prog 9 #[.agg #[ao,aq,ai,ah,I al,I am,aj]] w fun v w'=>∃ (y0:Int),y0=r/\v=I y0/\St w w' [] R:=by
 refine ret_of_WD Tryz.func9 rfl rfl rfl ?_
 replace H:St w w [cMk ([])] R:=H.mk0
 have cm:=aN.len_le
 have cn:=a7.len_le
 have co:=az.len_le
 have cp:=aA.len_le
 have cq:=aB.len_le
 unfold zaA at hM
 refine WD.seq<|WD.of<|W.region rfl ?_;refine t_bx [ao,aq,ai,ah,I al,I am,aj] H rfl ?_;intro ap cr H;refine kg 2 ?_;refine WD.seq<|WD.of ?_
 have ct:=(aN).len_le
 refine kg 4 ?_;refine t_alloc (cs:=[I 0]) H Al3 rfl ?_;intro au cu H;refine t_sw 0 0 [I (aa.length:Int)] (I (aa.length:Int)) H rfl rfl Sz3 rfl rfl rfl rfl ?_;intro cv H;refine s_nil<|WD.seq<|WD.seq<|WD.of ?_;refine kg 2 ?_;obtain ⟨cw,bO,hM⟩:=M.e_bind hM;refine s_call cf45 [I (aa.length:Int),I 1,I 12] rfl (zan (aa.length:Int) 1 12 bO _ (H.gt 3)) ?_
 rintro vq cx ⟨r2,rfl,hvq,ae⟩
 subst vq;(try dsimp only at hM);replace H:=H.bk ae;clear ae
 have cy:=(a7).len_le
 refine kg 7 ?_;refine s_val (x_por (b:=!r2) (r:=(ab.length:Int) != (aa.length:Int)) rfl rfl (fun hb=>gd_of (c:=!(!r2)) (by first | exact hb | (rw [hb]; rfl) | simp_all) (B ((ab.length:Int) != (aa.length:Int)))))<|zM (B ((!r2)||((ab.length:Int) != (aa.length:Int)))) rfl<|g_val (!((!r2)||((ab.length:Int) != (aa.length:Int)))) (gy_f rfl) (fun hg=>x_fa (v:=Oq ap 2) rfl (fa_blk (o:=0) Fd29_2 Sz22))<|g_val (!((!r2)||((ab.length:Int) != (aa.length:Int)))) (gy_f rfl) (fun hg=>x_ld (v:=ai) (gd_of hg (Oq ap 2)) (ldb_sc Sc22 (H.bl 1) rfl)) ?_
 have cz:=(az).len_le
 refine g_val (!((!r2)||((ab.length:Int) != (aa.length:Int)))) (gy_f rfl) (fun hg=>x_lenS T22.und (gd_of hg (ai)) az) ?_;obtain ⟨r3,bP,hM⟩:=M.e_bind hM;refine t_gcall (!((!r2)||((ab.length:Int) != (aa.length:Int)))) (gy_f rfl) cf45 (B r3) (fun _=>[I (aw.length:Int),I 1,I 8]) (fun hg=>lst3 (gd_of hg (I (aw.length:Int))) rfl rfl) H (fun hg=>(zan (aw.length:Int) 1 8 (M.e_opt bP hg) _ (H.give (A:=[]) rfl)).mono fun v_ w_ ⟨y_,ag,aC,H_⟩=>by subst ag; exact ⟨aC,H.via H_⟩) ?_;intro cA H;refine g_val (!((!r2)||((ab.length:Int) != (aa.length:Int)))) (gy_f rfl) (fun hg=>x_not (b:=r3) (gd_of hg (B r3)))<|s_val (x_por (b:=((!r2)||((ab.length:Int) != (aa.length:Int)))) (r:=!r3) rfl rfl (fun hb=>gd_of (c:=!((!r2)||((ab.length:Int) != (aa.length:Int)))) (by first | exact hb | (rw [hb]; rfl) | simp_all) (B (!r3))))<|zM (B (((!r2)||((ab.length:Int) != (aa.length:Int)))||(!r3))) rfl<|g_val (!(((!r2)||((ab.length:Int) != (aa.length:Int)))||(!r3))) (gy_f rfl) (fun hg=>x_fa (v:=Oq ap 3) rfl (fa_blk (o:=0) Fd29_3 Sz24))<|g_val (!(((!r2)||((ab.length:Int) != (aa.length:Int)))||(!r3))) (gy_f rfl) (fun hg=>x_ld (v:=ah) (gd_of hg (Oq ap 3)) (ldb_sc Sc24 (H.bl 1) rfl)) ?_
 have cB:=(aA).len_le
 refine g_val (!(((!r2)||((ab.length:Int) != (aa.length:Int)))||(!r3))) (gy_f rfl) (fun hg=>x_lenS T24.und (gd_of hg (ah)) aA)<|g_val (!(((!r2)||((ab.length:Int) != (aa.length:Int)))||(!r3))) (gy_f rfl) (fun hg=>x_cmp (kd:=.i64) (r:=decide (8<(ak.length:Int))) (gd_of hg (I (ak.length:Int))) rfl rfl)<|s_val (x_por (b:=(((!r2)||((ab.length:Int) != (aa.length:Int)))||(!r3))) (r:=decide (8<(ak.length:Int))) rfl rfl (fun hb=>gd_of (c:=!(((!r2)||((ab.length:Int) != (aa.length:Int)))||(!r3))) (by first | exact hb | (rw [hb]; rfl) | simp_all) (B (decide (8<(ak.length:Int))))))<|zM (B ((((!r2)||((ab.length:Int) != (aa.length:Int)))||(!r3))||(decide (8<(ak.length:Int))))) rfl<|g_val (!((((!r2)||((ab.length:Int) != (aa.length:Int)))||(!r3))||(decide (8<(ak.length:Int))))) (gy_f rfl) (fun hg=>x_fa (v:=Oq ap 6) rfl (fa_blk (o:=0) Fd29_5 Sz27))<|g_val (!((((!r2)||((ab.length:Int) != (aa.length:Int)))||(!r3))||(decide (8<(ak.length:Int))))) (gy_f rfl) (fun hg=>x_ld (v:=aj) (gd_of hg (Oq ap 6)) (ldb_sc Sc27 (H.bl 1) rfl)) ?_
 have cC:=(aB).len_le
 refine g_val (!((((!r2)||((ab.length:Int) != (aa.length:Int)))||(!r3))||(decide (8<(ak.length:Int))))) (gy_f rfl) (fun hg=>x_lenS T27.und (gd_of hg (aj)) aB)<|g_val (!((((!r2)||((ab.length:Int) != (aa.length:Int)))||(!r3))||(decide (8<(ak.length:Int))))) (gy_f rfl) (fun hg=>x_cmp (kd:=.i64) (r:=decide (20<(ac.length:Int))) (gd_of hg (I (ac.length:Int))) rfl rfl)<|s_val (x_por (b:=((((!r2)||((ab.length:Int) != (aa.length:Int)))||(!r3))||(decide (8<(ak.length:Int))))) (r:=decide (20<(ac.length:Int))) rfl rfl (fun hb=>gd_of (c:=!((((!r2)||((ab.length:Int) != (aa.length:Int)))||(!r3))||(decide (8<(ak.length:Int))))) (by first | exact hb | (rw [hb]; rfl) | simp_all) (B (decide (20<(ac.length:Int))))))<|s_nil ?_
 refine WD.cond (((((!r2)||((ab.length:Int) != (aa.length:Int)))||(!r3))||(decide (8<(ak.length:Int))))||(decide (20<(ac.length:Int)))) rfl (fun bh=>?_) (fun bh=>?_)
 ·replace hM:=M.e_t hM bh;refine WD.seq<|WD.of ?_;refine kg 3 ?_;replace H:=H.pk [2];refine WD.of ?_;refine W.ret ?_;refine bodyD_r (H.pk [0]) ?_;intro cD H;replace H:=H.nf
  have ag:=M.e_pure hM
  exact ⟨_,resE_tmp rfl,⟨3,ag,rfl,H⟩⟩
 replace hM:=M.e_f hM bh;refine WD.of<|W.skip<|WD.seq<|WD.seq<|WD.of ?_
 have cE:=(aN).len_le
 refine kg 6 ?_;refine WD.block ?_;obtain ⟨bQ,bi,bj⟩:=M.e_bind hM
 obtain ⟨bR,bi⟩:=M.e_iter bi
 refine WD.loop (fun m bF σ W=>∃ (s:Nat) (ρ:Env),σ=upds ρ [(1,Pq ap),(3,Pq au),(42,ao),(43,I (aa.length:Int)),(44,I (s:Int))]/\M.iterN (zde aa ab) m s=some bQ/\St w W [cBlk au [I (aa.length:Int)] 3,cBlk ap [ao,aq,ai,ah,I al,I am,aj] 29,cMk bF] R) ?_ ?_
 ·exact ⟨_,0,_,upds_of _ _ ⟨rfl,rfl,rfl,rfl,rfl,trivial⟩,bi,H⟩
 rintro cF bF σ cG ⟨s,ρ,rfl,bG,H⟩
 obtain ⟨bS,bT,cH,hM,a8⟩:=M.e_iterN bG
 simp only [zde] at hM
 clear bG;refine WD.seq<|WD.of ?_;refine kg 3 ?_;refine WD.seq ?_
 refine WD.cond (decide ((s:Int)<(aa.length:Int))) rfl (fun aD=>?_) (fun aD=>?_)
 ·replace hM:=M.e_t hM aD
  replace aD:=dI aD
  refine WD.of<|W.skip<|WD.seq<|WD.block<|WD.seq<|WD.of ?_;obtain ⟨cI,hM⟩:=M.e_gd hM;refine kg 7 ?_;refine WD.block<|WD.seq<|WD.of ?_;refine kg 9 ?_;obtain ⟨r4,bU,hM⟩:=M.e_bind hM;refine t_gcall ((aa.getD s 0) != (-1)) (gy_t rfl) cf45 (B r4) (fun _=>[I (aa.getD s 0),I ((s:Int)+1),I ((aa.length:Int)-1)]) (fun hg=>lst3 (gd_of hg (I (aa.getD s 0))) (gd_of hg (I ((s:Int)+1))) (gd_of hg (I ((aa.length:Int)-1)))) H (fun hg=>(zan (aa.getD s 0) ((s:Int)+1) ((aa.length:Int)-1) (M.e_opt bU hg) _ (H.give (A:=[]) rfl)).mono fun v_ w_ ⟨y_,ag,aC,H_⟩=>by subst ag; exact ⟨aC,H.via H_⟩) ?_;intro cJ H;refine kg 1 ?_;refine s_val (x_pand (b:=(aa.getD s 0) != (-1)) (r:=!r4) rfl (fun hb=>gd_of (c:=(aa.getD s 0) != (-1)) (by first | exact hb | (rw [hb]; rfl) | simp_all) (B (!r4))) rfl) ?_;refine kg 2 ?_
  refine WD.cond (((aa.getD s 0) != (-1))&&(!r4)) rfl (fun bm=>?_) (fun bm=>?_)
  ·replace hM:=M.e_t hM bm;refine WD.seq<|WD.of ?_;refine kg 3 ?_;refine WD.of ?_;refine W.ret ?_
   have bV:=M.e_inr hM a8
   subst bV;replace hM:=bj;(try dsimp only at hM);refine bodyD_r (H.pk [2,0,1]) ?_;intro cK H;replace H:=H.nf
   have ag:=M.e_pure hM
   exact ⟨_,resE_tmp rfl,⟨2,ag,rfl,(H.pk [])⟩⟩
  replace hM:=M.e_f hM bm;refine WD.seq<|WD.of ?_;obtain ⟨cL,hM⟩:=M.e_gd hM;refine kg 6 ?_;obtain ⟨cM,bW,hM⟩:=M.e_bind hM;refine s_call cf46 [.agg #[I ((ab.getD s default).lo),I ((ab.getD s default).hi)]] rfl (zdQ (ab.getD s default) bW _ (H.gt 3)) ?_
  rintro vq cN ⟨r5,rfl,hvq,ae⟩
  subst vq;(try dsimp only at hM);replace H:=H.bk ae;clear ae;refine kg 3 ?_
  refine WD.cond (!r5) rfl (fun bn=>?_) (fun bn=>?_)
  ·replace hM:=M.e_t hM bn;refine WD.seq<|WD.of ?_;refine kg 3 ?_;refine WD.of ?_;refine W.ret ?_
   have bX:=M.e_inr hM a8
   subst bX;replace hM:=bj;(try dsimp only at hM);refine bodyD_r (H.pk [2,0,1]) ?_;intro cO H;replace H:=H.nf
   have ag:=M.e_pure hM
   exact ⟨_,resE_tmp rfl,⟨130,ag,rfl,(H.pk [])⟩⟩
  replace hM:=M.e_f hM bn;refine WD.of<|W.skip<|WD.of ?_;refine kg 4 ?_
  exact ⟨bS,bT,s+1,_,upds_of _ _ ⟨rfl,rfl,rfl,rfl,rfl,trivial⟩,M.e_inl hM a8,H⟩
 replace hM:=M.e_f hM aD
 replace aD:=dI aD
 refine WD.of ?_;refine W.exit ?_
 have bY:=M.e_inr hM a8
 subst bY;replace hM:=bj;(try dsimp only at hM);refine WD.seq<|WD.block<|WD.seq<|WD.of ?_;refine kg 4 ?_;obtain ⟨cP,bZ,hM⟩:=M.e_bind hM;refine s_call cf47 [ai,I (aa.length:Int)] rfl (zcw aw (aa.length:Int) (aG.app _) az bZ _ (H.gt 3)) ?_
 rintro vq cQ ⟨r6,rfl,hvq,ae⟩
 subst vq;(try dsimp only at hM);replace H:=H.bk ae;clear ae;refine kg 3 ?_
 refine WD.cond (!r6) rfl (fun bo=>?_) (fun bo=>?_)
 ·replace hM:=M.e_t hM bo;refine WD.seq<|WD.of ?_;refine kg 3 ?_;replace H:=H.pk [2];refine WD.of ?_;refine W.ret ?_;refine bodyD_r (H.pk [0]) ?_;intro cR H;replace H:=H.nf
  have ag:=M.e_pure hM
  exact ⟨_,resE_tmp rfl,⟨9,ag,rfl,H⟩⟩
 replace hM:=M.e_f hM bo;refine WD.seq<|WD.of ?_;refine kg 3 ?_;obtain ⟨cS,b0,hM⟩:=M.e_bind hM;refine s_call cf48 [ah,.func (.func 49) #[] #[]] rfl (zdH ak (fun av=>zb5 av) (aH.app _) aA ⟨49,[],rfl,cf49,fun ay bH bI aO av bJ aP bK aQ aR=>by obtain rfl:=Town_arg aQ; exact (zfn av aR ay (St.refl aP)).mono fun aO ay ⟨bL,aS,aT,aU⟩=>by subst aS; exact ⟨aT,aU⟩⟩ b0 _ (H.gt 3)) ?_
 rintro vq cT ⟨r7,rfl,hvq,ae⟩
 subst vq;(try dsimp only at hM);replace H:=H.bk ae;clear ae;refine kg 4 ?_;refine g_val (!(!r7)) (gy_f rfl) (fun hg=>x_mf (fs:=[]) (cs:=[Pq au]) rfl rfl) ?_;obtain ⟨r8,b1,hM⟩:=M.e_bind hM;refine t_gcall (!(!r7)) (gy_f rfl) cf48 (B r8) (fun _=>[ah,.func (.func 50) #[] #[Pq au]]) (fun hg=>lst2 (gd_of hg (ah)) (gd_of hg (.func (.func 50) #[] #[Pq au]))) H (fun hg=>(zdH ak (fun av=>zbM av (aa.length:Int)) (aH.app _) aA ⟨50,[Pq au],rfl,cf50,fun ay bH bI aO av bJ aP bK aQ aR=>by obtain rfl:=Town_arg aQ; exact (zeL av (aa.length:Int) (Has.app (Has.here (k:=0) rfl) _) aR ay (St.refl aP)).mono fun aO ay ⟨bL,aS,aT,aU⟩=>by subst aS; exact ⟨aT,aU⟩⟩ (M.e_opt b1 hg) _ (H.give (A:=[]) rfl)).mono fun v_ w_ ⟨y_,ag,aC,H_⟩=>by subst ag; exact ⟨aC,H.via H_⟩) ?_;intro cU H;refine kg 1 ?_;refine s_val (x_por (b:=!r7) (r:=!r8) rfl rfl (fun hb=>gd_of (c:=!(!r7)) (by first | exact hb | (rw [hb]; rfl) | simp_all) (B (!r8))))<|zM (B ((!r7)||(!r8))) rfl<|g_val (!((!r7)||(!r8))) (gy_f rfl) (fun hg=>x_fa (v:=Oq ap 4) rfl (fa_blk (o:=0) Fd29_4 Sz26))<|g_val (!((!r7)||(!r8))) (gy_f rfl) (fun hg=>x_ld (v:=.agg #[I al,I am]) (gd_of hg (Oq ap 4)) (ldb_ag (ds:=[I al,I am]) Ag26 Sz26 (H.bl 1) rfl rfl)) ?_;obtain ⟨r9,b2,hM⟩:=M.e_bind hM;refine t_gcall (!((!r7)||(!r8))) (gy_f rfl) cf46 (B r9) (fun _=>[.agg #[I al,I am]]) (fun hg=>lst1 (gd_of hg (.agg #[I al,I am]))) H (fun hg=>(zdQ (⟨(al:Int),(am:Int)⟩:Span) (M.e_opt b2 hg) _ (H.give (A:=[]) rfl)).mono fun v_ w_ ⟨y_,ag,aC,H_⟩=>by subst ag; exact ⟨aC,H.via H_⟩) ?_;intro cV H;refine g_val (!((!r7)||(!r8))) (gy_f rfl) (fun hg=>x_not (b:=r9) (gd_of hg (B r9)))<|s_val (x_por (b:=((!r7)||(!r8))) (r:=!r9) rfl rfl (fun hb=>gd_of (c:=!((!r7)||(!r8))) (by first | exact hb | (rw [hb]; rfl) | simp_all) (B (!r9))))<|zA (B (((!r7)||(!r8))||(!r9))) rfl<|s_nil ?_
 refine WD.cond (((!r7)||(!r8))||(!r9)) rfl (fun bp=>?_) (fun bp=>?_)
 ·replace hM:=M.e_t hM bp;refine WD.seq<|WD.of ?_;refine kg 3 ?_;replace H:=H.pk [2];refine WD.of ?_;refine W.ret ?_;refine bodyD_r (H.pk [0]) ?_;intro cW H;replace H:=H.nf
  have ag:=M.e_pure hM
  exact ⟨_,resE_tmp rfl,⟨130,ag,rfl,H⟩⟩
 replace hM:=M.e_f hM bp;refine WD.of<|W.skip<|WD.seq<|WD.seq<|WD.of ?_
 have cX:=(aB).len_le
 refine kg 6 ?_;refine WD.block ?_;obtain ⟨b3,br,bt⟩:=M.e_bind hM
 obtain ⟨bR,br⟩:=M.e_iter br
 refine WD.loop (fun m aV σ W=>∃ (s4:Nat) (ρ:Env),σ=upds ρ [(1,Pq ap),(95,aj),(96,I (ac.length:Int)),(97,I (s4:Int))]/\M.iterN (zb6 aa ab aw ak al am ac) m s4=some b3/\St w W [cBlk au [I (aa.length:Int)] 3,cBlk ap [ao,aq,ai,ah,I al,I am,aj] 29,cMk aV] R) ?_ ?_
 ·exact ⟨_,0,_,upds_of _ _ ⟨rfl,rfl,rfl,rfl,trivial⟩,br,H⟩
 rintro cY aV σ cZ ⟨s4,ρ,rfl,bM,H⟩
 obtain ⟨b4,b5,c0,hM,ba⟩:=M.e_iterN bM
 simp only [zb6] at hM
 clear bM;refine WD.seq<|WD.of ?_;refine kg 3 ?_;refine WD.seq ?_
 refine WD.cond (decide ((s4:Int)<(ac.length:Int))) rfl (fun aE=>?_) (fun aE=>?_)
 ·replace hM:=M.e_t hM aE
  replace aE:=dI aE
  refine WD.of<|W.skip<|WD.seq<|WD.block<|WD.seq<|WD.of ?_;obtain ⟨c5,hM⟩:=M.e_gd hM;refine kg 2 ?_
  obtain ⟨ax,b6,aJ⟩:=Flood_atA aB (i:=(s4:Int)) (by omega) (by omega)
  replace aJ:Sl _ ax (ac.getD s4 default).stages:=aJ
  have c6:=aJ.len_le
  refine s_val (x_ld (v:=.agg #[I ((ac.getD s4 default).spring),ax]) rfl (ld_ag Ag38 Sz38 (At.mono b6 (aI.at H)))) ?_;refine t_alloc (cs:=[I 0,.slice none 0 0]) H Al38 rfl ?_;intro aW c7 H;refine t_sw 0 0 [I ((ac.getD s4 default).spring),ax] (.agg #[I ((ac.getD s4 default).spring),ax]) H rfl rfl Sz38 rfl rfl rfl (by simp only [List.all_cons,List.all_nil,Bool.true_and,Bool.and_true,Sl.oc aJ]; try rfl) ?_;intro c8 H;refine s_nil<|WD.seq<|WD.of<|W.region rfl ?_;refine t_alloc (cs:=[I 0]) H Al3 rfl ?_;intro aF c9 H;refine t_sw 0 0 [I 0] (I 0) H rfl rfl Sz3 rfl rfl rfl rfl ?_;intro da H;refine s_nil<|WD.seq<|WD.seq<|WD.of ?_;refine kg 5 ?_;obtain ⟨db,b7,hM⟩:=M.e_bind hM;refine s_call cf51 [.agg #[ao,aq,ai,ah,I al,I am,aj],I (max 0 ((ac.getD s4 default).spring))] rfl (zaV aa ab aw ak al am ac (max 0 ((ac.getD s4 default).spring)) (aZ.app _) aN (a6.app _) a7 (aG.app _) az (aH.app _) aA (aI.app _) aB b7 _ (H.gt 5)) ?_
  rintro vq dc ⟨bb,aK,aL,aX,aM,rfl,hvq,ae⟩
  subst vq;(try dsimp only at hM);replace H:=H.bk ae;clear ae;refine s_nil<|WD.block ?_;obtain ⟨dd,b8,hM⟩:=M.e_bind hM;refine WD.range (L:=[cBlk aF [I 0] 3,cBlk aM [ao,aq,ai,ah,I aK,I aL,aj] 29,cBlk aW [I ((ac.getD s4 default).spring),ax] 38,cBlk au [I (aa.length:Int)] 3,cBlk ap [ao,aq,ai,ah,I al,I am,aj] 29,cBlk aX [I bb] 3]) [Pq aX,Pq aM] (H.pk [6,2,1,3,4,5,0]) rfl cf95 ?_;intro bc bu bv b9 bw H
  have hYC:YieldC Tryz.prog ([cMk (bu :: aV),cBlk aM [ao,aq,ai,ah,I aK,I aL,aj] 29,cBlk aW [I ((ac.getD s4 default).spring),ax] 38,cBlk au [I (aa.length:Int)] 3,cBlk ap [ao,aq,ai,ah,I al,I am,aj] 29]++R) arII (yJ bc bv (fun s3 bf=>bf=[cBlk aF [I s3] 3]) (fun (_:Unit) _=>False) (fun _=>.ret)) (.func (.yield bc) #[] #[]) (M.yl zaQ):=by
   refine YieldC.mk bw (fun s3 bf=>bf=[cBlk aF [I s3] 3]) (fun (_:Unit) _=>False) (fun _=>.ret) zaQ (by rintro s3 _ h_; obtain ⟨rfl⟩:=h_; rfl) (fun _ _ h_=>h_.elim) rfl (arII_len rfl) ?_;intro C_ dg x_ W_ ca
   obtain ⟨x,x2⟩:=x_
   obtain rfl:=ca
   refine W.skip ?_
   refine ⟨rfl,rfl,?_⟩
   intro w R aY bf s_ r cb hM H
   skip
   obtain ⟨s3,cc⟩:∃ y_,y_=s_:=⟨_,rfl⟩
   subst cc
   obtain ⟨rfl⟩:=cb
   replace aZ:=aZ.sub aY
   replace a6:=a6.sub aY
   replace aG:=aG.sub aY
   replace aH:=aH.sub aY
   replace aI:=aI.sub aY
   replace hM:(zaQ s3 (x,x2)).Ends r:=hM
   simp only [zaQ] at hM
   replace H:=H.pk [0,2,3,4,5,1];obtain ⟨dh,hM⟩:=M.e_gd hM;refine kg 4 ?_;refine t_sw 0 0 [I (s3+1)] (I (s3+1)) H rfl rfl Sz3 rfl rfl rfl rfl ?_;intro di H;refine s_nil ?_
   exact ⟨s3+1,[cBlk aF [I (s3+1)] 3],(M.e_pure hM).symm,rfl,H.pick [0,5,1,2,3,4] (by decide) rfl⟩
  replace H:St w b9 (cAll (cObj bc (.loop bv) :: [cBlk aF [I 0] 3]) :: [cBlk aX [I bb] 3,cMk (bu :: aV),cBlk aM [ao,aq,ai,ah,I aK,I aL,aj] 29,cBlk aW [I ((ac.getD s4 default).spring),ax] 38,cBlk au [I (aa.length:Int)] 3,cBlk ap [ao,aq,ai,ah,I al,I am,aj] 29]) R:=St.bundleB (A:=cObj bc (.loop bv) :: [cBlk aF [I 0] 3]) (T:=[cBlk aX [I bb] 3,cMk (bu :: aV),cBlk aM [ao,aq,ai,ah,I aK,I aL,aj] 29,cBlk aW [I ((ac.getD s4 default).spring),ax] 38,cBlk au [I (aa.length:Int)] 3,cBlk ap [ao,aq,ai,ah,I al,I am,aj] 29]) rfl (H.pk [0,2,7,1,3,4,5,6])
  refine (zaS (M.yl zaQ) (.inl 0) bb aa ab aw ak aK aL ac hYC ⟨_,rfl,rfl⟩ (aZ.app _) aN (a6.app _) a7 (aG.app _) az (aH.app _) aA (aI.app _) aB (Has.here (k:=1) rfl) b8 _ (H.gt 5)).mono ?_
  rintro vq dj ⟨cd,q0,dk,rfl,hvq,ae,bN⟩
  replace H:=H.back ae rfl
  clear ae hYC
  rcases cd with s3 | _
  ·(try dsimp only at hM)
   obtain ⟨_,rfl,rfl⟩:=bN
   refine ⟨_,[cBlk aF [I s3] 3,cBlk aM [ao,aq,ai,ah,I aK,I aL,aj] 29,cBlk aW [I ((ac.getD s4 default).spring),ax] 38,cBlk au [I (aa.length:Int)] 3,cBlk ap [ao,aq,ai,ah,I al,I am,aj] 29,cBlk aX [I q0] 3],H.unbundle.pick [0,3,1,4,5,6,7,2] (by decide) rfl,bw.nb,?_⟩
   intro dl H
   rw [bw.pd]
   replace H:=H.nf
   try simp only []
   replace H:=H.pk [0,1,3,4,5];refine WD.block<|WD.seq<|WD.of ?_;refine kg 5 ?_;obtain ⟨dm,ce,hM⟩:=M.e_bind hM;refine s_call cf52 [ai,I ((ac.getD s4 default).spring)] rfl (zeZ aw ((ac.getD s4 default).spring) (aG.app _) az ce _ (H.gt 5)) ?_
   rintro vq dq ⟨bg,rfl,hvq,ae⟩
   subst vq;(try dsimp only at hM);replace H:=H.bk ae;clear ae
   have dr:=(aJ).len_le
   refine kg 7 ?_;refine s_val (x_por (b:=!bg) (r:=(((ac.getD s4 default).stages).length:Int) != s3) rfl rfl (fun hb=>gd_of (c:=!(!bg)) (by first | exact hb | (rw [hb]; rfl) | simp_all) (B ((((ac.getD s4 default).stages).length:Int) != s3))))<|zA (B ((!bg)||((((ac.getD s4 default).stages).length:Int) != s3))) rfl<|s_nil ?_
   refine WD.cond ((!bg)||((((ac.getD s4 default).stages).length:Int) != s3)) rfl (fun bx=>?_) (fun bx=>?_)
   ·replace hM:=M.e_t hM bx;refine WD.seq<|WD.of ?_;refine kg 3 ?_;replace H:=H.pk [0,3,4];refine WD.of ?_;refine W.ret ?_
    have cf:=M.e_inr hM ba
    subst cf;replace hM:=bt;(try dsimp only at hM);refine bodyD_r (H.pk [0,1,2]) ?_;intro dt H;replace H:=H.nf
    have ag:=M.e_pure hM
    exact ⟨_,resE_tmp rfl,⟨2,ag,rfl,(H.pk [])⟩⟩
   replace hM:=M.e_f hM bx;refine WD.seq<|WD.of ?_;refine kg 3 ?_;obtain ⟨du,cg,hM⟩:=M.e_bind hM;refine s_call cf53 [ax,.func (.func 54) #[] #[]] rfl (zeo ((ac.getD s4 default).stages) (fun av=>zbm av) (aI.app _) aJ ⟨54,[],rfl,cf54,fun ay bH bI aO av bJ aP bK aQ aR=>by obtain rfl:=Arg.int aQ; exact (zd5 av aR ay (St.refl aP)).mono fun aO ay ⟨bL,aS,aT,aU⟩=>by subst aS; exact ⟨aT,aU⟩⟩ cg _ (H.gt 5)) ?_
   rintro vq dv ⟨ci,rfl,hvq,ae⟩
   subst vq;(try dsimp only at hM);replace H:=H.bk ae;clear ae;refine kg 3 ?_
   refine WD.cond (!ci) rfl (fun bz=>?_) (fun bz=>?_)
   ·replace hM:=M.e_t hM bz;refine WD.seq<|WD.of ?_;refine kg 3 ?_;replace H:=H.pk [0,3,4];refine WD.of ?_;refine W.ret ?_
    have cj:=M.e_inr hM ba
    subst cj;replace hM:=bt;(try dsimp only at hM);refine bodyD_r (H.pk [0,1,2]) ?_;intro dw H;replace H:=H.nf
    have ag:=M.e_pure hM
    exact ⟨_,resE_tmp rfl,⟨130,ag,rfl,(H.pk [])⟩⟩
   replace hM:=M.e_f hM bz;refine WD.of<|W.skip<|WD.of ?_;refine kg 4 ?_
   exact ⟨b4,b5,s4+1,_,upds_of _ _ ⟨rfl,rfl,rfl,rfl,trivial⟩,M.e_inl hM ba,(H.pk [3,4,0])⟩
  obtain ⟨_,_,h_⟩:=bN; exact h_.elim
 replace hM:=M.e_f hM aE
 replace aE:=dI aE
 refine WD.of ?_;refine W.exit ?_
 have ck:=M.e_inr hM ba
 subst ck;replace hM:=bt;(try dsimp only at hM);replace H:=H.pk [2];refine WD.seq<|WD.of ?_;refine kg 3 ?_;refine WD.of ?_;refine W.ret ?_;refine bodyD_r (H.pk [0]) ?_;intro dx H;replace H:=H.nf
 have ag:=M.e_pure hM
 exact ⟨_,resE_tmp rfl,⟨0,ag,rfl,H⟩⟩

def zat (ac:List Int) (ae:List Span) (ag:List Int) (ah:List Town) (aa ab:Int) (ai:List Flood):M (Int ⊕ (Int × Int × Int)) :=
  M.bind (zaA ac ae ag ah aa ab ai) fun r2 =>
  bif r2 != 0 then (
  M.pure (.inl r2))
  else (
  M.pure (.inr (aa,ab,0)))
theorem zaw {R:List Chunk} {av:Cells} {ac:Value} {aw:Cells} {ae:Value} {ax:Cells} {ag:Value} {ay:Cells} {ah:Value} {az:Cells} {ai:Value} (ak:List Int) (al:List Span) (am:List Int) (ao:List Town) (aa:Int) (ab:Int) (ap:List Flood) (aD:Reads R av) (aE:Sl av ac ak) (aF:Reads R aw) (aG:Sl aw ae al) (aH:Reads R ax) (aI:Sl ax ag am) (aJ:Reads R ay) (aK:Sl ay ah ao) (aL:Reads R az) (aM:Sl az ai ap) {r:(Int ⊕ (Int × Int × Int))} (hM:(zat ak al am ao aa ab ap).Ends r) (w:World) (H:St w w [] R):Ret Tryz.prog 61 #[.agg #[ac,ae,ag,ah,I aa,I ab,ai]] w fun v w'=>(∃ (y0:Int),(.inl y0)=r/\v = .tuple #[.pointer none,I y0]/\St w w' [] R)∨(∃ (y0:Int) (y1:Int) (y2:Int) (aA:Nat) (aB:Nat) (aN:Base),(.inr (y0,y1,y2))=r/\v = .tuple #[Pq aA,I y2]/\St w w' [cBlk aA [ac,ae,ag,ah,I y0,I y1,ai,.map (some aB)] 113,cMem encDm aB aN (zaa ak al am ao y0 y1 ap)] R):=by
 refine ret_of_W Tryz.func61 rfl rfl rfl ?_;refine kg 2 ?_;refine t_bx [ac,ae,ag,ah,I aa,I ab,ai] H rfl ?_;intro aR aS H;refine kg 7 ?_;obtain ⟨aT,aO,hM⟩:=M.e_bind hM;refine s_call cf9 [.agg #[ac,ae,ag,ah,I aa,I ab,ai]] rfl (zaK ak al am ao aa ab ap (aD.app _) aE (aF.app _) aG (aH.app _) aI (aJ.app _) aK (aL.app _) aM aO _ (H.gt 1)) ?_
 rintro vq aU ⟨r2,rfl,hvq,aC⟩
 subst vq;(try dsimp only at hM);replace H:=H.bk aC;clear aC;refine kg 7 ?_
 refine W.cond (r2 != 0) rfl (fun aj=>?_) (fun aj=>?_)
 ·replace hM:=M.e_t hM aj
  replace aj:=dI aj
  refine kg 6 ?_;refine W.ret ?_
  have au:=M.e_pure hM
  exact ⟨_,resE_tmp2 rfl,.inl (⟨r2,au,rfl,(H.pk [])⟩)⟩
 replace hM:=M.e_f hM aj
 replace aj:=dI aj
 refine kg 4 ?_;refine t_mkmem encDm (zaa ak al am ao aa ab ap) H ?_;intro aq aP aV H;refine s_val (x_bld (ps:=[(0,.agg #[ac,ae,ag,ah,I aa,I ab,ai]),(1,.map (some aq))]) (zs:=[.slice none 0 0,.slice none 0 0,.slice none 0 0,.slice none 0 0,I 0,I 0,.slice none 0 0,.map none]) (L':=[ac,ae,ag,ah,I aa,I ab,ai,.map (some aq)]) rfl Tryz.underlying113 Al113 rfl (Bd113 Tryz.underlying113) (.cons (cs:=[ac,ae,ag,ah,I aa,I ab,ai]) rfl rfl rfl rfl rfl<|.cons (cs:=[.map (some aq)]) rfl rfl rfl rfl rfl<|.nil)) ?_;refine t_bx [ac,ae,ag,ah,I aa,I ab,ai,.map (some aq)] H rfl ?_;intro aQ aW H;refine kg 3 ?_;refine W.ret ?_
 have au:=M.e_pure hM
 exact ⟨_,resE_tmp2 rfl,.inr (⟨aa,ab,0,aQ,aq,aP,au,rfl,(H.pk [0,1])⟩)⟩

def zcx (ac:List Int) (ae:List Span) (aa:List Int) (ab:List Town) (ag ah:Int) (ai:List Flood) (s2:Nat):(Nat × (List Dem))->M ((Nat × (List Dem)) ⊕ ((List Dem) × (List Dem))):=fun (s,l4) =>
  bif decide ((s:Int)<(ab.length:Int)) then (
  M.grd (decide ((s:Int)<(ab.length:Int))) <|
  M.bind (zaR ac ae aa ab ag ah ai (aa.getD s2 0) ((ab.getD s default).station)) fun (aj,ak,r1) =>
  bif r1 then (
  M.grd (decide ((l4.length+([(⟨(aa.getD s2 0:Int),(s:Int)⟩:Dem)]).length)*16<=140737488355328)) <|
  M.pure (.inl (s+1,l4++([(⟨(aa.getD s2 0:Int),(s:Int)⟩:Dem)]))))
  else (
  M.pure (.inl (s+1,l4))))
  else (
  M.pure (.inr (l4,l4)))
def zcd (ab:List Int) (ac:List Span) (aa:List Int) (ae:List Town) (ag ah:Int) (ai:List Flood):(Nat × (List Dem))->M ((Nat × (List Dem)) ⊕ ((List Dem) × (List Dem))):=fun (s2,l6) =>
  bif decide ((s2:Int)<(aa.length:Int)) then (
  M.grd (decide ((s2:Int)<(aa.length:Int))) <|
  M.bind (M.iter (zcx ab ac aa ae ag ah ai s2) (0,l6)) fun (l2,l5) =>
  M.pure (.inl (s2+1,l5)))
  else (
  M.pure (.inr (l6,l6)))
def zaY (aa:List Int) (ab:List Span) (ac:List Int) (ae:List Town) (ag ah:Int) (ai:List Flood):M (List Dem) :=
  M.bind (M.iter (zcd aa ab ac ae ag ah ai) (0,[])) fun (l7,l8) =>
  M.pure l8
theorem zbq {R:List Chunk} {ag:Nat} {az:Cells} {aA:Value} {aB:Cells} {aC:Value} {aD:Cells} {ap:Value} {aE:Cells} {aq:Value} {aF:Cells} {aG:Value} {aR:Nat} (ah:List Int) (ai:List Span) (aa:List Int) (ab:List Town) (aj:Int) (ak:Int) (al:List Flood) (aS:Reads R az) (aT:Sl az aA ah) (aU:Reads R aB) (aV:Sl aB aC ai) (aW:Reads R aD) (aH:Sl aD ap aa) (aI:Reads R aE) (au:Sl aE aq ab) (aX:Reads R aF) (aY:Sl aF aG al) (aZ:Has R (cBlk ag [aA,aC,ap,aq,I aj,I ak,aG,.map (some aR)] 113)) {r:(List Dem)} (hM:(zaY ah ai aa ab aj ak al).Ends r) (w:World) (H:St w w [] R):Ret Tryz.prog 68 #[Pq ag] w fun v w'=>∃ (y0:List Dem) (u0:Value),y0=r/\v=u0/\St w w' [cOwn (α:=Dem) 32 u0 y0] R:=by
 refine ret_of_W Tryz.func68 rfl rfl rfl ?_
 have bo:=(aH).len_le
 refine kg 20 ?_
 replace H:=H.nilOwn (α:=Dem) 32
 obtain ⟨a6,av,a7⟩:=M.e_bind hM
 obtain ⟨a8,av⟩:=M.e_iter av
 refine W.loop (fun m σ W=>∃ (s2:Nat) (l6:List Dem) (am:Value) (ρ:Env),σ=upds ρ [(0,Pq ag),(3,am),(14,ap),(15,I (aa.length:Int)),(16,I (s2:Int))]/\M.iterN (zcd ah ai aa ab aj ak al) m (s2,l6)=some a6/\St w W [cOwn (α:=Dem) 32 am l6] R) ?_ ?_
 ·exact ⟨_,0,[],(.slice none 0 0),_,upds_of _ _ ⟨rfl,rfl,rfl,rfl,rfl,trivial⟩,av,H⟩
 rintro bp σ br ⟨s2,l6,am,ρ,rfl,aJ,H⟩
 obtain ⟨ba,bb,bt,hM,aK⟩:=M.e_iterN aJ
 simp only [zcd] at hM
 clear aJ;refine kg 5 ?_
 refine W.cond (decide ((s2:Int)<(aa.length:Int))) rfl (fun ac=>?_) (fun ac=>?_)
 ·replace hM:=M.e_t hM ac
  replace ac:=dI ac
  obtain ⟨bu,hM⟩:=M.e_gd hM
  have bv:=(au).len_le
  refine kg 20 ?_;obtain ⟨bc,aw,bf⟩:=M.e_bind hM
  obtain ⟨a8,aw⟩:=M.e_iter aw
  refine W.loop (fun m σ W=>∃ (s:Nat) (l4:List Dem) (ao:Value) (ρ:Env),σ=upds ρ [(0,Pq ag),(3,ao),(5,I (aa.getD s2 0)),(14,ap),(15,I (aa.length:Int)),(16,I (s2:Int)),(24,aq),(25,I (ab.length:Int)),(26,I (s:Int))]/\M.iterN (zcx ah ai aa ab aj ak al s2) m (s,l4)=some bc/\St w W [cOwn (α:=Dem) 32 ao l4] R) ?_ ?_
  ·exact ⟨_,0,l6,am,_,upds_of _ _ ⟨rfl,rfl,rfl,rfl,rfl,rfl,rfl,rfl,rfl,trivial⟩,aw,H⟩
  rintro bw σ bx ⟨s,l4,ao,ρ,rfl,aL,H⟩
  obtain ⟨aM,aN,bz,hM,ax⟩:=M.e_iterN aL
  simp only [zcx] at hM
  clear aL;refine kg 5 ?_
  refine W.cond (decide ((s:Int)<(ab.length:Int))) rfl (fun ae=>?_) (fun ae=>?_)
  ·replace hM:=M.e_t hM ae
   replace ae:=dI ae
   obtain ⟨bA,hM⟩:=M.e_gd hM;refine kg 7 ?_;refine s_val (x_ld (v:=.agg #[I ((ab.getD s default).station),I ((ab.getD s default).lead),I ((ab.getD s default).alarm)]) rfl (ld_ag Ag36 Sz36 (At.mono (Town_atA au (i:=(s:Int)) (by omega) (by omega)) (aI.at H)))) ?_;refine t_alloc (cs:=[I 0,I 0,I 0]) H Al36 rfl ?_;intro bB bC H;refine kg 1 ?_;refine t_sw 0 0 [I ((ab.getD s default).station),I ((ab.getD s default).lead),I ((ab.getD s default).alarm)] (.agg #[I ((ab.getD s default).station),I ((ab.getD s default).lead),I ((ab.getD s default).alarm)]) H rfl rfl Sz36 rfl rfl rfl rfl ?_;intro bD H;refine kg 7 ?_;obtain ⟨bE,bg,hM⟩:=M.e_bind hM;refine s_call cf63 [Pq ag,I (aa.getD s2 0),I ((ab.getD s default).station)] rfl (zbt ah ai aa ab aj ak al (aa.getD s2 0) ((ab.getD s default).station) (aS.app _) aT (aU.app _) aV (aW.app _) aH (aI.app _) au (aX.app _) aY (aZ.app _) bg _ (H.gt 2)) ?_
   rintro vq bF ⟨aO,aP,r1,rfl,hvq,aQ⟩
   subst vq;(try dsimp only at hM);replace H:=H.bk aQ;clear aQ;refine kg 3 ?_;refine t_alloc (cs:=[I 0,I 0]) H Al26 rfl ?_;intro bG bH H;refine t_sw 0 0 [I aO,I aP] (.agg #[I aO,I aP]) H rfl rfl Sz26 rfl rfl rfl rfl ?_;intro bI H;refine kg 2 ?_;replace H:=H.pk [2];refine kg 4 ?_
   refine W.cond r1 rfl (fun ay=>?_) (fun ay=>?_)
   ·replace hM:=M.e_t hM ay;refine kg 4 ?_;refine s_val (x_bld (ps:=[(0,I (aa.getD s2 0)),(1,I (s:Int))]) (zs:=[I 0,I 0]) (L':=[I (aa.getD s2 0),I (s:Int)]) rfl Tryz.underlying32 Al32 rfl (Bd32 Tryz.underlying32) (.cons (cs:=[I (aa.getD s2 0)]) rfl rfl rfl rfl rfl<|.cons (cs:=[I (s:Int)]) rfl rfl rfl rfl rfl<|.nil)) ?_;refine t_bs (α:=Dem) T33 [.agg #[I (aa.getD s2 0),I (s:Int)]] [(⟨(aa.getD s2 0:Int),(s:Int)⟩:Dem)] H rfl (.cons rfl (Flat.rep_enc _ (⟨(aa.getD s2 0:Int),(s:Int)⟩:Dem))<|.nil) rfl rfl rfl ?_;intro bh bJ H;obtain ⟨bK,hM⟩:=M.e_gd hM;refine t_app (α:=Dem) (k:=1) (l:=l4) (l2:=[(⟨(aa.getD s2 0:Int),(s:Int)⟩:Dem)]) (l':=l4++([(⟨(aa.getD s2 0:Int),(s:Int)⟩:Dem)])) (vy:=bh) T33 rfl H rfl rfl rfl (H.os 0) (H.ol 0) (rfl) (by first | omega | (simp only [List.length_nil] at *; omega)) ?_;intro bi bL H;replace H:=H.nf;refine kg 6 ?_
    exact ⟨aM,aN,s+1,l4++([(⟨(aa.getD s2 0:Int),(s:Int)⟩:Dem)]),bi,_,upds_of _ _ ⟨rfl,rfl,rfl,rfl,rfl,rfl,rfl,rfl,rfl,trivial⟩,M.e_inl hM ax,(H.pk [1])⟩
   replace hM:=M.e_f hM ay;refine kg 5 ?_
   exact ⟨aM,aN,s+1,l4,ao,_,upds_of _ _ ⟨rfl,rfl,rfl,rfl,rfl,rfl,rfl,rfl,rfl,trivial⟩,M.e_inl hM ax,H⟩
  replace hM:=M.e_f hM ae
  replace ae:=dI ae
  refine W.exit ?_
  have bj:=M.e_inr hM ax
  subst bj;replace hM:=bf;(try dsimp only at hM);refine kg 4 ?_
  exact ⟨ba,bb,s2+1,l4,ao,_,upds_of _ _ ⟨rfl,rfl,rfl,rfl,rfl,trivial⟩,M.e_inl hM aK,H⟩
 replace hM:=M.e_f hM ac
 replace ac:=dI ac
 refine W.exit ?_
 have bm:=M.e_inr hM aK
 subst bm;replace hM:=a7;(try dsimp only at hM);refine kg 5 ?_;refine W.ret ?_
 have bn:=M.e_pure hM
 exact ⟨_,resE_tmp rfl,⟨l6,am,bn,rfl,H⟩⟩

def zb3 (s:List Dem) (f:Dem->M Bool):Nat->M (Nat ⊕ (Int ⊕ Unit)):=fun s2 =>
  bif decide ((s2:Int)<(s.length:Int)) then (
  M.grd (decide ((s2:Int)<(s.length:Int))) <|
  M.bind (f (s.getD s2 default)) fun r2 =>
  bif r2 then (
  M.pure (.inr (.inl (s2:Int))))
  else (
  M.pure (.inl (s2+1))))
  else (
  M.pure (.inr (.inr ())))
def zd4 (s:List Dem) (f:Dem->M Bool):M Int :=
  M.bind (M.iter (zb3 s f) 0) fun x_=>match x_ with
  | (.inl s3)=>(
  M.pure s3)
  | (.inr (_:Unit))=>(
  M.pure (-1))
theorem zeY {R:List Chunk} {aj:Cells} {ab:Value} {ac:Value} (s:List Dem) (f:Dem->M Bool) (ao:Reads R aj) (ak:Sl aj ab s) (ap:FnM Tryz.prog R ac f) {r:Int} (hM:(zd4 s f).Ends r) (w:World) (H:St w w [] R):Ret Tryz.prog 99 #[ab,ac] w fun v w'=>∃ (y0:Int),y0=r/\v=I y0/\St w w' [] R:=by
 refine ret_of_W Tryz.func99 rfl rfl rfl ?_
 have az:=(ak).len_le
 refine kg 12 ?_;obtain ⟨aq,ae,al⟩:=M.e_bind hM
 obtain ⟨aA,ae⟩:=M.e_iter ae
 refine W.loop (fun m σ W=>∃ (s2:Nat) (ρ:Env),σ=upds ρ [(0,ab),(1,ac),(7,I (s.length:Int)),(8,I (s2:Int))]/\M.iterN (zb3 s f) m s2=some aq/\St w W [] R) ?_ ?_
 ·exact ⟨_,0,_,upds_of _ _ ⟨rfl,rfl,rfl,rfl,trivial⟩,ae,H⟩
 rintro aB σ aC ⟨s2,ρ,rfl,am,H⟩
 obtain ⟨au,av,aD,hM,ag⟩:=M.e_iterN am
 simp only [zb3] at hM
 clear am;refine kg 5 ?_
 refine W.cond (decide ((s2:Int)<(s.length:Int))) rfl (fun aa=>?_) (fun aa=>?_)
 ·replace hM:=M.e_t hM aa
  replace aa:=dI aa
  obtain ⟨aE,hM⟩:=M.e_gd hM;refine kg 14 ?_;refine s_val (x_ld (v:=.agg #[I ((s.getD s2 default).spring),I ((s.getD s2 default).town)]) rfl (ld_ag Ag32 Sz32 (At.mono (Dem_atA ak (i:=(s2:Int)) (by omega) (by omega)) (ao.at H)))) ?_;obtain ⟨r2,aw,hM⟩:=M.e_bind hM;refine t_callM H ap rfl rfl (s.getD s2 default) Reads.none ⟨_,rfl,rfl⟩ aw ?_;intro aF H;refine s_nil ?_
  refine W.cond r2 rfl (fun ah=>?_) (fun ah=>?_)
  ·replace hM:=M.e_t hM ah;refine kg 5 ?_;refine W.ret ?_
   have ax:=M.e_inr hM ag
   subst ax;replace hM:=al;(try dsimp only at hM)
   have ai:=M.e_pure hM
   exact ⟨_,resE_tmp rfl,⟨(s2:Int),ai,rfl,H⟩⟩
  replace hM:=M.e_f hM ah;refine kg 5 ?_
  exact ⟨au,av,s2+1,_,upds_of _ _ ⟨rfl,rfl,rfl,rfl,trivial⟩,M.e_inl hM ag,H⟩
 replace hM:=M.e_f hM aa
 replace aa:=dI aa
 refine W.exit ?_
 have ay:=M.e_inr hM ag
 subst ay;replace hM:=al;(try dsimp only at hM);refine kg 4 ?_;refine W.ret ?_
 have ai:=M.e_pure hM
 exact ⟨_,resE_tmp rfl,⟨(-1),ai,rfl,H⟩⟩

def zca (s:List Dem) (f:Dem->M Bool):M Bool :=
  M.bind (zd4 s f) fun r2 =>
  M.pure (decide (0<=r2))
theorem zdY {R:List Chunk} {ac:Cells} {aa:Value} {ab:Value} (s:List Dem) (f:Dem->M Bool) (ag:Reads R ac) (ah:Sl ac aa s) (ai:FnM Tryz.prog R ab f) {r:Bool} (hM:(zca s f).Ends r) (w:World) (H:St w w [] R):Ret Tryz.prog 97 #[aa,ab] w fun v w'=>∃ (y0:Bool),y0=r/\v=B y0/\St w w' [] R:=by
 refine ret_of_W Tryz.func97 rfl rfl rfl ?_;refine kg 8 ?_;obtain ⟨al,aj,hM⟩:=M.e_bind hM;refine s_call cf99 [aa,ab] rfl (zeY s f (ag.app _) ah (ai.app _) aj _ (H.gt 0)) ?_
 rintro vq am ⟨r2,rfl,hvq,ae⟩
 subst vq;(try dsimp only at hM);replace H:=H.bk ae;clear ae;refine kg 3 ?_;refine W.ret ?_
 have ak:=M.e_pure hM
 exact ⟨_,resE_tmp rfl,⟨(decide (0<=r2)),ak,rfl,H⟩⟩

def zdm (x:Dem) (aa ab:Int):M Bool :=
  M.pure (decide (x=(⟨(aa:Int),(ab:Int)⟩:Dem)))
theorem zey {R:List Chunk} {ac:Nat} (x:Dem) (aa:Int) (ab:Int) (ae:Has R (cBlk ac [I aa,I ab] 32)) {r:Bool} (hM:(zdm x aa ab).Ends r) (w:World) (H:St w w [] R):Ret Tryz.prog 98 #[.agg #[I x.spring,I x.town],Pq ac] w fun v w'=>∃ (y0:Bool),y0=r/\v=B y0/\St w w' [] R:=by
 refine ret_of_W Tryz.func98 rfl rfl rfl ?_;refine kg 2 ?_;refine t_bx [I x.spring,I x.town] H rfl ?_;intro ah ai H;refine kg 5 ?_;refine s_val (x_ld (v:=.agg #[I aa,I ab]) rfl (ldb_ag (ds:=[I aa,I ab]) Ag32 Sz32 (ae.blk H) rfl rfl))<|s_val (x_eqS (eqT32 x (⟨(aa:Int),(ab:Int)⟩:Dem) _) gdT32 rfl rfl) ?_;refine kg 2 ?_;refine W.ret ?_
 have ag:=M.e_pure hM
 exact ⟨_,resE_tmp rfl,⟨(decide (x=(⟨(aa:Int),(ab:Int)⟩:Dem))),ag,rfl,(H.pk [])⟩⟩

def zcQ (aa:List Int) (ab:List Span) (ac:List Int) (ae:List Town) (ag ah:Int) (ai:List Flood) (d:Dem):M Bool :=
  M.bind (zaY aa ab ac ae ag ah ai) fun r2 =>
  M.bind (zca r2 (fun aj=>zdm aj d.spring d.town)) fun r3 =>
  M.pure r3
theorem zer {R:List Chunk} {ab:Nat} {ao:Cells} {ap:Value} {aq:Cells} {au:Value} {av:Cells} {aw:Value} {ax:Cells} {ay:Value} {az:Cells} {aA:Value} {aC:Nat} (ac:List Int) (ae:List Span) (ag:List Int) (ah:List Town) (ai:Int) (aj:Int) (ak:List Flood) (d:Dem) (aD:Reads R ao) (aE:Sl ao ap ac) (aF:Reads R aq) (aG:Sl aq au ae) (aH:Reads R av) (aI:Sl av aw ag) (aJ:Reads R ax) (aK:Sl ax ay ah) (aL:Reads R az) (aM:Sl az aA ak) (aN:Has R (cBlk ab [ap,au,aw,ay,I ai,I aj,aA,.map (some aC)] 113)) {r:Bool} (hM:(zcQ ac ae ag ah ai aj ak d).Ends r) (w:World) (H:St w w [] R):Ret Tryz.prog 70 #[Pq ab,.agg #[I d.spring,I d.town]] w fun v w'=>∃ (y0:Bool),y0=r/\v=B y0/\St w w' [] R:=by
 refine ret_of_W Tryz.func70 rfl rfl rfl ?_;refine kg 2 ?_;refine t_bx [I d.spring,I d.town] H rfl ?_;intro al aZ H;refine kg 5 ?_;obtain ⟨a6,aO,hM⟩:=M.e_bind hM;refine s_call cf68 [Pq ab] rfl (zbq ac ae ag ah ai aj ak (aD.app _) aE (aF.app _) aG (aH.app _) aI (aJ.app _) aK (aL.app _) aM (aN.app _) aO _ (H.gt 1)) ?_
 rintro vq a7 ⟨r2,aP,rfl,hvq,aa⟩
 subst vq;(try dsimp only at hM);replace H:=H.bk aa;clear aa;refine s_val (x_mf (fs:=[]) (cs:=[Pq al]) rfl rfl) ?_;obtain ⟨a8,aQ,hM⟩:=M.e_bind hM;refine s_call cf97 [aP,.func (.func 98) #[] #[Pq al]] rfl (zdY r2 (fun am=>zdm am d.spring d.town) (rdo 0) (H.os 0) ⟨98,[Pq al],rfl,cf98,fun aB ba bb aR am bc aS bf aT aU=>by obtain rfl:=Dem_arg aT; exact (zey am d.spring d.town (Has.app (Has.here (k:=1) rfl) _) aU aB (St.refl aS)).mono fun aR aB ⟨bg,aV,aW,aX⟩=>by subst aV; exact ⟨aW,aX⟩⟩ aQ _ (H.gt 2)) ?_
 rintro vq bh ⟨r3,rfl,hvq,aa⟩
 subst vq;(try dsimp only at hM);replace H:=H.bk aa;clear aa;refine kg 2 ?_;replace H:=H.pk [];refine W.ret ?_
 have aY:=M.e_pure hM
 exact ⟨_,resE_tmp rfl,⟨r3,aY,rfl,H⟩⟩

def zbd (aa:List Int) (ab:List Span) (ac:List Int) (ae:List Town) (aj ak:Int) (ag:List Flood) (d:Dem):M ((List Int) × Int) :=
  M.bind (zat aa ab ac ae aj ak ag) fun x_=>match x_ with
  | (.inl r1)=>(
  bif r1 != 0 then (
  M.pure (([]),r1))
  else (
  M.fail))
  | (.inr (ah,ai,al))=>(
  bif al != 0 then (
  M.fail)
  else (
  M.bind (zcQ aa ab ac ae ah ai ag d) fun r2 =>
  bif !r2 then (
  M.pure (([]),2))
  else (
  M.bind (zaa aa ab ac ae ah ai ag d) fun r3 =>
  M.grd (decide (r3.length*8<=140737488355328)) <|
  M.pure (r3,0))))
theorem zcN {R:List Chunk} {aH:Cells} {ao:Value} {aI:Cells} {ap:Value} {aJ:Cells} {aq:Value} {aK:Cells} {au:Value} {aL:Cells} {av:Value} (ab:List Int) (ac:List Span) (ae:List Int) (ag:List Town) (ah:Int) (ai:Int) (aj:List Flood) (d:Dem) (aw:Reads R aH) (ax:Sl aH ao ab) (ay:Reads R aI) (az:Sl aI ap ac) (aA:Reads R aJ) (aB:Sl aJ aq ae) (aC:Reads R aK) (aD:Sl aK au ag) (aE:Reads R aL) (aF:Sl aL av aj) {r:((List Int) × Int)} (hM:(zbd ab ac ae ag ah ai aj d).Ends r) (w:World) (H:St w w [] R):Ret Tryz.prog 29 #[.agg #[ao,ap,aq,au,I ah,I ai,av],.agg #[I d.spring,I d.town]] w fun v w'=>∃ (y0:List Int) (y1:Int) (u0:Value),(y0,y1)=r/\v = .tuple #[u0,I y1]/\St w w' [cOwn (α:=Int) 3 u0 y0] R:=by
 refine ret_of_W Tryz.func29 rfl rfl rfl ?_;refine kg 2 ?_;refine t_bx [ao,ap,aq,au,I ah,I ai,av] H rfl ?_;intro aY aZ H;refine t_bx [I d.spring,I d.town] H rfl ?_;intro a6 a7 H;refine kg 6 ?_;obtain ⟨a8,aP,hM⟩:=M.e_bind hM;refine s_call cf61 [.agg #[ao,ap,aq,au,I ah,I ai,av]] rfl (zaw ab ac ae ag ah ai aj (aw.app _) ax (ay.app _) az (aA.app _) aB (aC.app _) aD (aE.app _) aF aP _ (H.gt 2)) ?_
 rintro vq ba (⟨r1,aQ,hvq,aa⟩ | ⟨aM,aN,aR,aO,bb,bc,aS,hvq,aa⟩)
 ·subst aQ;subst vq;(try dsimp only at hM);replace H:=H.bk aa;clear aa;refine kg 14 ?_
  refine W.cond (r1 != 0) rfl (fun ak=>?_) (fun ak=>?_)
  ·replace hM:=M.e_t hM ak
   replace ak:=dI ak
   refine kg 6 ?_;replace H:=H.pk [];refine W.ret ?_
   have al:=M.e_pure hM
   replace H:=H.nilOwn (α:=Int) 3
   exact ⟨_,resE_tmp2 rfl,⟨([]),r1,(.slice none 0 0),al,rfl,H⟩⟩
  replace hM:=M.e_f hM ak
  exact (M.e_fail hM).elim
 subst aS;subst vq;(try dsimp only at hM);replace H:=H.bk aa;clear aa;refine kg 14 ?_
 refine W.cond (aR != 0) rfl (fun am=>?_) (fun am=>?_)
 ·replace hM:=M.e_t hM am
  exact (M.e_fail hM).elim
 replace hM:=M.e_f hM am
 replace am:=dI am
 refine kg 4 ?_;obtain ⟨bf,aT,hM⟩:=M.e_bind hM;refine s_call cf70 [Pq aO,.agg #[I d.spring,I d.town]] rfl (zer ab ac ae ag aM aN aj d (aw.app _) ax (ay.app _) az (aA.app _) aB (aC.app _) aD (aE.app _) aF (Has.here (k:=0) rfl) aT _ (H.gt 4)) ?_
 rintro vq bg ⟨r2,rfl,hvq,aa⟩
 subst vq;(try dsimp only at hM);replace H:=H.bk aa;clear aa;refine kg 3 ?_
 refine W.cond (!r2) rfl (fun aG=>?_) (fun aG=>?_)
 ·replace hM:=M.e_t hM aG;refine kg 5 ?_;replace H:=H.pk [];refine W.ret ?_
  have al:=M.e_pure hM
  replace H:=H.nilOwn (α:=Int) 3
  exact ⟨_,resE_tmp2 rfl,⟨([]),2,(.slice none 0 0),al,rfl,H⟩⟩
 replace hM:=M.e_f hM aG;refine kg 5 ?_;obtain ⟨bh,aU,hM⟩:=M.e_bind hM;refine s_call cf72 [Pq aO,.agg #[I d.spring,I d.town]] rfl (zaN ab ac ae ag aM aN aj d (aw.app _) ax (ay.app _) az (aA.app _) aB (aC.app _) aD (aE.app _) aF (Has.here (k:=0) rfl) aU _ ((H.pk [1,0,2,3]).gt 3)) ?_
 rintro vq bi ⟨r3,aV,bj,rfl,hvq,aa,aW⟩
 subst vq;(try dsimp only at hM)
 replace H:=H.pk [1,0,2,3] |>.bk aa
 clear aa;obtain ⟨bm,hM⟩:=M.e_gd hM;refine s_call cf71 [aV] rfl (clone_any r3 (Reads.of (k:=0) rfl memLe) aW (by omega) _ H.sep) ?_
 rintro aX bn aa
 replace H:=H.bk aa;clear aa;refine kg 3 ?_;replace H:=H.pk [0];refine W.ret ?_
 have al:=M.e_pure hM
 exact ⟨_,resE_tmp2 rfl,⟨r3,0,aX,al,rfl,H⟩⟩

def zej (d:Dem) (aa:List Int) (ab:List Span) (ac:List Int) (ae:List Town) (ag ah:Int) (ai:List Flood):M Bool :=
  M.bind (zaa aa ab ac ae ag ah ai d) fun r2 =>
  M.pure (decide (0<(r2.length:Int)))
theorem zeM {R:List Chunk} {al:Nat} {aj:Nat} {am:Cells} {ao:Value} {ap:Cells} {aq:Value} {au:Cells} {av:Value} {aw:Cells} {ax:Value} {ay:Cells} {az:Value} {ak:Nat} {B_b_k0207:Base} (d:Dem) (aa:List Int) (ab:List Span) (ac:List Int) (ae:List Town) (ag:Int) (ah:Int) (ai:List Flood) (aB:Reads R am) (aC:Sl am ao aa) (aD:Reads R ap) (aE:Sl ap aq ab) (aF:Reads R au) (aG:Sl au av ac) (aH:Reads R aw) (aI:Sl aw ax ae) (aJ:Reads R ay) (aK:Sl ay az ai) (aL:Has R (cBlk aj [ao,aq,av,ax,I ag,I ah,az,.map (some ak)] 113)) (aR:Has R (cBlk al [.func (.func 72) #[Pq aj] #[]] 123)) {r:Bool} (hM:(zej d aa ab ac ae ag ah ai).Ends r) (w:World) (H:St w w [cMem encDm ak B_b_k0207 (zaa aa ab ac ae ag ah ai)] R):Ret Tryz.prog 101 #[.agg #[I d.spring,I d.town],Pq al] w fun v w'=>∃ (y0:Bool) (aM:Base),y0=r/\v=B y0/\St w w' [cMem encDm ak aM (zaa aa ab ac ae ag ah ai)] R:=by
 refine ret_of_W Tryz.func101 rfl rfl rfl ?_;refine kg 2 ?_;refine t_bx [I d.spring,I d.town] H rfl ?_;intro aS aT H;refine kg 6 ?_;obtain ⟨aU,aN,hM⟩:=M.e_bind hM;refine s_callm (f:=72) (fs:=[Pq aj]) rfl cf72 [.agg #[I d.spring,I d.town]] rfl (zaN aa ab ac ae ag ah ai d (aB.app _) aC (aD.app _) aE (aF.app _) aG (aH.app _) aI (aJ.app _) aK (aL.app _) aN _ ((H.pk [1,0]).gt 1)) ?_
 rintro vq aV ⟨r2,aW,aO,rfl,hvq,aA,aP⟩
 subst vq;(try dsimp only at hM)
 replace H:=H.pk [1,0] |>.bk aA
 clear aA
 have aX:=(aP).len_le
 refine kg 4 ?_;refine W.ret ?_
 have aQ:=M.e_pure hM
 exact ⟨_,resE_tmp rfl,⟨(decide (0<(r2.length:Int))),aO,aQ,rfl,(H.pk [0])⟩⟩

def zd3 (x:Dem) (aa:List Int) (ab:List Span) (ac:List Int) (ae:List Town) (ag ah:Int) (ai:List Flood):M Bool :=
  M.bind (zej x aa ab ac ae ag ah ai) fun r2 =>
  M.pure (!r2)
theorem zeN {R:List Chunk} {ak:Nat} {al:Nat} {am:Nat} {ao:Cells} {ap:Value} {aq:Cells} {au:Value} {av:Cells} {aw:Value} {ax:Cells} {ay:Value} {az:Cells} {aA:Value} {aj:Nat} {B_b_k020207:Base} (x:Dem) (aa:List Int) (ab:List Span) (ac:List Int) (ae:List Town) (ag:Int) (ah:Int) (ai:List Flood) (aC:Reads R ao) (aD:Sl ao ap aa) (aE:Reads R aq) (aF:Sl aq au ab) (aG:Reads R av) (aH:Sl av aw ac) (aI:Reads R ax) (aJ:Sl ax ay ae) (aK:Reads R az) (aL:Sl az aA ai) (aM:Has R (cBlk am [ap,au,aw,ay,I ag,I ah,aA,.map (some aj)] 113)) (aN:Has R (cBlk al [.func (.func 72) #[Pq am] #[]] 123)) (aS:Has R (cBlk ak [.func (.func 101) #[] #[Pq al]] 122)) {r:Bool} (hM:(zd3 x aa ab ac ae ag ah ai).Ends r) (w:World) (H:St w w [cMem encDm aj B_b_k020207 (zaa aa ab ac ae ag ah ai)] R):Ret Tryz.prog 107 #[.agg #[I x.spring,I x.town],Pq ak] w fun v w'=>∃ (y0:Bool) (aO:Base),y0=r/\v=B y0/\St w w' [cMem encDm aj aO (zaa aa ab ac ae ag ah ai)] R:=by
 refine ret_of_W Tryz.func107 rfl rfl rfl ?_;refine kg 2 ?_;refine t_bx [I x.spring,I x.town] H rfl ?_;intro aT aU H;refine kg 6 ?_;obtain ⟨aV,aP,hM⟩:=M.e_bind hM;refine s_callv (f:=101) rfl cf101 [.agg #[I x.spring,I x.town]] rfl (zeM x aa ab ac ae ag ah ai (aC.app _) aD (aE.app _) aF (aG.app _) aH (aI.app _) aJ (aK.app _) aL (aM.app _) (aN.app _) aP _ ((H.pk [1,0]).gt 1)) ?_
 rintro vq aW ⟨r2,aQ,rfl,hvq,aB⟩
 subst vq;(try dsimp only at hM)
 replace H:=H.pk [1,0] |>.bk aB
 clear aB;refine kg 3 ?_;refine W.ret ?_
 have aR:=M.e_pure hM
 exact ⟨_,resE_tmp rfl,⟨(!r2),aQ,aR,rfl,(H.pk [0])⟩⟩

def zby (s:List Dem) (aa:List Int) (ab:List Span) (ac:List Int) (ae:List Town) (ag ah:Int) (ai:List Flood):Nat->M (Nat ⊕ (Int ⊕ Unit)):=fun s2 =>
  bif decide ((s2:Int)<(s.length:Int)) then (
  M.grd (decide ((s2:Int)<(s.length:Int))) <|
  M.bind (zd3 (s.getD s2 default) aa ab ac ae ag ah ai) fun r2 =>
  bif r2 then (
  M.pure (.inr (.inl (s2:Int))))
  else (
  M.pure (.inl (s2+1))))
  else (
  M.pure (.inr (.inr ())))
def zew (s:List Dem) (aa:List Int) (ab:List Span) (ac:List Int) (ae:List Town) (ag ah:Int) (ai:List Flood):M Int :=
  M.bind (M.iter (zby s aa ab ac ae ag ah ai) 0) fun x_=>match x_ with
  | (.inl s3)=>(
  M.pure s3)
  | (.inr (_:Unit))=>(
  M.pure (-1))
theorem zfe {R:List Chunk} {av:Cells} {al:Value} {am:Nat} {aw:Nat} {ax:Nat} {ay:Cells} {az:Value} {aA:Cells} {aB:Value} {aC:Cells} {aD:Value} {aE:Cells} {aF:Value} {aG:Cells} {aH:Value} {ak:Nat} {B_b_f2020207:Base} (s:List Dem) (aa:List Int) (ab:List Span) (ac:List Int) (ae:List Town) (ag:Int) (ah:Int) (ai:List Flood) (aN:Reads R av) (aI:Sl av al s) (aO:Reads R ay) (aP:Sl ay az aa) (aQ:Reads R aA) (aR:Sl aA aB ab) (aS:Reads R aC) (aT:Sl aC aD ac) (aU:Reads R aE) (aV:Sl aE aF ae) (aW:Reads R aG) (aX:Sl aG aH ai) (aY:Has R (cBlk ax [az,aB,aD,aF,I ag,I ah,aH,.map (some ak)] 113)) (aZ:Has R (cBlk aw [.func (.func 72) #[Pq ax] #[]] 123)) (a6:Has R (cBlk am [.func (.func 101) #[] #[Pq aw]] 122)) {r:Int} (hM:(zew s aa ab ac ae ag ah ai).Ends r) (w:World) (H:St w w [cMem encDm ak B_b_f2020207 (zaa aa ab ac ae ag ah ai)] R):Ret Tryz.prog 99 #[al,.func (.func 107) #[] #[Pq am]] w fun v w'=>∃ (y0:Int) (a7:Base),y0=r/\v=I y0/\St w w' [cMem encDm ak a7 (zaa aa ab ac ae ag ah ai)] R:=by
 refine ret_of_W Tryz.func99 rfl rfl rfl ?_
 have bh:=(aI).len_le
 refine kg 12 ?_;obtain ⟨a8,ao,aJ⟩:=M.e_bind hM
 obtain ⟨bi,ao⟩:=M.e_iter ao
 refine W.loop (fun m σ W=>∃ (s2:Nat) (B_mem:Base) (ρ:Env),σ=upds ρ [(0,al),(1,.func (.func 107) #[] #[Pq am]),(7,I (s.length:Int)),(8,I (s2:Int))]/\M.iterN (zby s aa ab ac ae ag ah ai) m s2=some a8/\St w W [cMem encDm ak B_mem (zaa aa ab ac ae ag ah ai)] R) ?_ ?_
 ·exact ⟨_,0,B_b_f2020207,_,upds_of _ _ ⟨rfl,rfl,rfl,rfl,trivial⟩,ao,H⟩
 rintro bj σ bm ⟨s2,B_mem,ρ,rfl,aK,H⟩
 obtain ⟨ba,bb,bn,hM,ap⟩:=M.e_iterN aK
 simp only [zby] at hM
 clear aK;refine kg 5 ?_
 refine W.cond (decide ((s2:Int)<(s.length:Int))) rfl (fun aj=>?_) (fun aj=>?_)
 ·replace hM:=M.e_t hM aj
  replace aj:=dI aj
  obtain ⟨bo,hM⟩:=M.e_gd hM;refine kg 14 ?_;refine s_val (x_ld (v:=.agg #[I ((s.getD s2 default).spring),I ((s.getD s2 default).town)]) rfl (ld_ag Ag32 Sz32 (At.mono (Dem_atA aI (i:=(s2:Int)) (by omega) (by omega)) (aN.at H)))) ?_;obtain ⟨bp,bc,hM⟩:=M.e_bind hM;refine s_callv (f:=107) rfl cf107 [.agg #[I ((s.getD s2 default).spring),I ((s.getD s2 default).town)]] rfl (zeN (s.getD s2 default) aa ab ac ae ag ah ai (aO.app _) aP (aQ.app _) aR (aS.app _) aT (aU.app _) aV (aW.app _) aX (aY.app _) (aZ.app _) (a6.app _) bc _ (H.gt 0)) ?_
  rintro vq br ⟨r2,aL,rfl,hvq,aM⟩
  subst vq;(try dsimp only at hM);replace H:=H.bk aM;clear aM;refine s_nil ?_
  refine W.cond r2 rfl (fun aq=>?_) (fun aq=>?_)
  ·replace hM:=M.e_t hM aq;refine kg 5 ?_;refine W.ret ?_
   have bf:=M.e_inr hM ap
   subst bf;replace hM:=aJ;(try dsimp only at hM)
   have au:=M.e_pure hM
   exact ⟨_,resE_tmp rfl,⟨(s2:Int),aL,au,rfl,H⟩⟩
  replace hM:=M.e_f hM aq;refine kg 5 ?_
  exact ⟨ba,bb,s2+1,aL,_,upds_of _ _ ⟨rfl,rfl,rfl,rfl,trivial⟩,M.e_inl hM ap,H⟩
 replace hM:=M.e_f hM aj
 replace aj:=dI aj
 refine W.exit ?_
 have bg:=M.e_inr hM ap
 subst bg;replace hM:=aJ;(try dsimp only at hM);refine kg 4 ?_;refine W.ret ?_
 have au:=M.e_pure hM
 exact ⟨_,resE_tmp rfl,⟨(-1),B_mem,au,rfl,H⟩⟩

def zee (s:List Dem) (aa:List Int) (ab:List Span) (ac:List Int) (ae:List Town) (ag ah:Int) (ai:List Flood):M Bool :=
  M.bind (zew s aa ab ac ae ag ah ai) fun r2 =>
  M.pure (decide (0<=r2))
theorem ze4 {R:List Chunk} {am:Cells} {aj:Value} {ak:Nat} {ao:Nat} {ap:Nat} {aq:Cells} {au:Value} {av:Cells} {aw:Value} {ax:Cells} {ay:Value} {az:Cells} {aA:Value} {aB:Cells} {aC:Value} {al:Nat} {B_b_f2020207:Base} (s:List Dem) (aa:List Int) (ab:List Span) (ac:List Int) (ae:List Town) (ag:Int) (ah:Int) (ai:List Flood) (aE:Reads R am) (aF:Sl am aj s) (aG:Reads R aq) (aH:Sl aq au aa) (aI:Reads R av) (aJ:Sl av aw ab) (aK:Reads R ax) (aL:Sl ax ay ac) (aM:Reads R az) (aN:Sl az aA ae) (aO:Reads R aB) (aP:Sl aB aC ai) (aQ:Has R (cBlk ap [au,aw,ay,aA,I ag,I ah,aC,.map (some al)] 113)) (aR:Has R (cBlk ao [.func (.func 72) #[Pq ap] #[]] 123)) (aS:Has R (cBlk ak [.func (.func 101) #[] #[Pq ao]] 122)) {r:Bool} (hM:(zee s aa ab ac ae ag ah ai).Ends r) (w:World) (H:St w w [cMem encDm al B_b_f2020207 (zaa aa ab ac ae ag ah ai)] R):Ret Tryz.prog 97 #[aj,.func (.func 107) #[] #[Pq ak]] w fun v w'=>∃ (y0:Bool) (aT:Base),y0=r/\v=B y0/\St w w' [cMem encDm al aT (zaa aa ab ac ae ag ah ai)] R:=by
 refine ret_of_W Tryz.func97 rfl rfl rfl ?_;refine kg 8 ?_;obtain ⟨aX,aU,hM⟩:=M.e_bind hM;refine s_call cf99 [aj,.func (.func 107) #[] #[Pq ak]] rfl (zfe s aa ab ac ae ag ah ai (aE.app _) aF (aG.app _) aH (aI.app _) aJ (aK.app _) aL (aM.app _) aN (aO.app _) aP (aQ.app _) (aR.app _) (aS.app _) aU _ (H.gt 0)) ?_
 rintro vq aY ⟨r2,aV,rfl,hvq,aD⟩
 subst vq;(try dsimp only at hM);replace H:=H.bk aD;clear aD;refine kg 3 ?_;refine W.ret ?_
 have aW:=M.e_pure hM
 exact ⟨_,resE_tmp rfl,⟨(decide (0<=r2)),aV,aW,rfl,H⟩⟩

def zdE (l:List Dem) (aa:List Int) (ab:List Span) (ac:List Int) (ae:List Town) (ag ah:Int) (ai:List Flood):M Bool :=
  M.bind (zee l aa ab ac ae ag ah ai) fun r2 =>
  M.pure (!r2)
theorem zeI {R:List Chunk} {am:Cells} {aj:Value} {ak:Nat} {ao:Nat} {ap:Cells} {aq:Value} {au:Cells} {av:Value} {aw:Cells} {ax:Value} {ay:Cells} {az:Value} {aA:Cells} {aB:Value} {al:Nat} {B_b_so20207:Base} (l:List Dem) (aa:List Int) (ab:List Span) (ac:List Int) (ae:List Town) (ag:Int) (ah:Int) (ai:List Flood) (aE:Reads R am) (aF:Sl am aj l) (aG:Reads R ap) (aH:Sl ap aq aa) (aI:Reads R au) (aJ:Sl au av ab) (aK:Reads R aw) (aL:Sl aw ax ac) (aM:Reads R ay) (aN:Sl ay az ae) (aO:Reads R aA) (aP:Sl aA aB ai) (aQ:Has R (cBlk ao [aq,av,ax,az,I ag,I ah,aB,.map (some al)] 113)) (aR:Has R (cBlk ak [.func (.func 72) #[Pq ao] #[]] 123)) {r:Bool} (hM:(zdE l aa ab ac ae ag ah ai).Ends r) (w:World) (H:St w w [cMem encDm al B_b_so20207 (zaa aa ab ac ae ag ah ai)] R):Ret Tryz.prog 82 #[aj,.func (.func 101) #[] #[Pq ak]] w fun v w'=>∃ (y0:Bool) (aS:Base),y0=r/\v=B y0/\St w w' [cMem encDm al aS (zaa aa ab ac ae ag ah ai)] R:=by
 refine ret_of_W Tryz.func82 rfl rfl rfl ?_;refine kg 2 ?_;refine t_b1 (.func (.func 101) #[] #[Pq ak]) H rfl rfl ?_;intro aC aW H;refine kg 5 ?_;refine s_val (x_mf (fs:=[]) (cs:=[Pq aC]) rfl rfl) ?_;obtain ⟨aX,aT,hM⟩:=M.e_bind hM;refine s_call cf97 [aj,.func (.func 107) #[] #[Pq aC]] rfl (ze4 l aa ab ac ae ag ah ai (aE.app _) aF (aG.app _) aH (aI.app _) aJ (aK.app _) aL (aM.app _) aN (aO.app _) aP (aQ.app _) (aR.app _) (Has.here (k:=0) rfl) aT _ ((H.pk [1,0]).gt 1)) ?_
 rintro vq aY ⟨r2,aU,rfl,hvq,aD⟩
 subst vq;(try dsimp only at hM)
 replace H:=H.pk [1,0] |>.bk aD
 clear aD;refine kg 3 ?_;refine W.ret ?_
 have aV:=M.e_pure hM
 exact ⟨_,resE_tmp rfl,⟨(!r2),aU,aV,rfl,(H.pk [0])⟩⟩

def zaW  : Int->(Int × Int)->M (Int ⊕ Unit):=fun s (x,x2) =>
  M.grd (decide ((-9223372036854775808:Int)<=(s+1))&&decide ((s+1)<=(9223372036854775807:Int))) <|
  M.pure (.inl (s+1))
def zbr (d:Dem) (ah:List Int) (ai:List Span) (aj:List Int) (ak:List Town) (al am:Int) (ao:List Flood) (aa:List Int) (ab:List Span) (ac:List Int) (ae:List Town) (ap aq:Int) (ag:List Flood):M Int :=
  M.bind (zaa ah ai aj ak al am ao d) fun r2 =>
  M.grd (decide ((0:Int)<=((r2.length:Int)-1))&&decide (((r2.length:Int)-1)<(r2.length:Int))) <|
  M.bind (zaE aa ab ac ae ap aq ag (r2.getD (Int.toNat ((r2.length:Int)-1)) 0)) fun (au,av,aw) =>
  M.bind (zaG (M.yl zaW) (.inl 0) au aa ab ac ae av aw ag) fun x_=>match x_ with
  | (.inl s,q0)=>(
  M.pure s)
  | (.inr _,_)=>M.fail
theorem zd2 {R:List Chunk} {bg:Nat} {aR:Nat} {bh:Cells} {bi:Value} {bj:Cells} {bm:Value} {bn:Cells} {bo:Value} {bp:Cells} {br:Value} {bt:Cells} {bu:Value} {ak:Nat} {B_b_k0207:Base} {bv:Nat} {bw:Nat} {bx:Cells} {al:Value} {bz:Cells} {am:Value} {bA:Cells} {ao:Value} {bB:Cells} {ap:Value} {bC:Cells} {aq:Value} {bN:Nat} (d:Dem) (ab:List Int) (ac:List Span) (ae:List Int) (ag:List Town) (ah:Int) (ai:Int) (aj:List Flood) (aE:List Int) (aF:List Span) (aG:List Int) (aH:List Town) (ax:Int) (ay:Int) (aI:List Flood) (aS:Reads R bh) (bD:Sl bh bi ab) (aT:Reads R bj) (bE:Sl bj bm ac) (aU:Reads R bn) (bF:Sl bn bo ae) (aV:Reads R bp) (bG:Sl bp br ag) (aW:Reads R bt) (bH:Sl bt bu aj) (aX:Has R (cBlk aR [bi,bm,bo,br,I ah,I ai,bu,.map (some ak)] 113)) (bI:Has R (cBlk bg [.func (.func 72) #[Pq aR] #[]] 123)) (aJ:Reads R bx) (aY:Sl bx al aE) (aK:Reads R bz) (aZ:Sl bz am aF) (aL:Reads R bA) (a6:Sl bA ao aG) (aM:Reads R bB) (a7:Sl bB ap aH) (aN:Reads R bC) (a8:Sl bC aq aI) (ba:Has R (cBlk bw [al,am,ao,ap,I ax,I ay,aq,.map (some bN)] 113)) (bJ:Has R (cBlk bv [Pq bw] 108)) {r:Int} (hM:(zbr d ab ac ae ag ah ai aj aE aF aG aH ax ay aI).Ends r) (w:World) (H:St w w [cMem encDm ak B_b_k0207 (zaa ab ac ae ag ah ai aj)] R):Ret Tryz.prog 102 #[.agg #[I d.spring,I d.town],Pq bg,Pq bv] w fun v w'=>∃ (y0:Int) (bO:Base),y0=r/\v=I y0/\St w w' [cMem encDm ak bO (zaa ab ac ae ag ah ai aj)] R:=by
 refine ret_of_WD Tryz.func102 rfl rfl rfl ?_
 replace H:St w w [cMk ([]),cMem encDm ak B_b_k0207 (zaa ab ac ae ag ah ai aj)] R:=H.mk0
 have bY:=bD.len_le
 have bZ:=bE.len_le
 have b0:=bF.len_le
 have b1:=bG.len_le
 have b2:=bH.len_le
 have b3:=aY.len_le
 have b4:=aZ.len_le
 have b5:=a6.len_le
 have b6:=a7.len_le
 have b7:=a8.len_le
 unfold zbr at hM
 refine WD.seq<|WD.of<|W.region rfl ?_;refine t_bx [I d.spring,I d.town] H rfl ?_;intro az b8 H;refine kg 2 ?_;refine WD.seq<|WD.of ?_;refine kg 3 ?_;obtain ⟨b9,bP,hM⟩:=M.e_bind hM;refine s_callm (f:=72) (fs:=[Pq aR]) rfl cf72 [.agg #[I d.spring,I d.town]] rfl (zaN ab ac ae ag ah ai aj d (aS.app _) bD (aT.app _) bE (aU.app _) bF (aV.app _) bG (aW.app _) bH (aX.app _) bP _ ((H.pk [2,0,1]).gt 2)) ?_
 rintro vq ca ⟨r2,cb,aw,rfl,hvq,au,bK⟩
 subst vq;(try dsimp only at hM)
 replace H:=H.pk [2,0,1] |>.bk au
 clear au;refine kg 2 ?_;refine WD.seq<|WD.of<|W.region rfl ?_;refine t_alloc (cs:=[I 0]) H Al3 rfl ?_;intro av cc H;refine t_sw 0 0 [I 0] (I 0) H rfl rfl Sz3 rfl rfl rfl rfl ?_;intro cd H;refine s_nil<|WD.seq<|WD.seq<|WD.of ?_;refine W.draw (fun W=>St w W [cBlk av [I 0] 3,cMem encDm ak aw (zaa ab ac ae ag ah ai aj),cBlk az [I d.spring,I d.town] 32,cMk ([])] R) [(0,true),(1,true),(2,true),(3,true),(4,true),(5,true),(6,true),(7,true),(8,true),(9,true),(10,false)] mixed (by decide +kernel) rfl ?_;intro ce bL;replace H:=H.ext bL;clear bL
 refine ⟨(H.pk [0,1,2,3]),?_⟩
 refine kg 3 ?_;refine d_q rfl (fun w' H=>x_ld (v:=.agg #[al,am,ao,ap,I ax,I ay,aq]) rfl (ldb_ag (ds:=[al,am,ao,ap,I ax,I ay,aq]) Ag29 Sz29 (ba.blk H) rfl rfl)) ?_
 have cf:=(bK).len_le
 obtain ⟨cg,hM⟩:=M.e_gd hM;refine kg 5 ?_;refine d_q rfl (fun w' H=>x_ld (v:=I (r2.getD (Int.toNat ((r2.length:Int)-1)) 0)) rfl (ld_sc Sc3 (At.mono (Int_at bK (i:=(r2.length:Int)-1) (by omega) (by omega)) (memLe _ (H.get (k:=1) rfl)))))<|d_l rfl ?_;obtain ⟨ci,bQ,hM⟩:=M.e_bind hM;refine s_call cf51 [.agg #[al,am,ao,ap,I ax,I ay,aq],I (r2.getD (Int.toNat ((r2.length:Int)-1)) 0)] rfl (zaV aE aF aG aH ax ay aI (r2.getD (Int.toNat ((r2.length:Int)-1)) 0) (aJ.app _) aY (aK.app _) aZ (aL.app _) a6 (aM.app _) a7 (aN.app _) a8 bQ _ (H.gt 4)) ?_
 rintro vq cj ⟨aO,aA,aB,aD,aC,rfl,hvq,au⟩
 subst vq;(try dsimp only at hM);replace H:=H.bk au;clear au
 refine s_nil ⟨(H.pk [2,3,4,5]),?_⟩
 refine d_nil<|WD.block ?_;obtain ⟨ck,bR,hM⟩:=M.e_bind hM;refine WD.range (L:=[cBlk av [I 0] 3,cBlk aC [al,am,ao,ap,I aA,I aB,aq] 29,cMem encDm ak aw (zaa ab ac ae ag ah ai aj),cBlk az [I d.spring,I d.town] 32,cBlk aD [I aO] 3]) [Pq aD,Pq aC] (H.pk [5,2,1,3,4,0]) rfl cf95 ?_;intro aP bb bc bS bf H
 have hYC:YieldC Tryz.prog ([cMk (bb :: ([])),cBlk aC [al,am,ao,ap,I aA,I aB,aq] 29,cMem encDm ak aw (zaa ab ac ae ag ah ai aj),cBlk az [I d.spring,I d.town] 32]++R) arII (yJ aP bc (fun s aQ=>aQ=[cBlk av [I s] 3]) (fun (_:Unit) _=>False) (fun _=>.ret)) (.func (.yield aP) #[] #[]) (M.yl zaW):=by
  refine YieldC.mk bf (fun s aQ=>aQ=[cBlk av [I s] 3]) (fun (_:Unit) _=>False) (fun _=>.ret) zaW (by rintro s _ h_; obtain ⟨rfl⟩:=h_; rfl) (fun _ _ h_=>h_.elim) rfl (arII_len rfl) ?_;intro C_ cm x_ W_ bT
  obtain ⟨x,x2⟩:=x_
  obtain rfl:=bT
  refine W.skip ?_
  refine ⟨rfl,rfl,?_⟩
  intro w R aa aQ s_ r bU hM H
  skip
  obtain ⟨s,bV⟩:∃ y_,y_=s_:=⟨_,rfl⟩
  subst bV
  obtain ⟨rfl⟩:=bU
  replace aS:=aS.sub aa
  replace aT:=aT.sub aa
  replace aU:=aU.sub aa
  replace aV:=aV.sub aa
  replace aW:=aW.sub aa
  replace aX:=aX.sub aa
  replace bI:=bI.sub aa
  replace aJ:=aJ.sub aa
  replace aK:=aK.sub aa
  replace aL:=aL.sub aa
  replace aM:=aM.sub aa
  replace aN:=aN.sub aa
  replace ba:=ba.sub aa
  replace bJ:=bJ.sub aa
  replace hM:(zaW s (x,x2)).Ends r:=hM
  simp only [zaW] at hM
  replace H:=H.pk [0,2,3,4,1];obtain ⟨cn,hM⟩:=M.e_gd hM;refine kg 4 ?_;refine t_sw 0 0 [I (s+1)] (I (s+1)) H rfl rfl Sz3 rfl rfl rfl rfl ?_;intro co H;refine s_nil ?_
  exact ⟨s+1,[cBlk av [I (s+1)] 3],(M.e_pure hM).symm,rfl,H.pick [0,4,1,2,3] (by decide) rfl⟩
 replace H:St w bS (cAll (cObj aP (.loop bc) :: [cBlk av [I 0] 3]) :: [cBlk aD [I aO] 3,cMk (bb :: ([])),cBlk aC [al,am,ao,ap,I aA,I aB,aq] 29,cMem encDm ak aw (zaa ab ac ae ag ah ai aj),cBlk az [I d.spring,I d.town] 32]) R:=St.bundleB (A:=cObj aP (.loop bc) :: [cBlk av [I 0] 3]) (T:=[cBlk aD [I aO] 3,cMk (bb :: ([])),cBlk aC [al,am,ao,ap,I aA,I aB,aq] 29,cMem encDm ak aw (zaa ab ac ae ag ah ai aj),cBlk az [I d.spring,I d.town] 32]) rfl (H.pk [0,2,6,1,3,4,5])
 refine (zaS (M.yl zaW) (.inl 0) aO aE aF aG aH aA aB aI hYC ⟨_,rfl,rfl⟩ (aJ.app _) aY (aK.app _) aZ (aL.app _) a6 (aM.app _) a7 (aN.app _) a8 (Has.here (k:=1) rfl) bR _ (H.gt 4)).mono ?_
 rintro vq cp ⟨bW,q0,cq,rfl,hvq,au,bM⟩
 replace H:=H.back au rfl
 clear au hYC
 rcases bW with s | _
 ·(try dsimp only at hM)
  obtain ⟨_,rfl,rfl⟩:=bM
  refine ⟨_,[cBlk av [I s] 3,cBlk aC [al,am,ao,ap,I aA,I aB,aq] 29,cMem encDm ak aw (zaa ab ac ae ag ah ai aj),cBlk az [I d.spring,I d.town] 32,cBlk aD [I q0] 3],H.unbundle.pick [0,3,1,4,5,6,2] (by decide) rfl,bf.nb,?_⟩
  intro cr H
  rw [bf.pd]
  replace H:=H.nf
  try simp only []
  replace H:=H.pk [0,1,3];refine WD.seq<|WD.of ?_;refine kg 4 ?_;refine WD.of ?_;refine W.ret ?_;refine bodyD_r (H.pk [0,1,2]) ?_;intro ct H;replace H:=H.nf
  have bX:=M.e_pure hM
  exact ⟨_,resE_tmp rfl,⟨s,aw,bX,rfl,(H.pk [1])⟩⟩
 obtain ⟨_,_,h_⟩:=bM; exact h_.elim

def m_cmp_isNaN_int (x:Int):M Bool :=
  M.pure (x != x)
theorem cmp_isNaN_int_ok {R:List Chunk}  (x:Int)  {r:Bool} (hM:(m_cmp_isNaN_int x).Ends r) (w:World) (H:St w w [] R):Ret Tryz.prog 111 #[I x] w fun v w'=>∃ (y0:Bool),y0=r/\v=B y0/\St w w' [] R:=by
 refine ret_of_W Tryz.func111 rfl rfl rfl ?_;refine kg 11 ?_;refine W.ret ?_
 have aa:=M.e_pure hM
 exact ⟨_,resE_tmp rfl,⟨(x != x),aa,rfl,H⟩⟩

end Go.Proofs.YtbldmjejckjflabGreat
end
section
set_option maxRecDepth 100000
set_option maxHeartbeats 16000000
namespace Go.Proofs.YtbldmjejckjflabGreat
open Go Go.Nm
attribute [local irreducible] gd execOp SL SLD SLT WR
def m_cmp_Compare_int (x y:Int):M Int :=
  M.bind (m_cmp_isNaN_int x) fun r2 =>
  M.bind (m_cmp_isNaN_int y) fun r3 =>
  bif r2 then (
  bif r3 then (
  M.pure 0)
  else (
  M.pure (-1)))
  else (
  bif r3 then (
  M.pure 1)
  else (
  bif decide (x<y) then (
  M.pure (-1))
  else (
  bif decide (y<x) then (
  M.pure 1)
  else (
  M.pure 0))))
theorem cmp_Compare_int_ok {R:List Chunk}  (x:Int) (y:Int)  {r:Int} (hM:(m_cmp_Compare_int x y).Ends r) (w:World) (H:St w w [] R):Ret Tryz.prog 105 #[I x,I y] w fun v w'=>∃ (y0:Int),y0=r/\v=I y0/\St w w' [] R:=by
 refine ret_of_W Tryz.func105 rfl rfl rfl ?_;refine kg 7 ?_;obtain ⟨al,aj,hM⟩:=M.e_bind hM;refine s_call cf111 [I x] rfl (cmp_isNaN_int_ok x aj _ (H.gt 0)) ?_
 rintro vq am ⟨r2,rfl,hvq,ae⟩
 subst vq;(try dsimp only at hM);replace H:=H.bk ae;clear ae;refine kg 5 ?_;obtain ⟨ao,ak,hM⟩:=M.e_bind hM;refine s_call cf111 [I y] rfl (cmp_isNaN_int_ok y ak _ (H.gt 0)) ?_
 rintro vq ap ⟨r3,rfl,hvq,ae⟩
 subst vq;(try dsimp only at hM);replace H:=H.bk ae;clear ae;refine kg 7 ?_
 refine W.cond r2 rfl (fun ag=>?_) (fun ag=>?_)
 ·replace hM:=M.e_t hM ag;refine kg 5 ?_
  refine W.cond r3 rfl (fun ah=>?_) (fun ah=>?_)
  ·replace hM:=M.e_t hM ah;refine kg 4 ?_;refine W.ret ?_
   have aa:=M.e_pure hM
   exact ⟨_,resE_tmp rfl,⟨0,aa,rfl,H⟩⟩
  replace hM:=M.e_f hM ah;refine kg 5 ?_;refine W.ret ?_
  have aa:=M.e_pure hM
  exact ⟨_,resE_tmp rfl,⟨(-1),aa,rfl,H⟩⟩
 replace hM:=M.e_f hM ag;refine kg 6 ?_
 refine W.cond r3 rfl (fun ai=>?_) (fun ai=>?_)
 ·replace hM:=M.e_t hM ai;refine kg 4 ?_;refine W.ret ?_
  have aa:=M.e_pure hM
  exact ⟨_,resE_tmp rfl,⟨1,aa,rfl,H⟩⟩
 replace hM:=M.e_f hM ai;refine kg 8 ?_
 refine W.cond (decide (x<y)) rfl (fun ab=>?_) (fun ab=>?_)
 ·replace hM:=M.e_t hM ab
  replace ab:=dI ab
  refine kg 4 ?_;refine W.ret ?_
  have aa:=M.e_pure hM
  exact ⟨_,resE_tmp rfl,⟨(-1),aa,rfl,H⟩⟩
 replace hM:=M.e_f hM ab
 replace ab:=dI ab
 refine kg 8 ?_
 refine W.cond (decide (y<x)) rfl (fun ac=>?_) (fun ac=>?_)
 ·replace hM:=M.e_t hM ac
  replace ac:=dI ac
  refine kg 4 ?_;refine W.ret ?_
  have aa:=M.e_pure hM
  exact ⟨_,resE_tmp rfl,⟨1,aa,rfl,H⟩⟩
 replace hM:=M.e_f hM ac
 replace ac:=dI ac
 refine kg 5 ?_;refine W.ret ?_
 have aa:=M.e_pure hM
 exact ⟨_,resE_tmp rfl,⟨0,aa,rfl,H⟩⟩

def zeu (a b:Dem) (aa:List Int) (ab:List Span) (ac:List Int) (ae:List Town) (ag ah:Int) (ai:List Flood) (aj:List Int) (ak:List Span) (al:List Int) (am:List Town) (ao ap:Int) (aq:List Flood):M Int :=
  M.bind (zbr b aa ab ac ae ag ah ai aj ak al am ao ap aq) fun r2 =>
  M.bind (zbr a aa ab ac ae ag ah ai aj ak al am ao ap aq) fun r3 =>
  M.bind (m_cmp_Compare_int r2 r3) fun r4 =>
  M.pure r4
theorem zeF {R:List Chunk} {aw:Nat} {ax:Nat} {ay:Nat} {az:Cells} {aA:Value} {aB:Cells} {aC:Value} {aD:Cells} {aE:Value} {aF:Cells} {aG:Value} {aH:Cells} {aI:Value} {av:Nat} {B_b_k020207:Base} {aJ:Nat} {aK:Nat} {aL:Cells} {aM:Value} {aN:Cells} {aO:Value} {aP:Cells} {aQ:Value} {aR:Cells} {aS:Value} {aT:Cells} {aU:Value} {bx:Nat} (a:Dem) (b:Dem) (ab:List Int) (ac:List Span) (ae:List Int) (ag:List Town) (ah:Int) (ai:Int) (aj:List Flood) (ak:List Int) (al:List Span) (am:List Int) (ao:List Town) (ap:Int) (aq:Int) (au:List Flood) (aV:Reads R az) (aW:Sl az aA ab) (aX:Reads R aB) (aY:Sl aB aC ac) (aZ:Reads R aD) (a6:Sl aD aE ae) (a7:Reads R aF) (a8:Sl aF aG ag) (ba:Reads R aH) (bb:Sl aH aI aj) (bc:Has R (cBlk ay [aA,aC,aE,aG,I ah,I ai,aI,.map (some av)] 113)) (bf:Has R (cBlk ax [.func (.func 72) #[Pq ay] #[]] 123)) (bg:Reads R aL) (bh:Sl aL aM ak) (bi:Reads R aN) (bj:Sl aN aO al) (bm:Reads R aP) (bn:Sl aP aQ am) (bo:Reads R aR) (bp:Sl aR aS ao) (br:Reads R aT) (bt:Sl aT aU au) (bu:Has R (cBlk aK [aM,aO,aQ,aS,I ap,I aq,aU,.map (some bx)] 113)) (bv:Has R (cBlk aJ [Pq aK] 108)) (bH:Has R (cBlk aw [.func (.func 102) #[] #[Pq ax,Pq aJ]] 149)) {r:Int} (hM:(zeu a b ab ac ae ag ah ai aj ak al am ao ap aq au).Ends r) (w:World) (H:St w w [cMem encDm av B_b_k020207 (zaa ab ac ae ag ah ai aj)] R):Ret Tryz.prog 104 #[.agg #[I a.spring,I a.town],.agg #[I b.spring,I b.town],Pq aw] w fun v w'=>∃ (y0:Int) (bz:Base),y0=r/\v=I y0/\St w w' [cMem encDm av bz (zaa ab ac ae ag ah ai aj)] R:=by
 refine ret_of_W Tryz.func104 rfl rfl rfl ?_;refine kg 2 ?_;refine t_bx [I a.spring,I a.town] H rfl ?_;intro bA bI H;refine t_bx [I b.spring,I b.town] H rfl ?_;intro bB bJ H;refine kg 3 ?_;refine W.draw (fun W=>St w W [cBlk bB [I b.spring,I b.town] 32,cBlk bA [I a.spring,I a.town] 32] R) [(0,true),(1,true),(3,true),(4,true),(2,false),(5,false),(6,false),(7,true)] mixed (by decide +kernel) rfl ?_;intro bK bw;replace H:=H.ext bw;clear bw
 refine ⟨(H.pk [0,1]),?_⟩
 refine kg 4 ?_;refine d_l rfl ?_;obtain ⟨bL,bC,hM⟩:=M.e_bind hM;refine s_callv (f:=102) rfl cf102 [.agg #[I b.spring,I b.town]] rfl (zd2 b ab ac ae ag ah ai aj ak al am ao ap aq au (aV.app _) aW (aX.app _) aY (aZ.app _) a6 (a7.app _) a8 (ba.app _) bb (bc.app _) (bf.app _) (bg.app _) bh (bi.app _) bj (bm.app _) bn (bo.app _) bp (br.app _) bt (bu.app _) (bv.app _) bC _ ((H.pk [2,0,1]).gt 2)) ?_
 rintro vq bM ⟨r2,bN,rfl,hvq,aa⟩
 subst vq;(try dsimp only at hM)
 replace H:=H.pk [2,0,1] |>.bk aa
 clear aa
 refine s_nil ⟨(H.pk [1,2]),?_⟩
 refine d_l rfl ?_;obtain ⟨bO,bD,hM⟩:=M.e_bind hM;refine s_callv (f:=102) rfl cf102 [.agg #[I a.spring,I a.town]] rfl (zd2 a ab ac ae ag ah ai aj ak al am ao ap aq au (aV.app _) aW (aX.app _) aY (aZ.app _) a6 (a7.app _) a8 (ba.app _) bb (bc.app _) (bf.app _) (bg.app _) bh (bi.app _) bj (bm.app _) bn (bo.app _) bp (br.app _) bt (bu.app _) (bv.app _) bD _ (H.gt 2)) ?_
 rintro vq bP ⟨r3,bE,rfl,hvq,aa⟩
 subst vq;(try dsimp only at hM);replace H:=H.bk aa;clear aa
 refine s_nil ⟨(H.pk [1,2]),?_⟩
 refine d_l rfl ?_;obtain ⟨bQ,bF,hM⟩:=M.e_bind hM;refine s_call cf105 [I r2,I r3] rfl (cmp_Compare_int_ok r2 r3 bF _ (H.gt 3)) ?_
 rintro vq bR ⟨r4,rfl,hvq,aa⟩
 subst vq;(try dsimp only at hM);replace H:=H.bk aa;clear aa
 refine s_nil ⟨(H.pk [1,2]),?_⟩
 refine kg 2 ?_;replace H:=H.pk [0];refine W.ret ?_
 have bG:=M.e_pure hM
 exact ⟨_,resE_tmp rfl,⟨r4,bE,bG,rfl,H⟩⟩

def zcA (a:Int) (aa:List Int) (ab:List Span) (ac:List Int) (ae:List Town) (ag ah:Int) (ai:List Flood) (aj:List Int) (ak:List Span) (al:List Int) (am:List Town) (ao ap:Int) (aq:List Flood):((List Dem) × Int)->M (((List Dem) × Int) ⊕ ((List Dem) × (List Dem))):=fun (l,j) =>
  M.grd ((!(decide (a<j))||(decide ((0:Int)<=j)&&decide (j<(l.length:Int))))) <|
  M.grd ((!(decide (a<j))||(decide ((-9223372036854775808:Int)<=(j-1))&&decide ((j-1)<=(9223372036854775807:Int))))) <|
  M.grd ((!(decide (a<j))||(decide ((0:Int)<=(j-1))&&decide ((j-1)<(l.length:Int))))) <|
  bif decide (a<j) then (
  M.bind (zeu (l.getD (Int.toNat j) default) (l.getD (Int.toNat (j-1)) default) aa ab ac ae ag ah ai aj ak al am ao ap aq) fun r2 =>
  bif ((decide (a<j))&&(decide (r2<0))) then (
  M.grd (decide ((-9223372036854775808:Int)<=(j-1))&&decide ((j-1)<=(9223372036854775807:Int))) <|
  M.grd (decide ((0:Int)<=(j-1))&&decide ((j-1)<(l.length:Int))) <|
  M.grd (decide ((0:Int)<=j)&&decide (j<(l.length:Int))) <|
  M.grd (decide ((0:Int)<=(j-1))&&decide ((j-1)<((l.set (Int.toNat j) (l.getD (Int.toNat (j-1)) default)).length:Int))) <|
  M.pure (.inl ((l.set (Int.toNat j) (l.getD (Int.toNat (j-1)) default)).set (Int.toNat (j-1)) (l.getD (Int.toNat j) default),j-1)))
  else (
  M.pure (.inr (l,l))))
  else (
  bif ((decide (a<j))&&(decide ((0:Int)<0))) then (
  M.grd (decide ((-9223372036854775808:Int)<=(j-1))&&decide ((j-1)<=(9223372036854775807:Int))) <|
  M.grd (decide ((0:Int)<=(j-1))&&decide ((j-1)<(l.length:Int))) <|
  M.grd (decide ((0:Int)<=j)&&decide (j<(l.length:Int))) <|
  M.grd (decide ((0:Int)<=(j-1))&&decide ((j-1)<((l.set (Int.toNat j) (l.getD (Int.toNat (j-1)) default)).length:Int))) <|
  M.pure (.inl ((l.set (Int.toNat j) (l.getD (Int.toNat (j-1)) default)).set (Int.toNat (j-1)) (l.getD (Int.toNat j) default),j-1)))
  else (
  M.pure (.inr (l,l))))
def zcu (a b:Int) (aa:List Int) (ab:List Span) (ac:List Int) (ae:List Town) (ag ah:Int) (ai:List Flood) (aj:List Int) (ak:List Span) (al:List Int) (am:List Town) (ao ap:Int) (aq:List Flood):((List Dem) × Int)->M (((List Dem) × Int) ⊕ (List Dem)):=fun (l4,i) =>
  bif decide (i<b) then (
  M.bind (M.iter (zcA a aa ab ac ae ag ah ai aj ak al am ao ap aq) (l4,i)) fun (l2,l3) =>
  M.grd (decide ((-9223372036854775808:Int)<=(i+1))&&decide ((i+1)<=(9223372036854775807:Int))) <|
  M.pure (.inl (l3,i+1)))
  else (
  M.pure (.inr l4))
def zbR (data:List Dem) (a b:Int) (aa:List Int) (ab:List Span) (ac:List Int) (ae:List Town) (ag ah:Int) (ai:List Flood) (aj:List Int) (ak:List Span) (al:List Int) (am:List Town) (ao ap:Int) (aq:List Flood):M (List Dem) :=
  M.grd (decide ((-9223372036854775808:Int)<=(a+1))&&decide ((a+1)<=(9223372036854775807:Int))) <|
  M.bind (M.iter (zcu a b aa ab ac ae ag ah ai aj ak al am ao ap aq) (data,a+1)) fun l5 =>
  M.pure l5
theorem zem {R:List Chunk} {aj:Value} {aA:Nat} {aP:Nat} {aQ:Nat} {aR:Cells} {aS:Value} {aT:Cells} {aU:Value} {aV:Cells} {aW:Value} {aX:Cells} {aY:Value} {aZ:Cells} {a6:Value} {ak:Nat} {B_b_cmp2020207:Base} {a7:Nat} {a8:Nat} {ba:Cells} {bb:Value} {bc:Cells} {bf:Value} {bg:Cells} {bh:Value} {bi:Cells} {bj:Value} {bm:Cells} {bn:Value} {bw:Nat} (data:List Dem) (a:Int) (b:Int) (aa:List Int) (ab:List Span) (ac:List Int) (ae:List Town) (ag:Int) (ah:Int) (ai:List Flood) (aB:List Int) (aC:List Span) (aD:List Int) (aE:List Town) (aF:Int) (aG:Int) (aH:List Flood) (bx:Reads R aR) (bz:Sl aR aS aa) (bA:Reads R aT) (bB:Sl aT aU ab) (bC:Reads R aV) (bD:Sl aV aW ac) (bE:Reads R aX) (bF:Sl aX aY ae) (bG:Reads R aZ) (bH:Sl aZ a6 ai) (bI:Has R (cBlk aQ [aS,aU,aW,aY,I ag,I ah,a6,.map (some ak)] 113)) (bJ:Has R (cBlk aP [.func (.func 72) #[Pq aQ] #[]] 123)) (bK:Reads R ba) (bL:Sl ba bb aB) (bM:Reads R bc) (bN:Sl bc bf aC) (bO:Reads R bg) (bP:Sl bg bh aD) (bQ:Reads R bi) (bR:Sl bi bj aE) (bS:Reads R bm) (bT:Sl bm bn aH) (bU:Has R (cBlk a8 [bb,bf,bh,bj,I aF,I aG,bn,.map (some bw)] 113)) (bV:Has R (cBlk a7 [Pq a8] 108)) (bW:Has R (cBlk aA [.func (.func 102) #[] #[Pq aP,Pq a7]] 149)) {r:(List Dem)} (hM:(zbR data a b aa ab ac ae ag ah ai aB aC aD aE aF aG aH).Ends r) (w:World) (H:St w w [cOwn (α:=Dem) 32 aj data,cMem encDm ak B_b_cmp2020207 (zaa aa ab ac ae ag ah ai)] R):Ret Tryz.prog 114 #[aj,I a,I b,.func (.func 104) #[] #[Pq aA]] w fun v w'=>∃ (y0:List Dem) (bX:Base),y0=r/\v = .tuple #[]/\St w w' [cOwn (α:=Dem) 32 aj y0,cMem encDm ak bX (zaa aa ab ac ae ag ah ai)] R:=by
 refine ret_of_W Tryz.func114 rfl rfl rfl ?_;obtain ⟨b7,hM⟩:=M.e_gd hM;refine kg 7 ?_;obtain ⟨bY,aK,bZ⟩:=M.e_bind hM
 obtain ⟨b0,aK⟩:=M.e_iter aK
 refine W.loop (fun m σ W=>∃ (l4:List Dem) (i:Int) (B_mem2:Base) (ρ:Env),σ=upds ρ [(0,aj),(1,I a),(2,I b),(3,.func (.func 104) #[] #[Pq aA]),(8,I i)]/\M.iterN (zcu a b aa ab ac ae ag ah ai aB aC aD aE aF aG aH) m (l4,i)=some bY/\St w W [cOwn (α:=Dem) 32 aj l4,cMem encDm ak B_mem2 (zaa aa ab ac ae ag ah ai)] R) ?_ ?_
 ·exact ⟨_,data,a+1,B_b_cmp2020207,_,upds_of _ _ ⟨rfl,rfl,rfl,rfl,rfl,trivial⟩,aK,H⟩
 rintro b8 σ b9 ⟨l4,i,B_mem2,ρ,rfl,bo,H⟩
 obtain ⟨bp,br,ca,hM,aL⟩:=M.e_iterN bo
 simp only [zcu] at hM
 clear bo;refine kg 7 ?_
 refine W.cond (decide (i<b)) rfl (fun av=>?_) (fun av=>?_)
 ·replace hM:=M.e_t hM av
  replace av:=dI av
  refine kg 9 ?_;obtain ⟨b1,aM,bt⟩:=M.e_bind hM
  obtain ⟨b0,aM⟩:=M.e_iter aM
  refine W.loop (fun m σ W=>∃ (l:List Dem) (j:Int) (B_mem:Base) (ρ:Env),σ=upds ρ [(0,aj),(1,I a),(2,I b),(3,.func (.func 104) #[] #[Pq aA]),(8,I i),(9,I j)]/\M.iterN (zcA a aa ab ac ae ag ah ai aB aC aD aE aF aG aH) m (l,j)=some b1/\St w W [cOwn (α:=Dem) 32 aj l,cMem encDm ak B_mem (zaa aa ab ac ae ag ah ai)] R) ?_ ?_
  ·exact ⟨_,l4,i,B_mem2,_,upds_of _ _ ⟨rfl,rfl,rfl,rfl,rfl,rfl,trivial⟩,aM,H⟩
  rintro cb σ cc ⟨l,j,B_mem,ρ,rfl,bu,H⟩
  obtain ⟨aq,au,cd,hM,ap⟩:=M.e_iterN bu
  simp only [zcA] at hM
  clear bu;refine kg 2 ?_;refine W.draw (fun W=>St w W [cOwn (α:=Dem) 32 aj l] R) [(0,true),(1,true),(2,true),(3,true),(4,true),(5,true),(6,true),(7,true),(8,true),(9,true),(10,true),(11,true),(12,true),(13,true),(14,false),(15,true),(16,true)] mixed (by decide +kernel) rfl ?_;intro ce am;replace H:=H.ext am;clear am
  refine ⟨(H.pk [0]),?_⟩
  obtain ⟨aw,hM⟩:=M.e_grd hM
  replace aw:=M.imp_of aw
  simp only [Bool.and_eq_true,decide_eq_true_eq] at aw
  refine kg 8 ?_;refine d_qg (decide (a<j)) rfl (gy_t rfl) (fun hg=>(fun w' H=>x_ld (v:=.agg #[I ((l.getD (Int.toNat j) default).spring),I ((l.getD (Int.toNat j) default).town)]) (gd_of hg (vat aj 2 (Int.toNat j))) (ld_ag Ag32 Sz32 (At.mono (Dem_atA (H.os 0) (i:=j) (by have ao:=aw.resolve_left (by rw [hg]; decide); first | exact ao | exact ao.1 | exact ao.2 | omega | (have am:=hg; simp at am; omega)) (by have ao:=aw.resolve_left (by rw [hg]; decide); first | exact ao | exact ao.1 | exact ao.2 | omega | (have am:=hg; simp at am; omega))) (H.ol 0))))) ?_;obtain ⟨aI,hM⟩:=M.e_grd hM
  replace aI:=M.imp_of aI
  simp only [Bool.and_eq_true,decide_eq_true_eq] at aI
  obtain ⟨aJ,hM⟩:=M.e_grd hM
  replace aJ:=M.imp_of aJ
  simp only [Bool.and_eq_true,decide_eq_true_eq] at aJ
  refine kg 4 ?_;refine d_qg (decide (a<j)) rfl (gy_t rfl) (fun hg=>(fun w' H=>x_ld (v:=.agg #[I ((l.getD (Int.toNat (j-1)) default).spring),I ((l.getD (Int.toNat (j-1)) default).town)]) (gd_of hg (vat aj 2 (Int.toNat (j-1)))) (ld_ag Ag32 Sz32 (At.mono (Dem_atA (H.os 0) (i:=j-1) (by have ao:=aw.resolve_left (by rw [hg]; decide); have ax:=aI.resolve_left (by rw [hg]; decide); have ay:=aJ.resolve_left (by rw [hg]; decide); first | exact ao | exact ao.1 | exact ao.2 | exact ax | exact ax.1 | exact ax.2 | exact ay | exact ay.1 | exact ay.2 | omega | (have am:=hg; simp at am; omega)) (by have ao:=aw.resolve_left (by rw [hg]; decide); have ax:=aI.resolve_left (by rw [hg]; decide); have ay:=aJ.resolve_left (by rw [hg]; decide); first | exact ao | exact ao.1 | exact ao.2 | exact ax | exact ax.1 | exact ax.2 | exact ay | exact ay.1 | exact ay.2 | omega | (have am:=hg; simp at am; omega))) (H.ol 0)))))<|d_l rfl ?_
  refine g_splitV (decide (a<j)) (I 0) (gy_t rfl) (fun az=>?_) (fun az=>?_)
  ·replace hM:=M.e_t hM az;obtain ⟨cf,b2,hM⟩:=M.e_bind hM;refine s_callv (f:=104) (by exact (gd_of (c:=decide (a<j)) az (.func (.func 104) #[] #[Pq aA]))) cf104 [.agg #[I ((l.getD (Int.toNat j) default).spring),I ((l.getD (Int.toNat j) default).town)],.agg #[I ((l.getD (Int.toNat (j-1)) default).spring),I ((l.getD (Int.toNat (j-1)) default).town)]] (by exact (lst2 (gd_of (c:=decide (a<j)) az (.agg #[I ((l.getD (Int.toNat j) default).spring),I ((l.getD (Int.toNat j) default).town)])) (gd_of (c:=decide (a<j)) az (.agg #[I ((l.getD (Int.toNat (j-1)) default).spring),I ((l.getD (Int.toNat (j-1)) default).town)])))) (zeF (l.getD (Int.toNat j) default) (l.getD (Int.toNat (j-1)) default) aa ab ac ae ag ah ai aB aC aD aE aF aG aH (bx.app _) bz (bA.app _) bB (bC.app _) bD (bE.app _) bF (bG.app _) bH (bI.app _) (bJ.app _) (bK.app _) bL (bM.app _) bN (bO.app _) bP (bQ.app _) bR (bS.app _) bT (bU.app _) (bV.app _) (bW.app _) b2 _ ((H.pk [1,0]).gt 1)) ?_
   rintro vq cg ⟨r2,al,rfl,hvq,bv⟩
   subst vq;(try dsimp only at hM)
   replace H:=H.pk [1,0] |>.bk bv
   clear bv
   refine s_nil ⟨(H.pk [1]),?_⟩
   refine kg 1 ?_;refine d_q rfl (fun w' H=>x_pand (b:=decide (a<j)) (r:=decide (r2<0)) rfl (fun hb=>gd_of (c:=decide (a<j)) (by first | exact hb | (rw [hb]; rfl) | simp_all) (B (decide (r2<0)))) rfl) ?_;refine d_nil ?_
   refine W.cond ((decide (a<j))&&(decide (r2<0))) rfl (fun aN=>?_) (fun aN=>?_)
   ·replace hM:=M.e_t hM aN;refine kg 3 ?_;refine W.drawT (fun W=>St w W [cMem encDm ak al (zaa aa ab ac ae ag ah ai)] R) (.q 0 (.q 1 (.q 2 (.q 3 (.q 4 (.q 5 (.q 6 (.q 7 (.q 10 (.q 11 (.l2 8 (.l2 9 (.l 12 (.l 13 (.l 14 (.l 15 (.l 16 (.l 17 .nil)))))) 12 (.l2 9 (.l 13 (.l 14 (.l 15 (.l 16 (.l 17 .nil))))) 13 (.l 9 (.l 14 (.l 15 (.l 16 (.l 17 .nil))))))) 12 (.l2 8 (.l2 9 (.l 13 (.l 14 (.l 15 (.l 16 (.l 17 .nil))))) 13 (.l 9 (.l 14 (.l 15 (.l 16 (.l 17 .nil)))))) 13 (.l 8 (.l 9 (.l 14 (.l 15 (.l 16 (.l 17 .nil)))))))))))))))))) mixed (by decide +kernel) rfl ?_;intro ci am;replace H:=H.ext am;clear am
    refine ⟨(H.pk [0]),?_⟩
    obtain ⟨cj,hM⟩:=M.e_gd hM;obtain ⟨ck,hM⟩:=M.e_gd hM;obtain ⟨cm,hM⟩:=M.e_gd hM;obtain ⟨cn,hM⟩:=M.e_gd hM;refine kg 10 ?_;refine t_l2 rfl rfl ?_ ?_
    ·skip
     refine kg 1 ?_
     have co:=Sl.cells (H.os 1)
     have cp:=Sl.oc (H.os 1)
     refine s_nil ⟨(H.pk [0]),?_⟩
     refine t_l2 rfl rfl ?_ ?_
     ·skip
      refine s_val (x_ld (v:=.agg #[I ((l.getD (Int.toNat (j-1)) default).spring),I ((l.getD (Int.toNat (j-1)) default).town)]) rfl (ld_ag Ag32 Sz32 (At.mono (Dem_atA (H.os 1) (i:=j-1) (by omega) (by omega)) (H.ol 1)))) ?_
      refine s_nil ⟨(H.pk [0]),?_⟩
      refine t_l rfl ?_;refine kg 1 ?_
      refine s_nil ⟨(H.pk [0]),?_⟩
      refine t_l rfl<|s_val (x_ld (v:=.agg #[I ((l.getD (Int.toNat j) default).spring),I ((l.getD (Int.toNat j) default).town)]) rfl (ld_ag Ag32 Sz32 (At.mono (Dem_atA (H.os 1) (i:=j) (by omega) (by omega)) (H.ol 1)))) ?_
      refine s_nil ⟨(H.pk [0]),?_⟩
      refine t_l rfl ?_;refine kg 1 ?_
      refine s_nil ⟨(H.pk [0]),?_⟩
      refine t_l rfl ?_;refine t_ost (k:=1) (i:=j) (l:=l) (l':=l.set (Int.toNat j) (l.getD (Int.toNat (j-1)) default)) (val:=.agg #[I ((l.getD (Int.toNat (j-1)) default).spring),I ((l.getD (Int.toNat (j-1)) default).town)]) (L':=[cMem encDm ak al (zaa aa ab ac ae ag ah ai),cOwn (α:=Dem) 32 aj (l.set (Int.toNat j) (l.getD (Int.toNat (j-1)) default))]) H rfl Sz32 (by omega) (by omega) (l.getD (Int.toNat (j-1)) default) rfl rfl rfl rfl rfl ?_;intro cq H
      refine s_nil ⟨(H.pk [0]),?_⟩
      refine t_l rfl ?_;refine kg 1 ?_
      refine s_nil ⟨(H.pk [0]),?_⟩
      refine t_l rfl ?_;refine t_ost (k:=1) (i:=j-1) (l:=l.set (Int.toNat j) (l.getD (Int.toNat (j-1)) default)) (l':=(l.set (Int.toNat j) (l.getD (Int.toNat (j-1)) default)).set (Int.toNat (j-1)) (l.getD (Int.toNat j) default)) (val:=.agg #[I ((l.getD (Int.toNat j) default).spring),I ((l.getD (Int.toNat j) default).town)]) (L':=[cMem encDm ak al (zaa aa ab ac ae ag ah ai),cOwn (α:=Dem) 32 aj ((l.set (Int.toNat j) (l.getD (Int.toNat (j-1)) default)).set (Int.toNat (j-1)) (l.getD (Int.toNat j) default))]) H rfl Sz32 (by omega) (by omega) (l.getD (Int.toNat j) default) rfl rfl rfl rfl rfl ?_;intro cr H
      refine s_nil ⟨(H.pk [0]),?_⟩
      refine kg 6 ?_
      exact ⟨aq,au,(l.set (Int.toNat j) (l.getD (Int.toNat (j-1)) default)).set (Int.toNat (j-1)) (l.getD (Int.toNat j) default),j-1,al,_,upds_of _ _ ⟨rfl,rfl,rfl,rfl,rfl,rfl,trivial⟩,M.e_inl hM ap,(H.pk [1,0])⟩
     skip
     refine kg 1 ?_
     refine s_nil ⟨(H.pk [0]),?_⟩
     refine t_l2 rfl rfl ?_ ?_
     ·skip
      refine s_val (x_ld (v:=.agg #[I ((l.getD (Int.toNat (j-1)) default).spring),I ((l.getD (Int.toNat (j-1)) default).town)]) rfl (ld_ag Ag32 Sz32 (At.mono (Dem_atA (H.os 1) (i:=j-1) (by omega) (by omega)) (H.ol 1)))) ?_
      refine s_nil ⟨(H.pk [0]),?_⟩
      refine t_l rfl<|s_val (x_ld (v:=.agg #[I ((l.getD (Int.toNat j) default).spring),I ((l.getD (Int.toNat j) default).town)]) rfl (ld_ag Ag32 Sz32 (At.mono (Dem_atA (H.os 1) (i:=j) (by omega) (by omega)) (H.ol 1)))) ?_
      refine s_nil ⟨(H.pk [0]),?_⟩
      refine t_l rfl ?_;refine kg 1 ?_
      refine s_nil ⟨(H.pk [0]),?_⟩
      refine t_l rfl ?_;refine t_ost (k:=1) (i:=j) (l:=l) (l':=l.set (Int.toNat j) (l.getD (Int.toNat (j-1)) default)) (val:=.agg #[I ((l.getD (Int.toNat (j-1)) default).spring),I ((l.getD (Int.toNat (j-1)) default).town)]) (L':=[cMem encDm ak al (zaa aa ab ac ae ag ah ai),cOwn (α:=Dem) 32 aj (l.set (Int.toNat j) (l.getD (Int.toNat (j-1)) default))]) H rfl Sz32 (by omega) (by omega) (l.getD (Int.toNat (j-1)) default) rfl rfl rfl rfl rfl ?_;intro ct H
      refine s_nil ⟨(H.pk [0]),?_⟩
      refine t_l rfl ?_;refine kg 1 ?_
      refine s_nil ⟨(H.pk [0]),?_⟩
      refine t_l rfl ?_;refine t_ost (k:=1) (i:=j-1) (l:=l.set (Int.toNat j) (l.getD (Int.toNat (j-1)) default)) (l':=(l.set (Int.toNat j) (l.getD (Int.toNat (j-1)) default)).set (Int.toNat (j-1)) (l.getD (Int.toNat j) default)) (val:=.agg #[I ((l.getD (Int.toNat j) default).spring),I ((l.getD (Int.toNat j) default).town)]) (L':=[cMem encDm ak al (zaa aa ab ac ae ag ah ai),cOwn (α:=Dem) 32 aj ((l.set (Int.toNat j) (l.getD (Int.toNat (j-1)) default)).set (Int.toNat (j-1)) (l.getD (Int.toNat j) default))]) H rfl Sz32 (by omega) (by omega) (l.getD (Int.toNat j) default) rfl rfl rfl rfl rfl ?_;intro cu H
      refine s_nil ⟨(H.pk [0]),?_⟩
      refine kg 6 ?_
      exact ⟨aq,au,(l.set (Int.toNat j) (l.getD (Int.toNat (j-1)) default)).set (Int.toNat (j-1)) (l.getD (Int.toNat j) default),j-1,al,_,upds_of _ _ ⟨rfl,rfl,rfl,rfl,rfl,rfl,trivial⟩,M.e_inl hM ap,(H.pk [1,0])⟩
     skip
     refine s_val (x_ld (v:=.agg #[I ((l.getD (Int.toNat j) default).spring),I ((l.getD (Int.toNat j) default).town)]) rfl (ld_ag Ag32 Sz32 (At.mono (Dem_atA (H.os 1) (i:=j) (by omega) (by omega)) (H.ol 1)))) ?_
     refine s_nil ⟨(H.pk [0]),?_⟩
     refine t_l rfl<|s_val (x_ld (v:=.agg #[I ((l.getD (Int.toNat (j-1)) default).spring),I ((l.getD (Int.toNat (j-1)) default).town)]) rfl (ld_ag Ag32 Sz32 (At.mono (Dem_atA (H.os 1) (i:=j-1) (by omega) (by omega)) (H.ol 1)))) ?_
     refine s_nil ⟨(H.pk [0]),?_⟩
     refine t_l rfl ?_;refine kg 1 ?_
     refine s_nil ⟨(H.pk [0]),?_⟩
     refine t_l rfl ?_;refine t_ost (k:=1) (i:=j) (l:=l) (l':=l.set (Int.toNat j) (l.getD (Int.toNat (j-1)) default)) (val:=.agg #[I ((l.getD (Int.toNat (j-1)) default).spring),I ((l.getD (Int.toNat (j-1)) default).town)]) (L':=[cMem encDm ak al (zaa aa ab ac ae ag ah ai),cOwn (α:=Dem) 32 aj (l.set (Int.toNat j) (l.getD (Int.toNat (j-1)) default))]) H rfl Sz32 (by omega) (by omega) (l.getD (Int.toNat (j-1)) default) rfl rfl rfl rfl rfl ?_;intro cv H
     refine s_nil ⟨(H.pk [0]),?_⟩
     refine t_l rfl ?_;refine kg 1 ?_
     refine s_nil ⟨(H.pk [0]),?_⟩
     refine t_l rfl ?_;refine t_ost (k:=1) (i:=j-1) (l:=l.set (Int.toNat j) (l.getD (Int.toNat (j-1)) default)) (l':=(l.set (Int.toNat j) (l.getD (Int.toNat (j-1)) default)).set (Int.toNat (j-1)) (l.getD (Int.toNat j) default)) (val:=.agg #[I ((l.getD (Int.toNat j) default).spring),I ((l.getD (Int.toNat j) default).town)]) (L':=[cMem encDm ak al (zaa aa ab ac ae ag ah ai),cOwn (α:=Dem) 32 aj ((l.set (Int.toNat j) (l.getD (Int.toNat (j-1)) default)).set (Int.toNat (j-1)) (l.getD (Int.toNat j) default))]) H rfl Sz32 (by omega) (by omega) (l.getD (Int.toNat j) default) rfl rfl rfl rfl rfl ?_;intro cw H
     refine s_nil ⟨(H.pk [0]),?_⟩
     refine kg 6 ?_
     exact ⟨aq,au,(l.set (Int.toNat j) (l.getD (Int.toNat (j-1)) default)).set (Int.toNat (j-1)) (l.getD (Int.toNat j) default),j-1,al,_,upds_of _ _ ⟨rfl,rfl,rfl,rfl,rfl,rfl,trivial⟩,M.e_inl hM ap,(H.pk [1,0])⟩
    skip
    refine kg 1 ?_
    have cx:=Sl.cells (H.os 1)
    have cy:=Sl.oc (H.os 1)
    refine s_nil ⟨(H.pk [0]),?_⟩
    refine t_l2 rfl rfl ?_ ?_
    ·skip
     refine kg 1 ?_
     refine s_nil ⟨(H.pk [0]),?_⟩
     refine t_l2 rfl rfl ?_ ?_
     ·skip
      refine s_val (x_ld (v:=.agg #[I ((l.getD (Int.toNat (j-1)) default).spring),I ((l.getD (Int.toNat (j-1)) default).town)]) rfl (ld_ag Ag32 Sz32 (At.mono (Dem_atA (H.os 1) (i:=j-1) (by omega) (by omega)) (H.ol 1)))) ?_
      refine s_nil ⟨(H.pk [0]),?_⟩
      refine t_l rfl<|s_val (x_ld (v:=.agg #[I ((l.getD (Int.toNat j) default).spring),I ((l.getD (Int.toNat j) default).town)]) rfl (ld_ag Ag32 Sz32 (At.mono (Dem_atA (H.os 1) (i:=j) (by omega) (by omega)) (H.ol 1)))) ?_
      refine s_nil ⟨(H.pk [0]),?_⟩
      refine t_l rfl ?_;refine kg 1 ?_
      refine s_nil ⟨(H.pk [0]),?_⟩
      refine t_l rfl ?_;refine t_ost (k:=1) (i:=j) (l:=l) (l':=l.set (Int.toNat j) (l.getD (Int.toNat (j-1)) default)) (val:=.agg #[I ((l.getD (Int.toNat (j-1)) default).spring),I ((l.getD (Int.toNat (j-1)) default).town)]) (L':=[cMem encDm ak al (zaa aa ab ac ae ag ah ai),cOwn (α:=Dem) 32 aj (l.set (Int.toNat j) (l.getD (Int.toNat (j-1)) default))]) H rfl Sz32 (by omega) (by omega) (l.getD (Int.toNat (j-1)) default) rfl rfl rfl rfl rfl ?_;intro cz H
      refine s_nil ⟨(H.pk [0]),?_⟩
      refine t_l rfl ?_;refine kg 1 ?_
      refine s_nil ⟨(H.pk [0]),?_⟩
      refine t_l rfl ?_;refine t_ost (k:=1) (i:=j-1) (l:=l.set (Int.toNat j) (l.getD (Int.toNat (j-1)) default)) (l':=(l.set (Int.toNat j) (l.getD (Int.toNat (j-1)) default)).set (Int.toNat (j-1)) (l.getD (Int.toNat j) default)) (val:=.agg #[I ((l.getD (Int.toNat j) default).spring),I ((l.getD (Int.toNat j) default).town)]) (L':=[cMem encDm ak al (zaa aa ab ac ae ag ah ai),cOwn (α:=Dem) 32 aj ((l.set (Int.toNat j) (l.getD (Int.toNat (j-1)) default)).set (Int.toNat (j-1)) (l.getD (Int.toNat j) default))]) H rfl Sz32 (by omega) (by omega) (l.getD (Int.toNat j) default) rfl rfl rfl rfl rfl ?_;intro cA H
      refine s_nil ⟨(H.pk [0]),?_⟩
      refine kg 6 ?_
      exact ⟨aq,au,(l.set (Int.toNat j) (l.getD (Int.toNat (j-1)) default)).set (Int.toNat (j-1)) (l.getD (Int.toNat j) default),j-1,al,_,upds_of _ _ ⟨rfl,rfl,rfl,rfl,rfl,rfl,trivial⟩,M.e_inl hM ap,(H.pk [1,0])⟩
     skip
     refine s_val (x_ld (v:=.agg #[I ((l.getD (Int.toNat j) default).spring),I ((l.getD (Int.toNat j) default).town)]) rfl (ld_ag Ag32 Sz32 (At.mono (Dem_atA (H.os 1) (i:=j) (by omega) (by omega)) (H.ol 1)))) ?_
     refine s_nil ⟨(H.pk [0]),?_⟩
     refine t_l rfl<|s_val (x_ld (v:=.agg #[I ((l.getD (Int.toNat (j-1)) default).spring),I ((l.getD (Int.toNat (j-1)) default).town)]) rfl (ld_ag Ag32 Sz32 (At.mono (Dem_atA (H.os 1) (i:=j-1) (by omega) (by omega)) (H.ol 1)))) ?_
     refine s_nil ⟨(H.pk [0]),?_⟩
     refine t_l rfl ?_;refine kg 1 ?_
     refine s_nil ⟨(H.pk [0]),?_⟩
     refine t_l rfl ?_;refine t_ost (k:=1) (i:=j) (l:=l) (l':=l.set (Int.toNat j) (l.getD (Int.toNat (j-1)) default)) (val:=.agg #[I ((l.getD (Int.toNat (j-1)) default).spring),I ((l.getD (Int.toNat (j-1)) default).town)]) (L':=[cMem encDm ak al (zaa aa ab ac ae ag ah ai),cOwn (α:=Dem) 32 aj (l.set (Int.toNat j) (l.getD (Int.toNat (j-1)) default))]) H rfl Sz32 (by omega) (by omega) (l.getD (Int.toNat (j-1)) default) rfl rfl rfl rfl rfl ?_;intro cB H
     refine s_nil ⟨(H.pk [0]),?_⟩
     refine t_l rfl ?_;refine kg 1 ?_
     refine s_nil ⟨(H.pk [0]),?_⟩
     refine t_l rfl ?_;refine t_ost (k:=1) (i:=j-1) (l:=l.set (Int.toNat j) (l.getD (Int.toNat (j-1)) default)) (l':=(l.set (Int.toNat j) (l.getD (Int.toNat (j-1)) default)).set (Int.toNat (j-1)) (l.getD (Int.toNat j) default)) (val:=.agg #[I ((l.getD (Int.toNat j) default).spring),I ((l.getD (Int.toNat j) default).town)]) (L':=[cMem encDm ak al (zaa aa ab ac ae ag ah ai),cOwn (α:=Dem) 32 aj ((l.set (Int.toNat j) (l.getD (Int.toNat (j-1)) default)).set (Int.toNat (j-1)) (l.getD (Int.toNat j) default))]) H rfl Sz32 (by omega) (by omega) (l.getD (Int.toNat j) default) rfl rfl rfl rfl rfl ?_;intro cC H
     refine s_nil ⟨(H.pk [0]),?_⟩
     refine kg 6 ?_
     exact ⟨aq,au,(l.set (Int.toNat j) (l.getD (Int.toNat (j-1)) default)).set (Int.toNat (j-1)) (l.getD (Int.toNat j) default),j-1,al,_,upds_of _ _ ⟨rfl,rfl,rfl,rfl,rfl,rfl,trivial⟩,M.e_inl hM ap,(H.pk [1,0])⟩
    skip
    refine s_val (x_ld (v:=.agg #[I ((l.getD (Int.toNat j) default).spring),I ((l.getD (Int.toNat j) default).town)]) rfl (ld_ag Ag32 Sz32 (At.mono (Dem_atA (H.os 1) (i:=j) (by omega) (by omega)) (H.ol 1)))) ?_
    refine s_nil ⟨(H.pk [0]),?_⟩
    refine t_l rfl ?_;refine kg 1 ?_
    refine s_nil ⟨(H.pk [0]),?_⟩
    refine t_l rfl<|s_val (x_ld (v:=.agg #[I ((l.getD (Int.toNat (j-1)) default).spring),I ((l.getD (Int.toNat (j-1)) default).town)]) rfl (ld_ag Ag32 Sz32 (At.mono (Dem_atA (H.os 1) (i:=j-1) (by omega) (by omega)) (H.ol 1)))) ?_
    refine s_nil ⟨(H.pk [0]),?_⟩
    refine t_l rfl ?_;refine kg 1 ?_
    refine s_nil ⟨(H.pk [0]),?_⟩
    refine t_l rfl ?_;refine t_ost (k:=1) (i:=j) (l:=l) (l':=l.set (Int.toNat j) (l.getD (Int.toNat (j-1)) default)) (val:=.agg #[I ((l.getD (Int.toNat (j-1)) default).spring),I ((l.getD (Int.toNat (j-1)) default).town)]) (L':=[cMem encDm ak al (zaa aa ab ac ae ag ah ai),cOwn (α:=Dem) 32 aj (l.set (Int.toNat j) (l.getD (Int.toNat (j-1)) default))]) H rfl Sz32 (by omega) (by omega) (l.getD (Int.toNat (j-1)) default) rfl rfl rfl rfl rfl ?_;intro cD H
    refine s_nil ⟨(H.pk [0]),?_⟩
    refine t_l rfl ?_;refine kg 1 ?_
    refine s_nil ⟨(H.pk [0]),?_⟩
    refine t_l rfl ?_;refine t_ost (k:=1) (i:=j-1) (l:=l.set (Int.toNat j) (l.getD (Int.toNat (j-1)) default)) (l':=(l.set (Int.toNat j) (l.getD (Int.toNat (j-1)) default)).set (Int.toNat (j-1)) (l.getD (Int.toNat j) default)) (val:=.agg #[I ((l.getD (Int.toNat j) default).spring),I ((l.getD (Int.toNat j) default).town)]) (L':=[cMem encDm ak al (zaa aa ab ac ae ag ah ai),cOwn (α:=Dem) 32 aj ((l.set (Int.toNat j) (l.getD (Int.toNat (j-1)) default)).set (Int.toNat (j-1)) (l.getD (Int.toNat j) default))]) H rfl Sz32 (by omega) (by omega) (l.getD (Int.toNat j) default) rfl rfl rfl rfl rfl ?_;intro cE H
    refine s_nil ⟨(H.pk [0]),?_⟩
    refine kg 6 ?_
    exact ⟨aq,au,(l.set (Int.toNat j) (l.getD (Int.toNat (j-1)) default)).set (Int.toNat (j-1)) (l.getD (Int.toNat j) default),j-1,al,_,upds_of _ _ ⟨rfl,rfl,rfl,rfl,rfl,rfl,trivial⟩,M.e_inl hM ap,(H.pk [1,0])⟩
   replace hM:=M.e_f hM aN;refine W.exit ?_
   have b3:=M.e_inr hM ap
   subst b3;replace hM:=bt;(try dsimp only at hM);obtain ⟨cF,hM⟩:=M.e_gd hM;refine kg 5 ?_
   exact ⟨bp,br,l,i+1,al,_,upds_of _ _ ⟨rfl,rfl,rfl,rfl,rfl,trivial⟩,M.e_inl hM aL,(H.pk [1,0])⟩
  replace hM:=M.e_f hM az
  refine s_nil ⟨(H.pk [0]),?_⟩
  refine kg 1 ?_;refine d_q rfl (fun w' H=>x_pand (b:=decide (a<j)) (r:=decide ((0:Int)<0)) rfl (fun hb=>gd_of (c:=decide (a<j)) (by first | exact hb | (rw [hb]; rfl) | simp_all) (B (decide ((0:Int)<0)))) rfl) ?_;refine d_nil ?_
  refine W.cond ((decide (a<j))&&(decide ((0:Int)<0))) rfl (fun aO=>?_) (fun aO=>?_)
  ·replace hM:=M.e_t hM aO;refine kg 3 ?_;refine W.drawT (fun W=>St w W [cMem encDm ak B_mem (zaa aa ab ac ae ag ah ai)] R) (.q 0 (.q 1 (.q 2 (.q 3 (.q 4 (.q 5 (.q 6 (.q 7 (.q 10 (.q 11 (.l2 8 (.l2 9 (.l 12 (.l 13 (.l 14 (.l 15 (.l 16 (.l 17 .nil)))))) 12 (.l2 9 (.l 13 (.l 14 (.l 15 (.l 16 (.l 17 .nil))))) 13 (.l 9 (.l 14 (.l 15 (.l 16 (.l 17 .nil))))))) 12 (.l2 8 (.l2 9 (.l 13 (.l 14 (.l 15 (.l 16 (.l 17 .nil))))) 13 (.l 9 (.l 14 (.l 15 (.l 16 (.l 17 .nil)))))) 13 (.l 8 (.l 9 (.l 14 (.l 15 (.l 16 (.l 17 .nil)))))))))))))))))) mixed (by decide +kernel) rfl ?_;intro cG am;replace H:=H.ext am;clear am
   refine ⟨(H.pk [1]),?_⟩
   obtain ⟨cH,hM⟩:=M.e_gd hM;obtain ⟨cI,hM⟩:=M.e_gd hM;obtain ⟨cJ,hM⟩:=M.e_gd hM;obtain ⟨cK,hM⟩:=M.e_gd hM;refine kg 10 ?_;refine t_l2 rfl rfl ?_ ?_
   ·skip
    refine kg 1 ?_
    have cL:=Sl.cells (H.os 0)
    have cM:=Sl.oc (H.os 0)
    refine s_nil ⟨(H.pk [1]),?_⟩
    refine t_l2 rfl rfl ?_ ?_
    ·skip
     refine s_val (x_ld (v:=.agg #[I ((l.getD (Int.toNat (j-1)) default).spring),I ((l.getD (Int.toNat (j-1)) default).town)]) rfl (ld_ag Ag32 Sz32 (At.mono (Dem_atA (H.os 0) (i:=j-1) (by omega) (by omega)) (H.ol 0)))) ?_
     refine s_nil ⟨(H.pk [1]),?_⟩
     refine t_l rfl ?_;refine kg 1 ?_
     refine s_nil ⟨(H.pk [1]),?_⟩
     refine t_l rfl<|s_val (x_ld (v:=.agg #[I ((l.getD (Int.toNat j) default).spring),I ((l.getD (Int.toNat j) default).town)]) rfl (ld_ag Ag32 Sz32 (At.mono (Dem_atA (H.os 0) (i:=j) (by omega) (by omega)) (H.ol 0)))) ?_
     refine s_nil ⟨(H.pk [1]),?_⟩
     refine t_l rfl ?_;refine kg 1 ?_
     refine s_nil ⟨(H.pk [1]),?_⟩
     refine t_l rfl ?_;refine t_ost (k:=0) (i:=j) (l:=l) (l':=l.set (Int.toNat j) (l.getD (Int.toNat (j-1)) default)) (val:=.agg #[I ((l.getD (Int.toNat (j-1)) default).spring),I ((l.getD (Int.toNat (j-1)) default).town)]) (L':=[cOwn (α:=Dem) 32 aj (l.set (Int.toNat j) (l.getD (Int.toNat (j-1)) default)),cMem encDm ak B_mem (zaa aa ab ac ae ag ah ai)]) H rfl Sz32 (by omega) (by omega) (l.getD (Int.toNat (j-1)) default) rfl rfl rfl rfl rfl ?_;intro cN H
     refine s_nil ⟨(H.pk [1]),?_⟩
     refine t_l rfl ?_;refine kg 1 ?_
     refine s_nil ⟨(H.pk [1]),?_⟩
     refine t_l rfl ?_;refine t_ost (k:=0) (i:=j-1) (l:=l.set (Int.toNat j) (l.getD (Int.toNat (j-1)) default)) (l':=(l.set (Int.toNat j) (l.getD (Int.toNat (j-1)) default)).set (Int.toNat (j-1)) (l.getD (Int.toNat j) default)) (val:=.agg #[I ((l.getD (Int.toNat j) default).spring),I ((l.getD (Int.toNat j) default).town)]) (L':=[cOwn (α:=Dem) 32 aj ((l.set (Int.toNat j) (l.getD (Int.toNat (j-1)) default)).set (Int.toNat (j-1)) (l.getD (Int.toNat j) default)),cMem encDm ak B_mem (zaa aa ab ac ae ag ah ai)]) H rfl Sz32 (by omega) (by omega) (l.getD (Int.toNat j) default) rfl rfl rfl rfl rfl ?_;intro cO H
     refine s_nil ⟨(H.pk [1]),?_⟩
     refine kg 6 ?_
     exact ⟨aq,au,(l.set (Int.toNat j) (l.getD (Int.toNat (j-1)) default)).set (Int.toNat (j-1)) (l.getD (Int.toNat j) default),j-1,B_mem,_,upds_of _ _ ⟨rfl,rfl,rfl,rfl,rfl,rfl,trivial⟩,M.e_inl hM ap,H⟩
    skip
    refine kg 1 ?_
    refine s_nil ⟨(H.pk [1]),?_⟩
    refine t_l2 rfl rfl ?_ ?_
    ·skip
     refine s_val (x_ld (v:=.agg #[I ((l.getD (Int.toNat (j-1)) default).spring),I ((l.getD (Int.toNat (j-1)) default).town)]) rfl (ld_ag Ag32 Sz32 (At.mono (Dem_atA (H.os 0) (i:=j-1) (by omega) (by omega)) (H.ol 0)))) ?_
     refine s_nil ⟨(H.pk [1]),?_⟩
     refine t_l rfl<|s_val (x_ld (v:=.agg #[I ((l.getD (Int.toNat j) default).spring),I ((l.getD (Int.toNat j) default).town)]) rfl (ld_ag Ag32 Sz32 (At.mono (Dem_atA (H.os 0) (i:=j) (by omega) (by omega)) (H.ol 0)))) ?_
     refine s_nil ⟨(H.pk [1]),?_⟩
     refine t_l rfl ?_;refine kg 1 ?_
     refine s_nil ⟨(H.pk [1]),?_⟩
     refine t_l rfl ?_;refine t_ost (k:=0) (i:=j) (l:=l) (l':=l.set (Int.toNat j) (l.getD (Int.toNat (j-1)) default)) (val:=.agg #[I ((l.getD (Int.toNat (j-1)) default).spring),I ((l.getD (Int.toNat (j-1)) default).town)]) (L':=[cOwn (α:=Dem) 32 aj (l.set (Int.toNat j) (l.getD (Int.toNat (j-1)) default)),cMem encDm ak B_mem (zaa aa ab ac ae ag ah ai)]) H rfl Sz32 (by omega) (by omega) (l.getD (Int.toNat (j-1)) default) rfl rfl rfl rfl rfl ?_;intro cP H
     refine s_nil ⟨(H.pk [1]),?_⟩
     refine t_l rfl ?_;refine kg 1 ?_
     refine s_nil ⟨(H.pk [1]),?_⟩
     refine t_l rfl ?_;refine t_ost (k:=0) (i:=j-1) (l:=l.set (Int.toNat j) (l.getD (Int.toNat (j-1)) default)) (l':=(l.set (Int.toNat j) (l.getD (Int.toNat (j-1)) default)).set (Int.toNat (j-1)) (l.getD (Int.toNat j) default)) (val:=.agg #[I ((l.getD (Int.toNat j) default).spring),I ((l.getD (Int.toNat j) default).town)]) (L':=[cOwn (α:=Dem) 32 aj ((l.set (Int.toNat j) (l.getD (Int.toNat (j-1)) default)).set (Int.toNat (j-1)) (l.getD (Int.toNat j) default)),cMem encDm ak B_mem (zaa aa ab ac ae ag ah ai)]) H rfl Sz32 (by omega) (by omega) (l.getD (Int.toNat j) default) rfl rfl rfl rfl rfl ?_;intro cQ H
     refine s_nil ⟨(H.pk [1]),?_⟩
     refine kg 6 ?_
     exact ⟨aq,au,(l.set (Int.toNat j) (l.getD (Int.toNat (j-1)) default)).set (Int.toNat (j-1)) (l.getD (Int.toNat j) default),j-1,B_mem,_,upds_of _ _ ⟨rfl,rfl,rfl,rfl,rfl,rfl,trivial⟩,M.e_inl hM ap,H⟩
    skip
    refine s_val (x_ld (v:=.agg #[I ((l.getD (Int.toNat j) default).spring),I ((l.getD (Int.toNat j) default).town)]) rfl (ld_ag Ag32 Sz32 (At.mono (Dem_atA (H.os 0) (i:=j) (by omega) (by omega)) (H.ol 0)))) ?_
    refine s_nil ⟨(H.pk [1]),?_⟩
    refine t_l rfl<|s_val (x_ld (v:=.agg #[I ((l.getD (Int.toNat (j-1)) default).spring),I ((l.getD (Int.toNat (j-1)) default).town)]) rfl (ld_ag Ag32 Sz32 (At.mono (Dem_atA (H.os 0) (i:=j-1) (by omega) (by omega)) (H.ol 0)))) ?_
    refine s_nil ⟨(H.pk [1]),?_⟩
    refine t_l rfl ?_;refine kg 1 ?_
    refine s_nil ⟨(H.pk [1]),?_⟩
    refine t_l rfl ?_;refine t_ost (k:=0) (i:=j) (l:=l) (l':=l.set (Int.toNat j) (l.getD (Int.toNat (j-1)) default)) (val:=.agg #[I ((l.getD (Int.toNat (j-1)) default).spring),I ((l.getD (Int.toNat (j-1)) default).town)]) (L':=[cOwn (α:=Dem) 32 aj (l.set (Int.toNat j) (l.getD (Int.toNat (j-1)) default)),cMem encDm ak B_mem (zaa aa ab ac ae ag ah ai)]) H rfl Sz32 (by omega) (by omega) (l.getD (Int.toNat (j-1)) default) rfl rfl rfl rfl rfl ?_;intro cR H
    refine s_nil ⟨(H.pk [1]),?_⟩
    refine t_l rfl ?_;refine kg 1 ?_
    refine s_nil ⟨(H.pk [1]),?_⟩
    refine t_l rfl ?_;refine t_ost (k:=0) (i:=j-1) (l:=l.set (Int.toNat j) (l.getD (Int.toNat (j-1)) default)) (l':=(l.set (Int.toNat j) (l.getD (Int.toNat (j-1)) default)).set (Int.toNat (j-1)) (l.getD (Int.toNat j) default)) (val:=.agg #[I ((l.getD (Int.toNat j) default).spring),I ((l.getD (Int.toNat j) default).town)]) (L':=[cOwn (α:=Dem) 32 aj ((l.set (Int.toNat j) (l.getD (Int.toNat (j-1)) default)).set (Int.toNat (j-1)) (l.getD (Int.toNat j) default)),cMem encDm ak B_mem (zaa aa ab ac ae ag ah ai)]) H rfl Sz32 (by omega) (by omega) (l.getD (Int.toNat j) default) rfl rfl rfl rfl rfl ?_;intro cS H
    refine s_nil ⟨(H.pk [1]),?_⟩
    refine kg 6 ?_
    exact ⟨aq,au,(l.set (Int.toNat j) (l.getD (Int.toNat (j-1)) default)).set (Int.toNat (j-1)) (l.getD (Int.toNat j) default),j-1,B_mem,_,upds_of _ _ ⟨rfl,rfl,rfl,rfl,rfl,rfl,trivial⟩,M.e_inl hM ap,H⟩
   skip
   refine kg 1 ?_
   have cT:=Sl.cells (H.os 0)
   have cU:=Sl.oc (H.os 0)
   refine s_nil ⟨(H.pk [1]),?_⟩
   refine t_l2 rfl rfl ?_ ?_
   ·skip
    refine kg 1 ?_
    refine s_nil ⟨(H.pk [1]),?_⟩
    refine t_l2 rfl rfl ?_ ?_
    ·skip
     refine s_val (x_ld (v:=.agg #[I ((l.getD (Int.toNat (j-1)) default).spring),I ((l.getD (Int.toNat (j-1)) default).town)]) rfl (ld_ag Ag32 Sz32 (At.mono (Dem_atA (H.os 0) (i:=j-1) (by omega) (by omega)) (H.ol 0)))) ?_
     refine s_nil ⟨(H.pk [1]),?_⟩
     refine t_l rfl<|s_val (x_ld (v:=.agg #[I ((l.getD (Int.toNat j) default).spring),I ((l.getD (Int.toNat j) default).town)]) rfl (ld_ag Ag32 Sz32 (At.mono (Dem_atA (H.os 0) (i:=j) (by omega) (by omega)) (H.ol 0)))) ?_
     refine s_nil ⟨(H.pk [1]),?_⟩
     refine t_l rfl ?_;refine kg 1 ?_
     refine s_nil ⟨(H.pk [1]),?_⟩
     refine t_l rfl ?_;refine t_ost (k:=0) (i:=j) (l:=l) (l':=l.set (Int.toNat j) (l.getD (Int.toNat (j-1)) default)) (val:=.agg #[I ((l.getD (Int.toNat (j-1)) default).spring),I ((l.getD (Int.toNat (j-1)) default).town)]) (L':=[cOwn (α:=Dem) 32 aj (l.set (Int.toNat j) (l.getD (Int.toNat (j-1)) default)),cMem encDm ak B_mem (zaa aa ab ac ae ag ah ai)]) H rfl Sz32 (by omega) (by omega) (l.getD (Int.toNat (j-1)) default) rfl rfl rfl rfl rfl ?_;intro cV H
     refine s_nil ⟨(H.pk [1]),?_⟩
     refine t_l rfl ?_;refine kg 1 ?_
     refine s_nil ⟨(H.pk [1]),?_⟩
     refine t_l rfl ?_;refine t_ost (k:=0) (i:=j-1) (l:=l.set (Int.toNat j) (l.getD (Int.toNat (j-1)) default)) (l':=(l.set (Int.toNat j) (l.getD (Int.toNat (j-1)) default)).set (Int.toNat (j-1)) (l.getD (Int.toNat j) default)) (val:=.agg #[I ((l.getD (Int.toNat j) default).spring),I ((l.getD (Int.toNat j) default).town)]) (L':=[cOwn (α:=Dem) 32 aj ((l.set (Int.toNat j) (l.getD (Int.toNat (j-1)) default)).set (Int.toNat (j-1)) (l.getD (Int.toNat j) default)),cMem encDm ak B_mem (zaa aa ab ac ae ag ah ai)]) H rfl Sz32 (by omega) (by omega) (l.getD (Int.toNat j) default) rfl rfl rfl rfl rfl ?_;intro cW H
     refine s_nil ⟨(H.pk [1]),?_⟩
     refine kg 6 ?_
     exact ⟨aq,au,(l.set (Int.toNat j) (l.getD (Int.toNat (j-1)) default)).set (Int.toNat (j-1)) (l.getD (Int.toNat j) default),j-1,B_mem,_,upds_of _ _ ⟨rfl,rfl,rfl,rfl,rfl,rfl,trivial⟩,M.e_inl hM ap,H⟩
    skip
    refine s_val (x_ld (v:=.agg #[I ((l.getD (Int.toNat j) default).spring),I ((l.getD (Int.toNat j) default).town)]) rfl (ld_ag Ag32 Sz32 (At.mono (Dem_atA (H.os 0) (i:=j) (by omega) (by omega)) (H.ol 0)))) ?_
    refine s_nil ⟨(H.pk [1]),?_⟩
    refine t_l rfl<|s_val (x_ld (v:=.agg #[I ((l.getD (Int.toNat (j-1)) default).spring),I ((l.getD (Int.toNat (j-1)) default).town)]) rfl (ld_ag Ag32 Sz32 (At.mono (Dem_atA (H.os 0) (i:=j-1) (by omega) (by omega)) (H.ol 0)))) ?_
    refine s_nil ⟨(H.pk [1]),?_⟩
    refine t_l rfl ?_;refine kg 1 ?_
    refine s_nil ⟨(H.pk [1]),?_⟩
    refine t_l rfl ?_;refine t_ost (k:=0) (i:=j) (l:=l) (l':=l.set (Int.toNat j) (l.getD (Int.toNat (j-1)) default)) (val:=.agg #[I ((l.getD (Int.toNat (j-1)) default).spring),I ((l.getD (Int.toNat (j-1)) default).town)]) (L':=[cOwn (α:=Dem) 32 aj (l.set (Int.toNat j) (l.getD (Int.toNat (j-1)) default)),cMem encDm ak B_mem (zaa aa ab ac ae ag ah ai)]) H rfl Sz32 (by omega) (by omega) (l.getD (Int.toNat (j-1)) default) rfl rfl rfl rfl rfl ?_;intro cX H
    refine s_nil ⟨(H.pk [1]),?_⟩
    refine t_l rfl ?_;refine kg 1 ?_
    refine s_nil ⟨(H.pk [1]),?_⟩
    refine t_l rfl ?_;refine t_ost (k:=0) (i:=j-1) (l:=l.set (Int.toNat j) (l.getD (Int.toNat (j-1)) default)) (l':=(l.set (Int.toNat j) (l.getD (Int.toNat (j-1)) default)).set (Int.toNat (j-1)) (l.getD (Int.toNat j) default)) (val:=.agg #[I ((l.getD (Int.toNat j) default).spring),I ((l.getD (Int.toNat j) default).town)]) (L':=[cOwn (α:=Dem) 32 aj ((l.set (Int.toNat j) (l.getD (Int.toNat (j-1)) default)).set (Int.toNat (j-1)) (l.getD (Int.toNat j) default)),cMem encDm ak B_mem (zaa aa ab ac ae ag ah ai)]) H rfl Sz32 (by omega) (by omega) (l.getD (Int.toNat j) default) rfl rfl rfl rfl rfl ?_;intro cY H
    refine s_nil ⟨(H.pk [1]),?_⟩
    refine kg 6 ?_
    exact ⟨aq,au,(l.set (Int.toNat j) (l.getD (Int.toNat (j-1)) default)).set (Int.toNat (j-1)) (l.getD (Int.toNat j) default),j-1,B_mem,_,upds_of _ _ ⟨rfl,rfl,rfl,rfl,rfl,rfl,trivial⟩,M.e_inl hM ap,H⟩
   skip
   refine s_val (x_ld (v:=.agg #[I ((l.getD (Int.toNat j) default).spring),I ((l.getD (Int.toNat j) default).town)]) rfl (ld_ag Ag32 Sz32 (At.mono (Dem_atA (H.os 0) (i:=j) (by omega) (by omega)) (H.ol 0)))) ?_
   refine s_nil ⟨(H.pk [1]),?_⟩
   refine t_l rfl ?_;refine kg 1 ?_
   refine s_nil ⟨(H.pk [1]),?_⟩
   refine t_l rfl<|s_val (x_ld (v:=.agg #[I ((l.getD (Int.toNat (j-1)) default).spring),I ((l.getD (Int.toNat (j-1)) default).town)]) rfl (ld_ag Ag32 Sz32 (At.mono (Dem_atA (H.os 0) (i:=j-1) (by omega) (by omega)) (H.ol 0)))) ?_
   refine s_nil ⟨(H.pk [1]),?_⟩
   refine t_l rfl ?_;refine kg 1 ?_
   refine s_nil ⟨(H.pk [1]),?_⟩
   refine t_l rfl ?_;refine t_ost (k:=0) (i:=j) (l:=l) (l':=l.set (Int.toNat j) (l.getD (Int.toNat (j-1)) default)) (val:=.agg #[I ((l.getD (Int.toNat (j-1)) default).spring),I ((l.getD (Int.toNat (j-1)) default).town)]) (L':=[cOwn (α:=Dem) 32 aj (l.set (Int.toNat j) (l.getD (Int.toNat (j-1)) default)),cMem encDm ak B_mem (zaa aa ab ac ae ag ah ai)]) H rfl Sz32 (by omega) (by omega) (l.getD (Int.toNat (j-1)) default) rfl rfl rfl rfl rfl ?_;intro cZ H
   refine s_nil ⟨(H.pk [1]),?_⟩
   refine t_l rfl ?_;refine kg 1 ?_
   refine s_nil ⟨(H.pk [1]),?_⟩
   refine t_l rfl ?_;refine t_ost (k:=0) (i:=j-1) (l:=l.set (Int.toNat j) (l.getD (Int.toNat (j-1)) default)) (l':=(l.set (Int.toNat j) (l.getD (Int.toNat (j-1)) default)).set (Int.toNat (j-1)) (l.getD (Int.toNat j) default)) (val:=.agg #[I ((l.getD (Int.toNat j) default).spring),I ((l.getD (Int.toNat j) default).town)]) (L':=[cOwn (α:=Dem) 32 aj ((l.set (Int.toNat j) (l.getD (Int.toNat (j-1)) default)).set (Int.toNat (j-1)) (l.getD (Int.toNat j) default)),cMem encDm ak B_mem (zaa aa ab ac ae ag ah ai)]) H rfl Sz32 (by omega) (by omega) (l.getD (Int.toNat j) default) rfl rfl rfl rfl rfl ?_;intro c0 H
   refine s_nil ⟨(H.pk [1]),?_⟩
   refine kg 6 ?_
   exact ⟨aq,au,(l.set (Int.toNat j) (l.getD (Int.toNat (j-1)) default)).set (Int.toNat (j-1)) (l.getD (Int.toNat j) default),j-1,B_mem,_,upds_of _ _ ⟨rfl,rfl,rfl,rfl,rfl,rfl,trivial⟩,M.e_inl hM ap,H⟩
  replace hM:=M.e_f hM aO;refine W.exit ?_
  have b4:=M.e_inr hM ap
  subst b4;replace hM:=bt;(try dsimp only at hM);obtain ⟨c5,hM⟩:=M.e_gd hM;refine kg 5 ?_
  exact ⟨bp,br,l,i+1,B_mem,_,upds_of _ _ ⟨rfl,rfl,rfl,rfl,rfl,trivial⟩,M.e_inl hM aL,H⟩
 replace hM:=M.e_f hM av
 replace av:=dI av
 refine W.exit ?_
 have b5:=M.e_inr hM aL
 subst b5;replace hM:=bZ;(try dsimp only at hM)
 have b6:=M.e_pure hM
 exact ⟨_,resE_tmp0 rfl,⟨l4,B_mem2,b6,rfl,H⟩⟩

def zc5 (n:Int) (aa:List Int) (ab:List Span) (ac:List Int) (ae:List Town) (ag ah:Int) (ai:List Flood) (aj:List Int) (ak:List Span) (al:List Int) (am:List Town) (ao ap:Int) (aq:List Flood):((List Dem) × Int × Int)->M (((List Dem) × Int × Int) ⊕ ((List Dem) × Int × (List Dem))):=fun (l,a,b) =>
  bif decide (b<=n) then (
  M.bind (zbR l a b aa ab ac ae ag ah ai aj ak al am ao ap aq) fun l_data =>
  M.grd (decide ((-9223372036854775808:Int)<=(b+20))&&decide ((b+20)<=(9223372036854775807:Int))) <|
  M.pure (.inl (l_data,b,b+20)))
  else (
  M.pure (.inr (l,a,l)))
def zdb (n blockSize:Int):Unit->M (Unit ⊕ Unit):=fun (_:Unit) =>
  bif decide ((2*blockSize)<=n) then (
  M.grd (decide ((-9223372036854775808:Int)<=(0+blockSize))&&decide ((0+blockSize)<=(9223372036854775807:Int))) <|
  M.fail)
  else (
  M.pure (.inr ()))
def zb0 (n:Int):Int->M (Int ⊕ Unit):=fun blockSize =>
  bif decide (blockSize<n) then (
  M.grd (decide ((-9223372036854775808:Int)<=(2*blockSize))&&decide ((2*blockSize)<=(9223372036854775807:Int))) <|
  M.bind (M.iter (zdb n blockSize) ()) fun (_:Unit) =>
  M.grd (decide ((-9223372036854775808:Int)<=(0+blockSize))&&decide ((0+blockSize)<=(9223372036854775807:Int))) <|
  bif decide ((0+blockSize)<n) then (
  M.fail)
  else (
  M.grd (decide ((-9223372036854775808:Int)<=(blockSize*2))&&decide ((blockSize*2)<=(9223372036854775807:Int))) <|
  M.pure (.inl (blockSize*2))))
  else (
  M.pure (.inr ()))
def zeb (data:List Dem) (n:Int) (aa:List Int) (ab:List Span) (ac:List Int) (ae:List Town) (ag ah:Int) (ai:List Flood) (aj:List Int) (ak:List Span) (al:List Int) (am:List Town) (ao ap:Int) (aq:List Flood):M (List Dem) :=
  M.bind (M.iter (zc5 n aa ab ac ae ag ah ai aj ak al am ao ap aq) (data,0,20)) fun (l2,a2,l3) =>
  M.bind (zbR l3 a2 n aa ab ac ae ag ah ai aj ak al am ao ap aq) fun l_data2 =>
  M.bind (M.iter (zb0 n) 20) fun (_:Unit) =>
  M.pure l_data2
theorem ze0 {R:List Chunk} {aa:Value} {ak:Nat} {aG:Nat} {aH:Nat} {aI:Cells} {aJ:Value} {aK:Cells} {aL:Value} {aM:Cells} {aN:Value} {aO:Cells} {aP:Value} {aQ:Cells} {aR:Value} {aq:Nat} {B_b_cmp2020207:Base} {aS:Nat} {aT:Nat} {aU:Cells} {aV:Value} {aW:Cells} {aX:Value} {aY:Cells} {aZ:Value} {a6:Cells} {a7:Value} {a8:Cells} {ba:Value} {bN:Nat} (data:List Dem) (n:Int) (ab:List Int) (ac:List Span) (ae:List Int) (ag:List Town) (ah:Int) (ai:Int) (aj:List Flood) (au:List Int) (av:List Span) (aw:List Int) (ax:List Town) (ay:Int) (az:Int) (aA:List Flood) (bb:Reads R aI) (bc:Sl aI aJ ab) (bf:Reads R aK) (bg:Sl aK aL ac) (bh:Reads R aM) (bi:Sl aM aN ae) (bj:Reads R aO) (bm:Sl aO aP ag) (bn:Reads R aQ) (bo:Sl aQ aR aj) (bp:Has R (cBlk aH [aJ,aL,aN,aP,I ah,I ai,aR,.map (some aq)] 113)) (br:Has R (cBlk aG [.func (.func 72) #[Pq aH] #[]] 123)) (bt:Reads R aU) (bu:Sl aU aV au) (bv:Reads R aW) (bw:Sl aW aX av) (bx:Reads R aY) (bz:Sl aY aZ aw) (bA:Reads R a6) (bB:Sl a6 a7 ax) (bC:Reads R a8) (bD:Sl a8 ba aA) (bE:Has R (cBlk aT [aV,aX,aZ,a7,I ay,I az,ba,.map (some bN)] 113)) (bF:Has R (cBlk aS [Pq aT] 108)) (bG:Has R (cBlk ak [.func (.func 102) #[] #[Pq aG,Pq aS]] 149)) {r:(List Dem)} (hM:(zeb data n ab ac ae ag ah ai aj au av aw ax ay az aA).Ends r) (w:World) (H:St w w [cOwn (α:=Dem) 32 aa data,cMem encDm aq B_b_cmp2020207 (zaa ab ac ae ag ah ai aj)] R):Ret Tryz.prog 110 #[aa,I n,.func (.func 104) #[] #[Pq ak]] w fun v w'=>∃ (y0:List Dem) (bO:Base),y0=r/\v = .tuple #[]/\St w w' [cOwn (α:=Dem) 32 aa y0,cMem encDm aq bO (zaa ab ac ae ag ah ai aj)] R:=by
 refine ret_of_W Tryz.func110 rfl rfl rfl ?_;refine kg 12 ?_;obtain ⟨bP,aC,bQ⟩:=M.e_bind hM
 obtain ⟨bH,aC⟩:=M.e_iter aC
 refine W.loop (fun m σ W=>∃ (l:List Dem) (a:Int) (b:Int) (B_mem:Base) (ρ:Env),σ=upds ρ [(0,aa),(1,I n),(2,.func (.func 104) #[] #[Pq ak]),(6,I 20),(7,I a),(8,I b)]/\M.iterN (zc5 n ab ac ae ag ah ai aj au av aw ax ay az aA) m (l,a,b)=some bP/\St w W [cOwn (α:=Dem) 32 aa l,cMem encDm aq B_mem (zaa ab ac ae ag ah ai aj)] R) ?_ ?_
 ·exact ⟨_,data,0,20,B_b_cmp2020207,_,upds_of _ _ ⟨rfl,rfl,rfl,rfl,rfl,rfl,trivial⟩,aC,H⟩
 rintro b7 σ b8 ⟨l,a,b,B_mem,ρ,rfl,bI,H⟩
 obtain ⟨bR,bS,b9,hM,bJ⟩:=M.e_iterN bI
 simp only [zc5] at hM
 clear bI;refine kg 7 ?_
 refine W.cond (decide (b<=n)) rfl (fun al=>?_) (fun al=>?_)
 ·replace hM:=M.e_t hM al
  replace al:=dI al
  refine kg 8 ?_;obtain ⟨ca,bT,hM⟩:=M.e_bind hM;refine s_call cf114 [aa,I a,I b,.func (.func 104) #[] #[Pq ak]] rfl (zem l a b ab ac ae ag ah ai aj au av aw ax ay az aA (bb.app _) bc (bf.app _) bg (bh.app _) bi (bj.app _) bm (bn.app _) bo (bp.app _) (br.app _) (bt.app _) bu (bv.app _) bw (bx.app _) bz (bA.app _) bB (bC.app _) bD (bE.app _) (bF.app _) (bG.app _) bT _ (H.gt 0)) ?_
  rintro vq cb ⟨l_data,bU,rfl,hvq,aB⟩
  subst vq;(try dsimp only at hM);replace H:=H.bk aB;clear aB;obtain ⟨cc,hM⟩:=M.e_gd hM;refine kg 12 ?_
  exact ⟨bR,bS,l_data,b,b+20,bU,_,upds_of _ _ ⟨rfl,rfl,rfl,rfl,rfl,rfl,trivial⟩,M.e_inl hM bJ,H⟩
 replace hM:=M.e_f hM al
 replace al:=dI al
 refine W.exit ?_
 have bV:=M.e_inr hM bJ
 subst bV;replace hM:=bQ;(try dsimp only at hM);refine kg 6 ?_;obtain ⟨cd,bW,hM⟩:=M.e_bind hM;refine s_call cf114 [aa,I a,I n,.func (.func 104) #[] #[Pq ak]] rfl (zem l a n ab ac ae ag ah ai aj au av aw ax ay az aA (bb.app _) bc (bf.app _) bg (bh.app _) bi (bj.app _) bm (bn.app _) bo (bp.app _) (br.app _) (bt.app _) bu (bv.app _) bw (bx.app _) bz (bA.app _) bB (bC.app _) bD (bE.app _) (bF.app _) (bG.app _) bW _ (H.gt 0)) ?_
 rintro vq ce ⟨l_data2,aD,rfl,hvq,aB⟩
 subst vq;(try dsimp only at hM);replace H:=H.bk aB;clear aB;refine kg 2 ?_;obtain ⟨bX,aE,bY⟩:=M.e_bind hM
 obtain ⟨bH,aE⟩:=M.e_iter aE
 refine W.loop (fun m σ W=>∃ (blockSize:Int) (ρ:Env),σ=upds ρ [(0,aa),(1,I n),(2,.func (.func 104) #[] #[Pq ak]),(6,I blockSize)]/\M.iterN (zb0 n) m blockSize=some bX/\St w W [cOwn (α:=Dem) 32 aa l_data2,cMem encDm aq aD (zaa ab ac ae ag ah ai aj)] R) ?_ ?_
 ·exact ⟨_,20,_,upds_of _ _ ⟨rfl,rfl,rfl,rfl,trivial⟩,aE,H⟩
 rintro cf σ cg ⟨blockSize,ρ,rfl,bK,H⟩
 obtain ⟨bZ,b0,ci,hM,bL⟩:=M.e_iterN bK
 simp only [zb0] at hM
 clear bK;refine kg 7 ?_
 refine W.cond (decide (blockSize<n)) rfl (fun am=>?_) (fun am=>?_)
 ·replace hM:=M.e_t hM am
  replace am:=dI am
  obtain ⟨cj,hM⟩:=M.e_gd hM;refine kg 11 ?_;obtain ⟨b1,aF,b2⟩:=M.e_bind hM
  obtain ⟨bH,aF⟩:=M.e_iter aF
  refine W.loop (fun m σ W=>∃ (ρ:Env),σ=upds ρ [(0,aa),(1,I n),(2,.func (.func 104) #[] #[Pq ak]),(6,I blockSize),(7,I 0),(8,I (2*blockSize))]/\M.iterN (zdb n blockSize) m ()=some b1/\St w W [cOwn (α:=Dem) 32 aa l_data2,cMem encDm aq aD (zaa ab ac ae ag ah ai aj)] R) ?_ ?_
  ·exact ⟨_,_,upds_of _ _ ⟨rfl,rfl,rfl,rfl,rfl,rfl,trivial⟩,aF,H⟩
  rintro ck σ cm ⟨ρ,rfl,bM,H⟩
  obtain ⟨cn,co,cp,hM,b3⟩:=M.e_iterN bM
  simp only [zdb] at hM
  clear bM;refine kg 7 ?_
  refine W.cond (decide ((2*blockSize)<=n)) rfl (fun ao=>?_) (fun ao=>?_)
  ·replace hM:=M.e_t hM ao
   replace ao:=dI ao
   obtain ⟨cq,hM⟩:=M.e_gd hM;refine kg 11 ?_
   exact (M.e_fail hM).elim
  replace hM:=M.e_f hM ao
  replace ao:=dI ao
  refine W.exit ?_
  have b4:=M.e_inr hM b3
  subst b4;replace hM:=b2;(try dsimp only at hM);obtain ⟨cr,hM⟩:=M.e_gd hM;refine kg 14 ?_
  refine W.cond (decide ((0+blockSize)<n)) rfl (fun ap=>?_) (fun ap=>?_)
  ·replace hM:=M.e_t hM ap
   replace ap:=dI ap
   refine kg 6 ?_
   exact (M.e_fail hM).elim
  replace hM:=M.e_f hM ap
  replace ap:=dI ap
  obtain ⟨ct,hM⟩:=M.e_gd hM;refine kg 6 ?_
  exact ⟨bZ,b0,blockSize*2,_,upds_of _ _ ⟨rfl,rfl,rfl,rfl,trivial⟩,M.e_inl hM bL,H⟩
 replace hM:=M.e_f hM am
 replace am:=dI am
 refine W.exit ?_
 have b5:=M.e_inr hM bL
 subst b5;replace hM:=bY;(try dsimp only at hM)
 have b6:=M.e_pure hM
 exact ⟨_,resE_tmp0 rfl,⟨l_data2,aD,b6,rfl,H⟩⟩

def zel (x:List Dem) (aa:List Int) (ab:List Span) (ac:List Int) (ae:List Town) (ag ah:Int) (ai:List Flood) (aj:List Int) (ak:List Span) (al:List Int) (am:List Town) (ao ap:Int) (aq:List Flood):M (List Dem) :=
  M.bind (zeb x (x.length:Int) aa ab ac ae ag ah ai aj ak al am ao ap aq) fun l_data =>
  M.pure l_data
theorem zeP {R:List Chunk} {aj:Value} {ak:Nat} {ax:Nat} {ay:Nat} {az:Cells} {aA:Value} {aB:Cells} {aC:Value} {aD:Cells} {aE:Value} {aF:Cells} {aG:Value} {aH:Cells} {aI:Value} {al:Nat} {B_b_cmp2020207:Base} {aJ:Nat} {aK:Nat} {aL:Cells} {aM:Value} {aN:Cells} {aO:Value} {aP:Cells} {aQ:Value} {aR:Cells} {aS:Value} {aT:Cells} {aU:Value} {aW:Nat} (x:List Dem) (aa:List Int) (ab:List Span) (ac:List Int) (ae:List Town) (ag:Int) (ah:Int) (ai:List Flood) (am:List Int) (ao:List Span) (ap:List Int) (aq:List Town) (au:Int) (av:Int) (aw:List Flood) (aX:Reads R az) (aY:Sl az aA aa) (aZ:Reads R aB) (a6:Sl aB aC ab) (a7:Reads R aD) (a8:Sl aD aE ac) (ba:Reads R aF) (bb:Sl aF aG ae) (bc:Reads R aH) (bf:Sl aH aI ai) (bg:Has R (cBlk ay [aA,aC,aE,aG,I ag,I ah,aI,.map (some al)] 113)) (bh:Has R (cBlk ax [.func (.func 72) #[Pq ay] #[]] 123)) (bi:Reads R aL) (bj:Sl aL aM am) (bm:Reads R aN) (bn:Sl aN aO ao) (bo:Reads R aP) (bp:Sl aP aQ ap) (br:Reads R aR) (bt:Sl aR aS aq) (bu:Reads R aT) (bv:Sl aT aU aw) (bw:Has R (cBlk aK [aM,aO,aQ,aS,I au,I av,aU,.map (some aW)] 113)) (bx:Has R (cBlk aJ [Pq aK] 108)) (bz:Has R (cBlk ak [.func (.func 102) #[] #[Pq ax,Pq aJ]] 149)) {r:(List Dem)} (hM:(zel x aa ab ac ae ag ah ai am ao ap aq au av aw).Ends r) (w:World) (H:St w w [cOwn (α:=Dem) 32 aj x,cMem encDm al B_b_cmp2020207 (zaa aa ab ac ae ag ah ai)] R):Ret Tryz.prog 103 #[aj,.func (.func 104) #[] #[Pq ak]] w fun v w'=>∃ (y0:List Dem) (bA:Base),y0=r/\v = .tuple #[]/\St w w' [cOwn (α:=Dem) 32 aj y0,cMem encDm al bA (zaa aa ab ac ae ag ah ai)] R:=by
 refine ret_of_W Tryz.func103 rfl rfl rfl ?_
 have bE:=((H.os 0)).len_le
 refine kg 5 ?_;obtain ⟨bF,bB,hM⟩:=M.e_bind hM;refine s_call cf110 [aj,I (x.length:Int),.func (.func 104) #[] #[Pq ak]] rfl (ze0 x (x.length:Int) aa ab ac ae ag ah ai am ao ap aq au av aw (aX.app _) aY (aZ.app _) a6 (a7.app _) a8 (ba.app _) bb (bc.app _) bf (bg.app _) (bh.app _) (bi.app _) bj (bm.app _) bn (bo.app _) bp (br.app _) bt (bu.app _) bv (bw.app _) (bx.app _) (bz.app _) bB _ (H.gt 0)) ?_
 rintro vq bG ⟨l_data,bC,rfl,hvq,aV⟩
 subst vq;(try dsimp only at hM);replace H:=H.bk aV;clear aV;refine s_nil ?_
 have bD:=M.e_pure hM
 exact ⟨_,resE_tmp0 rfl,⟨l_data,bC,bD,rfl,H⟩⟩

end Go.Proofs.YtbldmjejckjflabGreat
end
