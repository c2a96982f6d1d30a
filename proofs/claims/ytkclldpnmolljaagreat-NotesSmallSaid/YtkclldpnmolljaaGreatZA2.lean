/- Part 2 of the texts on which the proof rests. Conditions: none. -/
import Derived.Test.YtkclldpnmolljaaGreatProg
import Derived.Ground.NamesProg
import Derived.Shelf.Bits.Mul64
import Derived.Test.YtkclldpnmolljaaGreatZA1
set_option linter.unusedVariables false
set_option linter.unusedSimpArgs false
set_option linter.unusedSectionVars false
namespace Go.Nm
open Go
universe u
/-- What a test says, as a proposition. -/
class DcQ (b c:Bool) (p:outParam Prop):Prop where
  to:b=c->p
instance (priority:=low) {b c:Bool}:DcQ b c (b=c):=⟨fun h=>h⟩
instance {p:Prop} [Decidable p]:DcQ (decide p) true p:=⟨of_decide_eq_true⟩
instance {p:Prop} [Decidable p]:DcQ (decide p) false (¬p):=⟨of_decide_eq_false⟩
instance {α:Type _} [BEq α] [LawfulBEq α] {a b:α}:DcQ (a==b) true (a=b):=⟨beq_iff_eq.1⟩
instance {α:Type _} [BEq α] [LawfulBEq α] {a b:α}:DcQ (a==b) false (a ≠ b):=⟨beq_eq_false_iff_ne.1⟩
instance {α:Type _} [BEq α] [LawfulBEq α] {a b:α}:DcQ (a != b) true (a ≠ b):=⟨bne_iff_ne.1⟩
instance {α:Type _} [BEq α] [LawfulBEq α] {a b:α}:DcQ (a != b) false (a=b):=⟨bne_eq_false_iff_eq.1⟩
/-- What a guard says, as a proposition. -/
class DeQ (b:Bool) (p:outParam Prop):Prop where
  iff:b=true↔p
instance (priority:=low) {b:Bool}:DeQ b (b=true):=⟨Iff.rfl⟩
instance {p:Prop} [Decidable p]:DeQ (decide p) p:=⟨decide_eq_true_iff⟩
instance {a b:Bool} {p q:Prop} [ha:DeQ a p] [hb:DeQ b q]:DeQ (a&&b) (p/\q):=⟨by rw [Bool.and_eq_true,ha.iff,hb.iff]⟩
/-! ### Facts on types, found by their numbers -/
class FdC (P:Program) (s k:Nat) (off ft:outParam Nat):Prop where
  h:(P.underlying s).bind (fun d=>match d with | .struct fs=>(fs[k]?).map (fun f=>(f.offset,f.type)) | _=>none)=some (off,ft)
class ScC (P:Program) (t:Nat):Prop where
  h:isSc (P.underlying t)=true
class AgC (P:Program) (t:Nat):Prop where
  h:isAg (P.underlying t)=true
class SzC (P:Program) (t:Nat) (n:outParam Nat):Prop where
  h:(P.info? t).map (·.size)=some n
class TlC (P:Program) (t:Nat) (e sz by':outParam Nat) (z:outParam Value):Prop where
  h:SlT P t e sz by' z
class AlC (P:Program) (t:Nat) (z:outParam Value):Prop where
  h:(P.info? t).map (·.zero)=some (some z)
class BdC (P:Program) (t:Nat) (pl:outParam (List (Nat × Nat))):Prop where
  h:∃ fs:Array Field,P.underlying t=some (.struct fs)/\fs.toList.mapM (fun f=>(P.info? f.type).map fun i=>(f.offset,i.size))=some pl
class CfC (P:Program) (f:FuncId):Prop where
  h:CF P f
class AddC (a b:Nat) (c:outParam Nat):Prop where
  h:a+b=c
instance (priority:=low) {a b:Nat}:AddC a b (a+b):=⟨rfl⟩
instance {a:Nat}:AddC a 0 a:=⟨rfl⟩
instance {b:Nat}:AddC 0 b b:=⟨Nat.zero_add b⟩
/-- An index as a number. -/
class IxC (i:Int) (n:outParam Nat):Prop where
  h:i.toNat=n
instance (priority:=low) {i:Int}:IxC i i.toNat:=⟨rfl⟩
instance {n:Nat}:IxC (n:Int) n:=⟨rfl⟩
instance:IxC 0 0:=⟨rfl⟩
instance:IxC 1 1:=⟨rfl⟩
instance:IxC 2 2:=⟨rfl⟩
instance:IxC 3 3:=⟨rfl⟩
instance:IxC 4 4:=⟨rfl⟩
instance:IxC 5 5:=⟨rfl⟩
instance:IxC 6 6:=⟨rfl⟩
instance:IxC 7 7:=⟨rfl⟩
instance:IxC 8 8:=⟨rfl⟩
instance:IxC 9 9:=⟨rfl⟩
/-- What is read beyond a list's end. -/
class DfC (α:Type) (d:outParam α):Prop where
  h:True
instance (priority:=low) {α:Type} [Inhabited α]:DfC α default:=⟨trivial⟩
instance:DfC Int 0:=⟨trivial⟩
instance:DfC Bool false:=⟨trivial⟩
/-- The cells of a thing, written out. -/
class EncL {α:Type} [Flat α] (x:α) (ds:outParam (List Value)):Prop where
  h:Flat.enc x=ds
/-- Some of a list's entries. -/
class SubR {α:Type u} (l:List α) (k n:Nat) (o:outParam (List α)):Prop where
  h:(l.drop k).take n=o
instance {α:Type u} {l:List α}:SubR l 0 0 []:=⟨rfl⟩
instance {α:Type u} {l o:List α} {x:α} {n:Nat} [h:SubR l 0 n o]:SubR (x :: l) 0 (n+1) (x :: o):=⟨by have:=h.h; simp at this; simp [this]⟩
instance {α:Type u} {l o:List α} {x:α} {k n:Nat} [h:SubR l k n o]:SubR (x :: l) (k+1) n o:=⟨by rw [List.drop_succ_cons]; exact h.h⟩
/-- A block among the parts. -/
class BlkR (L:List Chunk) (b:Nat) (cs:outParam (List Value)) (t:outParam TypeId):Prop where
  h:∃ k:Nat,L[k]?=some (cBlk b cs t)
instance {c:Chunk} {L:List Chunk} {b:Nat} {cs:List Value} {t:TypeId} [h:BlkR L b cs t]:BlkR (c :: L) b cs t:=⟨by obtain ⟨k,h⟩:=h.h; exact ⟨k+1,by simpa using h⟩⟩
instance {L:List Chunk} {b:Nat} {cs:List Value} {t:TypeId}:BlkR (cBlk b cs t :: L) b cs t:=⟨⟨0,rfl⟩⟩
/-- A block among the parts that is changed. -/
class BlkW (L:List Chunk) (b:Nat) (cs:List Value) (cs':List Value) (t:TypeId) (o:outParam (List Chunk)):Prop where
  h:∃ k:Nat,L[k]?=some (cBlk b cs t)/\L.set k (cBlk b cs' t)=o
instance {c:Chunk} {L o:List Chunk} {b:Nat} {cs cs':List Value} {t:TypeId} [h:BlkW L b cs cs' t o]:BlkW (c :: L) b cs cs' t (c :: o):=⟨by obtain ⟨k,h1,h2⟩:=h.h; exact ⟨k+1,by simpa using h1,by rw [List.set_cons_succ,h2]⟩⟩
instance {L:List Chunk} {b:Nat} {cs cs':List Value} {t:TypeId}:BlkW (cBlk b cs t :: L) b cs cs' t (cBlk b cs' t :: L):=⟨⟨0,rfl,rfl⟩⟩
/-- A field of an element. -/
class FldC (α:Type) [Elt α] (k:Nat) (e:outParam α) (f:outParam (α->Value)):Prop where
  h:∀ {C:Cells} {v:Value} {l:List α} {n:Nat},Sl C v l->n<l.length->At C (fat (vat v (Elt.sz α) n) k) [f (l.getD n e)]
section
variable {w0 w:World} {L R:List Chunk}
theorem St.bq {b:Nat} {cs:List Value} {t:TypeId} (H:St w0 w L R) [h:BlkR L b cs t]:w.heap[b]?=some (.cells cs.toArray t (0,0)):=by
  obtain ⟨k,hk⟩:=h.h
  exact H.get hk
end
section
variable {P:Program} {w:World} {σ:Env} {d:Nat} {ty:TypeId} {pos:String} {af:Array Edge} {g:Option (Nat × Bool)}
theorem pos_succ {m:Nat} (h:Nat.blt 0 m=true):∃ n,m=n+1:=by
  cases m with
  | zero=>cases h
  | succ n=>exact ⟨n,rfl⟩
theorem y_fab {s k off ft m b o c:Nat} {x:Operand} (hx:ev σ x = .pointer (some ⟨b,o,none⟩)) [f:FdC P s k off ft] [z:SzC P ft m] (a:AddC o off c) (hm:Nat.blt 0 m=true) :
    (execOp (ev σ) ⟨some d,.fieldAddr s x k,ty,pos,af,g⟩).run P w = .ok (.value (.pointer (some ⟨b,c,none⟩))) w:=by
  obtain ⟨n,rfl⟩:=pos_succ hm
  have:=fa_blk (w:=w) (b:=b) (o:=o) f.h z.h
  rw [a.h] at this
  exact x_fa hx this
theorem y_fap {s k off ft m:Nat} {x:Operand} {p:Value} (hx:ev σ x=p) [f:FdC P s k off ft] [z:SzC P ft m] (hm:Nat.blt 0 m=true) (hp:∃ b o,p = .pointer (some ⟨b,o,none⟩)) :
    (execOp (ev σ) ⟨some d,.fieldAddr s x k,ty,pos,af,g⟩).run P w = .ok (.value (fat p off)) w:=by
  obtain ⟨n,rfl⟩:=pos_succ hm
  exact x_fa hx (fa_pl f.h z.h hp)
theorem y_fav {α:Type} {_:Elt α} {s k off ft m sz n:Nat} {x:Operand} {C:Cells} {v:Value} {l:List α} (hx:ev σ x=vat v sz n) [f:FdC P s k off ft] [z:SzC P ft m] (hm:Nat.blt 0 m=true) (hs:Sl C v l) (hz:Elt.sz α=sz) (h1:n<l.length) :
    (execOp (ev σ) ⟨some d,.fieldAddr s x k,ty,pos,af,g⟩).run P w = .ok (.value (fat (vat v sz n) off)) w:=by
  subst hz
  have:=Sl.pl hs (i:=(n:Int)) (by omega) (by omega)
  exact y_fap hx hm (by simpa using this)
theorem y_faw {α:Type} {_:Elt α} {s k off ft m sz n a c:Nat} {x:Operand} {C:Cells} {v:Value} {l:List α} (hx:ev σ x=fat (vat v sz n) a) [f:FdC P s k off ft] [z:SzC P ft m] (ad:AddC a off c) (hm:Nat.blt 0 m=true) (hs:Sl C v l) (hz:Elt.sz α=sz) (h1:n<l.length) :
    (execOp (ev σ) ⟨some d,.fieldAddr s x k,ty,pos,af,g⟩).run P w = .ok (.value (fat (vat v sz n) c)) w:=by
  subst hz
  obtain ⟨b,o,hp⟩:=Sl.pl hs (i:=(n:Int)) (by omega) (by omega)
  have e:vat v (Elt.sz α) n = .pointer (some ⟨b,o,none⟩):=by simpa using hp
  have:=y_fap (P:=P) (w:=w) (d:=d) (ty:=ty) (pos:=pos) (af:=af) (g:=g) hx (f:=f) (z:=z) hm ⟨b,o+a,by rw [e]; simp [fat,add_lit]⟩
  rw [this,e,← ad.h]
  simp [fat,add_lit,Nat.add_assoc]
theorem y_ldb {t:TypeId} {b off:Nat} {cs:List Value} {et:TypeId} {fr:Nat × Nat} {x:Operand} {v:Value} (hx:ev σ x = .pointer (some ⟨b,off,none⟩)) [s:ScC P t] (h:w.heap[b]?=some (.cells cs.toArray et fr)) (hv:(cs.drop off).take 1=[v]) :
    (execOp (ev σ) ⟨some d,.load t x,ty,pos,af,g⟩).run P w = .ok (.value v) w:=x_ld hx (ldb_sc s.h h hv)
theorem y_lda {t:TypeId} {b off n:Nat} {cs ds:List Value} {et:TypeId} {fr:Nat × Nat} {x:Operand} (hx:ev σ x = .pointer (some ⟨b,off,none⟩)) [s:AgC P t] [z:SzC P t n] (h:w.heap[b]?=some (.cells cs.toArray et fr)) (q:SubR cs off n ds) (hn:ds.length=n) :
    (execOp (ev σ) ⟨some d,.load t x,ty,pos,af,g⟩).run P w = .ok (.value (.agg ds.toArray)) w:=x_ld hx (ldb_ag s.h z.h h q.h hn)
theorem At.flat {α:Type} [Flat α] {C:Cells} {v:Value} {l:List α} (hs:Sl C v l) {n:Nat} (h1:n<l.length) (e:α):At C (vat v (Elt.sz α) n) (Flat.enc (l.getD n e)):=by
  obtain ⟨cs,ha,hr⟩:=hs.atI (i:=(n:Int)) (by omega) (by omega) e
  rw [Flat.rep_iff] at hr
  subst hr
  simpa using ha
theorem y_lds {α:Type} {_:Flat α} {t sz n:Nat} {x:Operand} {C:Cells} {v u:Value} {l:List α} {e:α} (hx:ev σ x=vat v sz n) [s:ScC P t] (hs:Sl C v l) {ds:List Value} (de:DfC α e) (en:EncL (l.getD n e) ds) (hz:Elt.sz α=sz) (hu:ds=[u]) (hle:C.Le w.cell?) (h1:n<l.length) :
    (execOp (ev σ) ⟨some d,.load t x,ty,pos,af,g⟩).run P w = .ok (.value u) w:=by
  subst hz
  have:=(At.flat hs h1 e).mono hle
  rw [en.h,hu] at this
  exact x_ld hx (ld_sc s.h this)
theorem y_ldf {α:Type} {_:Flat α} {t sz n k:Nat} {x:Operand} {C:Cells} {v u:Value} {l:List α} {e:α} (hx:ev σ x=fat (vat v sz n) k) [s:ScC P t] (hs:Sl C v l) {ds:List Value} (de:DfC α e) (en:EncL (l.getD n e) ds) (hz:Elt.sz α=sz) (hu:(ds.drop k).take 1=[u]) (hle:C.Le w.cell?) (h1:n<l.length) :
    (execOp (ev σ) ⟨some d,.load t x,ty,pos,af,g⟩).run P w = .ok (.value u) w:=by
  subst hz
  have:=((At.flat hs h1 e).mono hle).fld k 1
  rw [en.h,hu] at this
  exact x_ld hx (ld_sc s.h this)
theorem y_ldA {α:Type} {_:Flat α} {t sz n:Nat} {x:Operand} {C:Cells} {v:Value} {l:List α} {e:α} (hx:ev σ x=vat v sz n) [s:AgC P t] [z:SzC P t sz] (hs:Sl C v l) {ds:List Value} (de:DfC α e) (en:EncL (l.getD n e) ds) (hz:Elt.sz α=sz) (hle:C.Le w.cell?) (h1:n<l.length) :
    (execOp (ev σ) ⟨some d,.load t x,ty,pos,af,g⟩).run P w = .ok (.value (.agg ds.toArray)) w:=by
  subst hz
  have:=(At.flat hs h1 e).mono hle
  rw [en.h] at this
  refine x_ld hx (ld_ag s.h ?_ this)
  rw [z.h,← en.h,Flat.enc_len]
theorem y_ldg {α:Type} {_:Elt α} {t sz n k:Nat} {x:Operand} {C:Cells} {v:Value} {l:List α} {e:α} {f:α->Value} (hx:ev σ x=fat (vat v sz n) k) [s:ScC P t] (hs:Sl C v l) (fc:FldC α k e f) (hz:Elt.sz α=sz) (hle:C.Le w.cell?) (h1:n<l.length) :
    (execOp (ev σ) ⟨some d,.load t x,ty,pos,af,g⟩).run P w = .ok (.value (f (l.getD n e))) w:=by
  subst hz
  exact x_ld hx (ld_sc s.h ((fc.h hs h1).mono hle))
theorem y_ldp {t:TypeId} {x:Operand} {p v:Value} (hx:ev σ x=p) [s:ScC P t] (ha:At w.cell? p [v]) :
    (execOp (ev σ) ⟨some d,.load t x,ty,pos,af,g⟩).run P w = .ok (.value v) w:=x_ld hx (ld_sc s.h ha)
theorem y_len {α:Type} {_:Elt α} {t e sz by':Nat} {z:Value} {x:Operand} {C:Cells} {v:Value} {l:List α} [T:TlC P t e sz by' z] (h:ev σ x=v) (hs:Sl C v l) :
    (execOp (ev σ) ⟨some d,.call ⟨.builtin .len,#[x],#[t]⟩,ty,pos,af,g⟩).run P w = .ok (.value (.int .i64 l.length)) w:=x_lenS T.h.und h hs
theorem y_ix {α:Type} {_:Elt α} {t e sz by' n:Nat} {z:Value} {x y:Operand} {C:Cells} {v:Value} {l:List α} {kd:IntKind} {i:Int} [T:TlC P t e sz by' z] (hx:ev σ x=v) (hy:ev σ y = .int kd i) (ix:IxC i n) (hs:Sl C v l) (hz:Elt.sz α=sz) (h0:0<=i) (h1:i<l.length) :
    (execOp (ev σ) ⟨some d,.indexAddr t x y,ty,pos,af,g⟩).run P w = .ok (.value (vat v sz n)) w:=by
  subst hz
  have:=Sl.ix (w:=w) (kd:=kd) T.h.und T.h.size hs h0 h1
  rw [ix.h] at this
  exact x_ix hx hy this
end
section
variable {P:Program} {all rest:List Oper} {Q:Post} {σ:Env} {w0 w:World} {L L' R:List Chunk} {ty:TypeId} {pos:String} {af:Array Edge}
end
instance {x:Int}:EncL x [I x]:=⟨rfl⟩
instance {x:Bool}:EncL x [B x]:=⟨rfl⟩
/-- A slice that reads as a list. -/
theorem jS {A:Prop} (h:A:=by first | assumption | exact H.os 0 | exact H.os 1 | exact H.os 2 | exact H.os 3 | exact H.os 4 | exact H.os 5 | exact H.os 6 | exact H.os 7 | exact H.os 8 | exact H.os 9 | exact (by assumption:_=true->Sl _ _ _) hg):A:=h
/-- Cells that can be read. -/
theorem jL {A:Prop} (h:A:=by first | exact Reads.at (by assumption) H | exact H.ol 0 | exact H.ol 1 | exact H.ol 2 | exact H.ol 3 | exact H.ol 4 | exact H.ol 5 | exact H.ol 6 | exact H.ol 7 | exact H.ol 8 | exact H.ol 9):A:=h
/-- A bound. -/
theorem jO {A:Prop} (h:A:=by first | omega | (have hx_:=hg; simp at hx_; omega) | (have hx_:=hg; simp at hx_; simp only [hg,Bool.true_eq_false,Bool.false_eq_true,reduceCtorEq,false_or,true_or,Bool.not_true,Bool.not_false] at *; omega) | (simp only [hg,Bool.true_eq_false,Bool.false_eq_true,reduceCtorEq,false_or,true_or,Bool.not_true,Bool.not_false] at *; omega)):A:=h
/-- A guard. -/
theorem jB {A:Prop} (h:A:=by first | exact hb | (rw [hb]; rfl) | simp_all):A:=h
/-- A value under a guard, or none. -/
theorem jG {A:Prop} (h:A:=by first | exact gd_of hg _ | ((conv=>lhs; whnf) <;> rfl)):A:=h
/-- A value. -/
theorem jE {A:Prop} (h:A:=by ((conv=>lhs; whnf) <;> rfl)):A:=h
/-- One operation. -/
theorem jU {A:Prop} (h:A:=by 
    first
      | (apply x_mv; exact jE)
      | (apply x_as; exact jE)
      | (apply y_fab; rfl; exact inferInstance; rfl)
      | (apply y_ldb; rfl; exact H.bq; rfl)
      | (apply x_cmp; rfl; rfl; rfl)
      | (apply y_len; exact jE; exact jS)
      | (apply y_ix; exact jE; rfl; exact inferInstance; exact jS; rfl; exact jO; exact jO)
      | (apply y_fav; rfl; rfl; exact jS; rfl; exact jO)
      | (apply y_faw; rfl; exact inferInstance; rfl; exact jS; rfl; exact jO)
      | (apply y_lds; rfl; exact jS; exact inferInstance; exact inferInstance; rfl; rfl; exact jL; exact jO)
      | (apply y_ldf; rfl; exact jS; exact inferInstance; exact inferInstance; rfl; rfl; exact jL; exact jO)
      | (apply y_ldg; rfl; exact jS; exact inferInstance; rfl; exact jL; exact jO)
      | (apply y_ldA; rfl; exact jS; exact inferInstance; exact inferInstance; rfl; exact jL; exact jO)
      | (apply y_ldp; rfl; exact At.mono (by assumption) jL)
      | (apply x_ari; rfl; rfl; rfl; exact jO)
      | (apply x_ext; rfl; rfl)
      | (apply x_nc; rfl)
      | (apply y_lda; rfl; exact H.bq; exact inferInstance; rfl)
      | (apply y_ldb; rfl; exact (by assumption:Has _ (cBlk _ _ _)).blk H; rfl)
      | (apply x_not; rfl)
      | (apply x_max; rfl; rfl)
      | (apply x_min; rfl; rfl)
      | (apply x_quo; rfl; rfl; exact jO)
      | (apply x_por; rfl; rfl; exact fun hb=>gd_of jB _)
      | (apply x_pand; rfl; exact fun hb=>gd_of jB _; rfl)):A:=h
/-- One operation under a guard. -/
theorem jV {A:Prop} (h:A:=by 
    first
      | (apply x_mv; exact jG)
      | (apply x_as; exact jG)
      | (apply y_fab; exact jG; exact inferInstance; rfl)
      | (apply y_ldb; exact jG; exact H.bq; rfl)
      | (apply x_cmp; exact jG; exact jG; rfl)
      | (apply y_len; exact jG; exact jS)
      | (apply y_ix; exact jG; exact jG; exact inferInstance; exact jS; rfl; exact jO; exact jO)
      | (apply y_fav; exact jG; rfl; exact jS; rfl; exact jO)
      | (apply y_faw; exact jG; exact inferInstance; rfl; exact jS; rfl; exact jO)
      | (apply y_lds; exact jG; exact jS; exact inferInstance; exact inferInstance; rfl; rfl; exact jL; exact jO)
      | (apply y_ldf; exact jG; exact jS; exact inferInstance; exact inferInstance; rfl; rfl; exact jL; exact jO)
      | (apply y_ldg; exact jG; exact jS; exact inferInstance; rfl; exact jL; exact jO)
      | (apply y_ldA; exact jG; exact jS; exact inferInstance; exact inferInstance; rfl; exact jL; exact jO)
      | (apply y_ldp; exact jG; exact At.mono (by assumption) jL)
      | (apply x_ari; exact jG; exact jG; rfl; exact jO)
      | (apply x_ext; exact jG; rfl)
      | (apply x_nc; exact jG)
      | (apply y_lda; exact jG; exact H.bq; exact inferInstance; rfl)
      | (apply y_ldb; exact jG; exact (by assumption:Has _ (cBlk _ _ _)).blk H; rfl)
      | (apply x_not; exact jG)
      | (apply x_max; exact jG; exact jG)
      | (apply x_min; exact jG; exact jG)
      | (apply x_quo; exact jG; exact jG; exact jO)
      | (apply x_por; exact jG; exact jG; exact fun hb=>gd_of jB _)
      | (apply x_pand; exact jG; exact fun hb=>gd_of jB _; exact jG)):A:=h
/-- What is left. -/
structure Left (B:Prop):Prop where
  h:B
/-- How many steps are left. -/
structure Cnt (n:Nat):Prop where
  h:n=n
theorem Cnt.dn {n:Nat} (c:Cnt (n+1)):Cnt n:=⟨rfl⟩
/-- So many plain steps. -/
theorem kg {A B:Prop} (n:Nat) (q:B) (f:Cnt n->Left B->A:=by
    intro cnt q
    (repeat (replace cnt:=Cnt.dn cnt; first
      | (apply s_val; exact jU)
      | refine s_nil ?_
      | refine W.seq ?_
      | refine W.region rfl ?_
      | refine W.skip ?_
      | refine W.block ?_
      | (apply d_q; rfl; (intro w' H; exact jU))
      | (apply t_q; rfl; (intro w' H; exact jU))
      | (apply g_val; (first | exact gy_t rfl | exact gy_f rfl | exact gy_gt rfl rfl | exact gy_gf rfl rfl); (intro hg; exact jV))
      | (apply d_qg; rfl; (first | exact gy_t rfl | exact gy_f rfl | exact gy_gt rfl rfl | exact gy_gf rfl rfl); (intro hg w' H; exact jV))
      | (apply t_qg; rfl; (first | exact gy_t rfl | exact gy_f rfl | exact gy_gt rfl rfl | exact gy_gf rfl rfl); (intro hg w' H; exact jV))
      | refine t_nil ?_
      | refine d_nil ?_))
    exact q.h):A:=f ⟨rfl⟩ ⟨q⟩
end Go.Nm
namespace Go.Nm
open Go
/-- A value that takes one cell. -/
def PtV (p:Value):Prop:=p.cells=[p].toArray/\p.oneCell'=true
theorem ptB (a:Addr):PtV (.pointer (some a)):=⟨rfl,rfl⟩
theorem ptE {p:Value} (h:∃ b o,p = .pointer (some ⟨b,o,none⟩)):PtV p:=by
  obtain ⟨b,o,rfl⟩:=h
  exact ptB _
theorem ptF {p:Value} {off:Nat} (h:∃ b o,p = .pointer (some ⟨b,o,none⟩)):PtV (fat p off):=by
  obtain ⟨b,o,rfl⟩:=h
  exact ptB _
theorem ptr_fat {p:Value} {off:Nat} (h:∃ b o,p = .pointer (some ⟨b,o,none⟩)):∃ b o,fat p off = .pointer (some ⟨b,o,none⟩):=by
  obtain ⟨b,o,rfl⟩:=h
  exact ⟨b,o+off,by simp [fat,add_lit]⟩
def rawV (p:Value) (h:PtV p):Raw 0:=⟨[p],rfl,fun v hv=>by rw [List.mem_singleton.1 hv]; exact h.2⟩
theorem raw_at {C:Cells} {v p:Value} {l:List (Raw 0)} {i:Int} {k:Nat} (h:Sl C v l) (hi:i=k) (hk:(l[k]?).map Raw.cs=some [p]):At C (vat v 1 i.toNat) [p]:=by
  subst hi
  obtain ⟨r,h1,h2⟩:=Option.map_eq_some_iff.1 hk
  obtain ⟨cs,ha,hr⟩:=h.at h1
  rw [show cs=r.cs from hr,h2] at ha
  exact ha
theorem W.byc {r:Option Nat} {P:Program} {n:Nat} {Q:Post} {σ:Env} {w:World} {c:Code} (b:Bool) (ht:b=true->WR r P n c Q σ w) (hf:b=false->WR r P n c Q σ w):WR r P n c Q σ w:=by
  cases b with
  | true=>exact ht rfl
  | false=>exact hf rfl
end Go.Nm
namespace Go.Nm
open Go
theorem lz_at {n:Nat} {C:Cells} {v:Value} {l:List (Raw n)} {r:Raw n} {i:Int} {k:Nat} {cs:List Value} (h:Sl C v l) (hi:i=k) (hk:l[k]?=some r) (hc:r.cs=cs):At C (vat v (n+1) i.toNat) cs:=by
  subst hi
  obtain ⟨cs',ha,hr⟩:=h.at hk
  rw [show cs'=r.cs from hr,hc] at ha
  exact ha
theorem repR_rep {C:Cells} {r:Raw 0} (h:Elt.rep C r.cs ([]:List Int)):∀ n:Nat,RepR (α:=List Int) C (List.replicate n r) (List.replicate n [])
  | 0=>.nil
  | n+1=>.cons h (repR_rep h n)
section
variable {P:Program} {all rest:List Oper} {Q:Post} {σ:Env} {ty:TypeId} {pos:String} {af:Array Edge} {d:Nat} {w0 w:World} {L R:List Chunk} {t e by':Nat} {z:Value}
/-- Two rows, under a guard: they are read on only. -/
theorem t_gbsL {parts:Array (Nat × Operand)} (T:SlT P t e (Elt.sz (Raw 0)) by' z) {j:Nat} {want:Bool} (c:Bool) (hy:(yieldedE all σ j==some want)=c) {v1 v2:Value} {l1 l2:List Int} {B1 B2:Base} {k1 k2:Nat} (H:St w0 w L R)
    (hk1:L[k1]?=some (cRo B1)) (hk2:L[k2]?=some (cRo B2)) (h1:c=true->Sl B1.cells v1 l1) (h2:c=true->Sl B2.cells v2 l2)
    (hp:c=true->parts.toList.map (fun x=>(x.1,ev σ x.2))=([v1,v2].zipIdx 0).map fun x=>(x.2,x.1))
    (k:∀ u B w',St w0 w' (cRo B :: L) R->(c=true->Sl B.cells u [l1,l2])->SL P all Q rest (upd σ d (gd c u)) w'):SL P all Q (⟨some d,.buildSlice t 2 parts,ty,pos,af,some (j,want)⟩ :: rest) σ w:=by
  refine g_split rfl c hy (fun e=>?_) (fun e=>?_)
  · have g1:=h1 e
    have g2:=h2 e
    obtain ⟨r1,hr1⟩:∃ r:Raw 0,r.cs=[v1]:=⟨Raw.of [v1] rfl (by simp only [List.all_cons,List.all_nil,Bool.and_true]; exact sl_one g1),rfl⟩
    obtain ⟨r2,hr2⟩:∃ r:Raw 0,r.cs=[v2]:=⟨Raw.of [v2] rfl (by simp only [List.all_cons,List.all_nil,Bool.and_true]; exact sl_one g2),rfl⟩
    refine t_bs (α:=Raw 0) T [v1,v2] [r1,r2] H (hp e) (.cons (by rw [show (Flat.enc r1:List Value)=r1.cs from rfl,hr1]; exact Sl.cells g1) (Flat.rep_enc _ _)<|.cons (by rw [show (Flat.enc r2:List Value)=r2.cs from rfl,hr2]; exact Sl.cells g2) (Flat.rep_enc _ _)<|.nil) rfl rfl rfl fun u w' H'=>?_
    obtain ⟨B,H2,hs⟩:=H'.freezeE (k:=0) rfl
    obtain ⟨n1,H3,a1,b1⟩:=H2.joinE (i:=0) (j:=k1+1) rfl (by simpa using hk1)
    obtain ⟨n2,H4,a2,b2⟩:=H3.joinE (i:=0) (j:=k2+2) rfl (by simpa using hk2)
    have hr:RepR (α:=List Int) n2.cells [r1,r2] [l1,l2]:=.cons (by rw [hr1]; exact ⟨_,rfl,(g1.mono b1).mono a2⟩)<|.cons (by rw [hr2]; exact ⟨_,rfl,g2.mono b2⟩)<|.nil
    have:=k u n2 w' ⟨H4.kp,H4.sep.sub (.cons_cons _ (.cons _ (.cons _ (List.Sublist.refl _))))⟩ (fun _=>unraw (α:=List Int) rfl ((hs.mono a1).mono a2) hr)
    rwa [gd_of e] at this
  · have:=k undef ⟨w,fun _=>False⟩ w (H.push (c:=cRo ⟨w,fun _=>False⟩) (Ext.refl w) ⟨Nat.le_refl _,fun _ h=>h.elim⟩ (fun _ h=>h.1.elim)) (fun h=>by rw [e] at h; cases h)
    rwa [gd_no e] at this
/-- Rows that are none, under a guard. -/
theorem t_gmkL {x y:Operand} (T:SlT P t e (Elt.sz (Raw 0)) by' z) (hz:z.cells=[Value.slice none 0 0].toArray) {j:Nat} {want:Bool} (c:Bool) (hy:(yieldedE all σ j==some want)=c) {n:Int} (H:St w0 w L R)
    (hx:c=true->ev σ x = .int .i64 n) (hm:c=true->ev σ y = .int .i64 n) (h0:c=true->0<=n) (hn:c=true->(by':Int)*n<=281474976710656) (h63:c=true->n<=9223372036854775807)
    (k:∀ u B w',St w0 w' (cRo B :: L) R->(c=true->Sl B.cells u (List.replicate n.toNat ([]:List Int)))->SL P all Q rest (upd σ d (gd c u)) w'):SL P all Q (⟨some d,.makeSlice t x y,ty,pos,af,some (j,want)⟩ :: rest) σ w:=by
  refine g_split rfl c hy (fun e=>?_) (fun e=>?_)
  · obtain ⟨r,hr⟩:∃ r:Raw 0,r.cs=[Value.slice none 0 0]:=⟨Raw.of [Value.slice none 0 0] rfl rfl,rfl⟩
    refine t_mk (α:=Raw 0) T r (by rw [show (Flat.enc r:List Value)=r.cs from rfl,hr]; exact hz) H (hx e) (hm e) (h0 e) (hn e) (h63 e) fun u w' H'=>?_
    obtain ⟨B,H2,hs⟩:=H'.freezeE (k:=0) rfl
    have:=k u B w' H2 (fun _=>unraw (α:=List Int) rfl hs (repR_rep (by rw [hr]; exact ⟨_,rfl,Sl.nil _⟩) _))
    rwa [gd_of e] at this
  · have:=k undef ⟨w,fun _=>False⟩ w (H.push (c:=cRo ⟨w,fun _=>False⟩) (Ext.refl w) ⟨Nat.le_refl _,fun _ h=>h.elim⟩ (fun _ h=>h.1.elim)) (fun h=>by rw [e] at h; cases h)
    rwa [gd_no e] at this
end
end Go.Nm
namespace Go.Nm
open Go
section
variable {P:Program} {w:World} {σ:Env} {d:Nat} {ty:TypeId} {pos:String} {af:Array Edge} {g:Option (Nat × Bool)}
theorem x_pand0 {c x y:Operand} {b:Bool} (hc:ev σ c = .bool b) (hx:b=true->ev σ x = .bool false) (hy:ev σ y = .bool false) :
    (execOp (ev σ) ⟨some d,.pick c x y,ty,pos,af,g⟩).run P w = .ok (.value (.bool false)) w:=by
  have:=x_pand (P:=P) (w:=w) (d:=d) (ty:=ty) (pos:=pos) (af:=af) (g:=g) hc hx hy
  rwa [Bool.and_false] at this
end
end Go.Nm
namespace Go.Nm
open Go
instance {x:Note}:EncL x [I x.work,I x.version,I x.value]:=⟨rfl⟩
instance {x:Pub}:EncL x [I x.work,I x.value]:=⟨rfl⟩
instance:FldC Work 1 default (fun x=>I x.base):=⟨fun hs h1=>by have:=Work_at1 hs (i:=(_:Nat)) (Int.natCast_nonneg _) (Int.ofNat_lt.2 h1); exact this⟩
instance:FldC Work 2 default (fun x=>I x.minutes):=⟨fun hs h1=>by have:=Work_at2 hs (i:=(_:Nat)) (Int.natCast_nonneg _) (Int.ofNat_lt.2 h1); exact this⟩
end Go.Nm
namespace Go.Proofs.YtkclldpnmolljaaGreat
open Go Go.Nm
theorem cf4:CF Tryz.prog 4:=⟨_,Tryz.func4,rfl,by decide +kernel⟩
theorem cf5:CF Tryz.prog 5:=⟨_,Tryz.func5,rfl,by decide +kernel⟩
theorem cf6:CF Tryz.prog 6:=⟨_,Tryz.func6,rfl,by decide +kernel⟩
theorem cf7:CF Tryz.prog 7:=⟨_,Tryz.func7,rfl,by decide +kernel⟩
theorem cf8:CF Tryz.prog 8:=⟨_,Tryz.func8,rfl,by decide +kernel⟩
theorem cf9:CF Tryz.prog 9:=⟨_,Tryz.func9,rfl,by decide +kernel⟩
theorem cf10:CF Tryz.prog 10:=⟨_,Tryz.func10,rfl,by decide +kernel⟩
theorem cf11:CF Tryz.prog 11:=⟨_,Tryz.func11,rfl,by decide +kernel⟩
theorem cf12:CF Tryz.prog 12:=⟨_,Tryz.func12,rfl,by decide +kernel⟩
theorem cf13:CF Tryz.prog 13:=⟨_,Tryz.func13,rfl,by decide +kernel⟩
theorem cf14:CF Tryz.prog 14:=⟨_,Tryz.func14,rfl,by decide +kernel⟩
theorem cf15:CF Tryz.prog 15:=⟨_,Tryz.func15,rfl,by decide +kernel⟩
theorem cf16:CF Tryz.prog 16:=⟨_,Tryz.func16,rfl,by decide +kernel⟩
theorem cf17:CF Tryz.prog 17:=⟨_,Tryz.func17,rfl,by decide +kernel⟩
theorem cf18:CF Tryz.prog 18:=⟨_,Tryz.func18,rfl,by decide +kernel⟩
theorem cf19:CF Tryz.prog 19:=⟨_,Tryz.func19,rfl,by decide +kernel⟩
theorem cf20:CF Tryz.prog 20:=⟨_,Tryz.func20,rfl,by decide +kernel⟩
theorem cf21:CF Tryz.prog 21:=⟨_,Tryz.func21,rfl,by decide +kernel⟩
theorem cf22:CF Tryz.prog 22:=⟨_,Tryz.func22,rfl,by decide +kernel⟩
theorem cf23:CF Tryz.prog 23:=⟨_,Tryz.func23,rfl,by decide +kernel⟩
theorem cf24:CF Tryz.prog 24:=⟨_,Tryz.func24,rfl,by decide +kernel⟩
theorem cf25:CF Tryz.prog 25:=⟨_,Tryz.func25,rfl,by decide +kernel⟩
theorem cf26:CF Tryz.prog 26:=⟨_,Tryz.func26,rfl,by decide +kernel⟩
theorem cf27:CF Tryz.prog 27:=⟨_,Tryz.func27,rfl,by decide +kernel⟩
theorem cf28:CF Tryz.prog 28:=⟨_,Tryz.func28,rfl,by decide +kernel⟩
theorem cf29:CF Tryz.prog 29:=⟨_,Tryz.func29,rfl,by decide +kernel⟩
theorem cf30:CF Tryz.prog 30:=⟨_,Tryz.func30,rfl,by decide +kernel⟩
theorem cf31:CF Tryz.prog 31:=⟨_,Tryz.func31,rfl,by decide +kernel⟩
theorem cf32:CF Tryz.prog 32:=⟨_,Tryz.func32,rfl,by decide +kernel⟩
theorem cf33:CF Tryz.prog 33:=⟨_,Tryz.func33,rfl,by decide +kernel⟩
theorem cf34:CF Tryz.prog 34:=⟨_,Tryz.func34,rfl,by decide +kernel⟩
theorem cf35:CF Tryz.prog 35:=⟨_,Tryz.func35,rfl,by decide +kernel⟩
theorem cf36:CF Tryz.prog 36:=⟨_,Tryz.func36,rfl,by decide +kernel⟩
theorem cf37:CF Tryz.prog 37:=⟨_,Tryz.func37,rfl,by decide +kernel⟩
theorem cf38:CF Tryz.prog 38:=⟨_,Tryz.func38,rfl,by decide +kernel⟩
theorem cf39:CF Tryz.prog 39:=⟨_,Tryz.func39,rfl,by decide +kernel⟩
theorem cf40:CF Tryz.prog 40:=⟨_,Tryz.func40,rfl,by decide +kernel⟩
theorem cf41:CF Tryz.prog 41:=⟨_,Tryz.func41,rfl,by decide +kernel⟩
theorem cf42:CF Tryz.prog 42:=⟨_,Tryz.func42,rfl,by decide +kernel⟩
theorem cf43:CF Tryz.prog 43:=⟨_,Tryz.func43,rfl,by decide +kernel⟩
theorem cf44:CF Tryz.prog 44:=⟨_,Tryz.func44,rfl,by decide +kernel⟩
theorem cf45:CF Tryz.prog 45:=⟨_,Tryz.func45,rfl,by decide +kernel⟩
theorem cf46:CF Tryz.prog 46:=⟨_,Tryz.func46,rfl,by decide +kernel⟩
theorem cf47:CF Tryz.prog 47:=⟨_,Tryz.func47,rfl,by decide +kernel⟩
theorem cf48:CF Tryz.prog 48:=⟨_,Tryz.func48,rfl,by decide +kernel⟩
theorem cf49:CF Tryz.prog 49:=⟨_,Tryz.func49,rfl,by decide +kernel⟩
theorem cf50:CF Tryz.prog 50:=⟨_,Tryz.func50,rfl,by decide +kernel⟩
theorem cf51:CF Tryz.prog 51:=⟨_,Tryz.func51,rfl,by decide +kernel⟩
theorem cf52:CF Tryz.prog 52:=⟨_,Tryz.func52,rfl,by decide +kernel⟩
theorem cf53:CF Tryz.prog 53:=⟨_,Tryz.func53,rfl,by decide +kernel⟩
theorem cf54:CF Tryz.prog 54:=⟨_,Tryz.func54,rfl,by decide +kernel⟩
theorem cf55:CF Tryz.prog 55:=⟨_,Tryz.func55,rfl,by decide +kernel⟩
theorem cf56:CF Tryz.prog 56:=⟨_,Tryz.func56,rfl,by decide +kernel⟩
theorem cf57:CF Tryz.prog 57:=⟨_,Tryz.func57,rfl,by decide +kernel⟩
theorem cf58:CF Tryz.prog 58:=⟨_,Tryz.func58,rfl,by decide +kernel⟩
theorem cf59:CF Tryz.prog 59:=⟨_,Tryz.func59,rfl,by decide +kernel⟩
theorem cf60:CF Tryz.prog 60:=⟨_,Tryz.func60,rfl,by decide +kernel⟩
theorem cf61:CF Tryz.prog 61:=⟨_,Tryz.func61,rfl,by decide +kernel⟩
theorem cf62:CF Tryz.prog 62:=⟨_,Tryz.func62,rfl,by decide +kernel⟩
theorem cf63:CF Tryz.prog 63:=⟨_,Tryz.func63,rfl,by decide +kernel⟩
theorem cf64:CF Tryz.prog 64:=⟨_,Tryz.func64,rfl,by decide +kernel⟩
theorem cf65:CF Tryz.prog 65:=⟨_,Tryz.func65,rfl,by decide +kernel⟩
theorem cf66:CF Tryz.prog 66:=⟨_,Tryz.func66,rfl,by decide +kernel⟩
theorem cf67:CF Tryz.prog 67:=⟨_,Tryz.func67,rfl,by decide +kernel⟩
theorem cf68:CF Tryz.prog 68:=⟨_,Tryz.func68,rfl,by decide +kernel⟩
theorem cf69:CF Tryz.prog 69:=⟨_,Tryz.func69,rfl,by decide +kernel⟩
theorem cf70:CF Tryz.prog 70:=⟨_,Tryz.func70,rfl,by decide +kernel⟩
theorem cf71:CF Tryz.prog 71:=⟨_,Tryz.func71,rfl,by decide +kernel⟩
theorem cf72:CF Tryz.prog 72:=⟨_,Tryz.func72,rfl,by decide +kernel⟩
theorem cf73:CF Tryz.prog 73:=⟨_,Tryz.func73,rfl,by decide +kernel⟩
theorem cf74:CF Tryz.prog 74:=⟨_,Tryz.func74,rfl,by decide +kernel⟩
theorem cf75:CF Tryz.prog 75:=⟨_,Tryz.func75,rfl,by decide +kernel⟩
theorem cf76:CF Tryz.prog 76:=⟨_,Tryz.func76,rfl,by decide +kernel⟩
theorem cf77:CF Tryz.prog 77:=⟨_,Tryz.func77,rfl,by decide +kernel⟩
theorem cf78:CF Tryz.prog 78:=⟨_,Tryz.func78,rfl,by decide +kernel⟩
theorem cf79:CF Tryz.prog 79:=⟨_,Tryz.func79,rfl,by decide +kernel⟩
theorem cf80:CF Tryz.prog 80:=⟨_,Tryz.func80,rfl,by decide +kernel⟩
theorem cf81:CF Tryz.prog 81:=⟨_,Tryz.func81,rfl,by decide +kernel⟩
theorem cf82:CF Tryz.prog 82:=⟨_,Tryz.func82,rfl,by decide +kernel⟩
theorem cf83:CF Tryz.prog 83:=⟨_,Tryz.func83,rfl,by decide +kernel⟩
theorem cf84:CF Tryz.prog 84:=⟨_,Tryz.func84,rfl,by decide +kernel⟩
theorem cf85:CF Tryz.prog 85:=⟨_,Tryz.func85,rfl,by decide +kernel⟩
theorem cf86:CF Tryz.prog 86:=⟨_,Tryz.func86,rfl,by decide +kernel⟩
theorem cf87:CF Tryz.prog 87:=⟨_,Tryz.func87,rfl,by decide +kernel⟩
theorem cf88:CF Tryz.prog 88:=⟨_,Tryz.func88,rfl,by decide +kernel⟩
theorem cf89:CF Tryz.prog 89:=⟨_,Tryz.func89,rfl,by decide +kernel⟩
theorem cf90:CF Tryz.prog 90:=⟨_,Tryz.func90,rfl,by decide +kernel⟩
theorem cf91:CF Tryz.prog 91:=⟨_,Tryz.func91,rfl,by decide +kernel⟩
theorem cf92:CF Tryz.prog 92:=⟨_,Tryz.func92,rfl,by decide +kernel⟩
theorem cf93:CF Tryz.prog 93:=⟨_,Tryz.func93,rfl,by decide +kernel⟩
theorem cf94:CF Tryz.prog 94:=⟨_,Tryz.func94,rfl,by decide +kernel⟩
theorem cf95:CF Tryz.prog 95:=⟨_,Tryz.func95,rfl,by decide +kernel⟩
theorem cf96:CF Tryz.prog 96:=⟨_,Tryz.func96,rfl,by decide +kernel⟩
theorem cf97:CF Tryz.prog 97:=⟨_,Tryz.func97,rfl,by decide +kernel⟩
theorem cf98:CF Tryz.prog 98:=⟨_,Tryz.func98,rfl,by decide +kernel⟩
theorem cf99:CF Tryz.prog 99:=⟨_,Tryz.func99,rfl,by decide +kernel⟩
theorem cf100:CF Tryz.prog 100:=⟨_,Tryz.func100,rfl,by decide +kernel⟩
theorem cf101:CF Tryz.prog 101:=⟨_,Tryz.func101,rfl,by decide +kernel⟩
theorem cf102:CF Tryz.prog 102:=⟨_,Tryz.func102,rfl,by decide +kernel⟩
theorem cf103:CF Tryz.prog 103:=⟨_,Tryz.func103,rfl,by decide +kernel⟩
theorem cf104:CF Tryz.prog 104:=⟨_,Tryz.func104,rfl,by decide +kernel⟩
theorem cf105:CF Tryz.prog 105:=⟨_,Tryz.func105,rfl,by decide +kernel⟩
theorem cf106:CF Tryz.prog 106:=⟨_,Tryz.func106,rfl,by decide +kernel⟩
theorem cf107:CF Tryz.prog 107:=⟨_,Tryz.func107,rfl,by decide +kernel⟩
theorem cf108:CF Tryz.prog 108:=⟨_,Tryz.func108,rfl,by decide +kernel⟩
theorem cf109:CF Tryz.prog 109:=⟨_,Tryz.func109,rfl,by decide +kernel⟩
theorem cf110:CF Tryz.prog 110:=⟨_,Tryz.func110,rfl,by decide +kernel⟩
theorem cf111:CF Tryz.prog 111:=⟨_,Tryz.func111,rfl,by decide +kernel⟩
theorem cf112:CF Tryz.prog 112:=⟨_,Tryz.func112,rfl,by decide +kernel⟩
theorem cf114:CF Tryz.prog 114:=⟨_,Tryz.func114,rfl,by decide +kernel⟩
theorem cf115:CF Tryz.prog 115:=⟨_,Tryz.func115,rfl,by decide +kernel⟩
theorem cf116:CF Tryz.prog 116:=⟨_,Tryz.func116,rfl,by decide +kernel⟩
theorem cf117:CF Tryz.prog 117:=⟨_,Tryz.func117,rfl,by decide +kernel⟩
theorem cf118:CF Tryz.prog 118:=⟨_,Tryz.func118,rfl,by decide +kernel⟩
theorem cf119:CF Tryz.prog 119:=⟨_,Tryz.func119,rfl,by decide +kernel⟩
theorem cf120:CF Tryz.prog 120:=⟨_,Tryz.func120,rfl,by decide +kernel⟩
theorem cf121:CF Tryz.prog 121:=⟨_,Tryz.func121,rfl,by decide +kernel⟩
theorem cf122:CF Tryz.prog 122:=⟨_,Tryz.func122,rfl,by decide +kernel⟩
theorem cf123:CF Tryz.prog 123:=⟨_,Tryz.func123,rfl,by decide +kernel⟩
theorem cf124:CF Tryz.prog 124:=⟨_,Tryz.func124,rfl,by decide +kernel⟩
theorem cf125:CF Tryz.prog 125:=⟨_,Tryz.func125,rfl,by decide +kernel⟩
theorem cf128:CF Tryz.prog 128:=⟨_,Tryz.func128,rfl,by decide +kernel⟩
theorem cf129:CF Tryz.prog 129:=⟨_,Tryz.func129,rfl,by decide +kernel⟩
theorem cf130:CF Tryz.prog 130:=⟨_,Tryz.func130,rfl,by decide +kernel⟩
theorem T22:SlT Tryz.prog 22 3 1 8 (I 0):=⟨Tryz.underlying22,by kernel_rfl,rfl,by decide⟩
theorem T23:SlT Tryz.prog 23 34 3 40 (.agg #[.slice none 0 0,I 0,I 0]):=⟨Tryz.underlying23,by kernel_rfl,rfl,by decide⟩
theorem T27:SlT Tryz.prog 27 26 3 24 (.agg #[I 0,I 0,I 0]):=⟨Tryz.underlying27,by kernel_rfl,rfl,by decide⟩
theorem T30:SlT Tryz.prog 30 29 2 16 (.agg #[I 0,I 0]):=⟨Tryz.underlying30,by kernel_rfl,rfl,by decide⟩
theorem T31:SlT Tryz.prog 31 22 1 24 (.slice none 0 0):=⟨Tryz.underlying31,by kernel_rfl,rfl,by decide⟩
theorem T35:SlT Tryz.prog 35 32 1 8 (.pointer none):=⟨Tryz.underlying35,by kernel_rfl,rfl,by decide⟩
theorem T47:SlT Tryz.prog 47 93 3 40 (.agg #[.slice none 0 0,I 0,I 0]):=⟨Tryz.underlying47,by kernel_rfl,rfl,by decide⟩
theorem T64:SlT Tryz.prog 64 116 3 24 (.agg #[I 0,I 0,I 0]):=⟨Tryz.underlying64,by kernel_rfl,rfl,by decide⟩
theorem T66:SlT Tryz.prog 66 67 2 16 (.agg #[I 0,I 0]):=⟨Tryz.underlying66,by kernel_rfl,rfl,by decide⟩
theorem T90:SlT Tryz.prog 90 92 1 24 (.slice none 0 0):=⟨Tryz.underlying90,by kernel_rfl,rfl,by decide⟩
theorem T92:SlT Tryz.prog 92 4 1 1 (B false):=⟨Tryz.underlying92,by kernel_rfl,rfl,by decide⟩
theorem Sc3:isSc (Tryz.prog.underlying 3)=true:=by rw [Tryz.underlying3]; rfl
theorem Sc4:isSc (Tryz.prog.underlying 4)=true:=by rw [Tryz.underlying4]; rfl
theorem Sc22:isSc (Tryz.prog.underlying 22)=true:=by rw [Tryz.underlying22]; rfl
theorem Sc23:isSc (Tryz.prog.underlying 23)=true:=by rw [Tryz.underlying23]; rfl
theorem Sc32:isSc (Tryz.prog.underlying 32)=true:=by rw [Tryz.underlying32]; rfl
theorem Sc40:isSc (Tryz.prog.underlying 40)=true:=by rw [Tryz.underlying40]; rfl
theorem Sc87:isSc (Tryz.prog.underlying 87)=true:=by rw [Tryz.underlying87]; rfl
theorem Sc92:isSc (Tryz.prog.underlying 92)=true:=by rw [Tryz.underlying92]; rfl
theorem Sc99:isSc (Tryz.prog.underlying 99)=true:=by rw [Tryz.underlying99]; rfl
theorem Sc103:isSc (Tryz.prog.underlying 103)=true:=by rw [Tryz.underlying103]; rfl
theorem Sc106:isSc (Tryz.prog.underlying 106)=true:=by rw [Tryz.underlying106]; rfl
theorem Sc108:isSc (Tryz.prog.underlying 108)=true:=by rw [Tryz.underlying108]; rfl
theorem Sc112:isSc (Tryz.prog.underlying 112)=true:=by rw [Tryz.underlying112]; rfl
theorem Sc118:isSc (Tryz.prog.underlying 118)=true:=by rw [Tryz.underlying118]; rfl
theorem Sc136:isSc (Tryz.prog.underlying 136)=true:=by rw [Tryz.underlying136]; rfl
theorem Sc139:isSc (Tryz.prog.underlying 139)=true:=by rw [Tryz.underlying139]; rfl
theorem Sc140:isSc (Tryz.prog.underlying 140)=true:=by rw [Tryz.underlying140]; rfl
theorem Sc145:isSc (Tryz.prog.underlying 145)=true:=by rw [Tryz.underlying145]; rfl
theorem Sc147:isSc (Tryz.prog.underlying 147)=true:=by rw [Tryz.underlying147]; rfl
theorem Sz3:(Tryz.prog.info? 3).map (·.size)=some 1:=by kernel_rfl
theorem Sz4:(Tryz.prog.info? 4).map (·.size)=some 1:=by kernel_rfl
theorem Sz22:(Tryz.prog.info? 22).map (·.size)=some 1:=by kernel_rfl
theorem Sz23:(Tryz.prog.info? 23).map (·.size)=some 1:=by kernel_rfl
theorem Ag26:isAg (Tryz.prog.underlying 26)=true:=by rw [Tryz.underlying26]; rfl
theorem Sz26:(Tryz.prog.info? 26).map (·.size)=some 3:=by kernel_rfl
theorem Ag29:isAg (Tryz.prog.underlying 29)=true:=by rw [Tryz.underlying29]; rfl
theorem Sz29:(Tryz.prog.info? 29).map (·.size)=some 2:=by kernel_rfl
theorem Ag34:isAg (Tryz.prog.underlying 34)=true:=by rw [Tryz.underlying34]; rfl
theorem Sz34:(Tryz.prog.info? 34).map (·.size)=some 3:=by kernel_rfl
theorem Sz40:(Tryz.prog.info? 40).map (·.size)=some 1:=by kernel_rfl
theorem Sz87:(Tryz.prog.info? 87).map (·.size)=some 1:=by kernel_rfl
theorem Ag95:isAg (Tryz.prog.underlying 95)=true:=by rw [Tryz.underlying95]; rfl
theorem Sz95:(Tryz.prog.info? 95).map (·.size)=some 1:=by kernel_rfl
theorem Sz99:(Tryz.prog.info? 99).map (·.size)=some 1:=by kernel_rfl
theorem Sz103:(Tryz.prog.info? 103).map (·.size)=some 1:=by kernel_rfl
theorem Sz108:(Tryz.prog.info? 108).map (·.size)=some 1:=by kernel_rfl
theorem Ag119:isAg (Tryz.prog.underlying 119)=true:=by rw [Tryz.underlying119]; rfl
theorem Sz119:(Tryz.prog.info? 119).map (·.size)=some 30:=by kernel_rfl
theorem Sz136:(Tryz.prog.info? 136).map (·.size)=some 1:=by kernel_rfl
theorem Sz139:(Tryz.prog.info? 139).map (·.size)=some 1:=by kernel_rfl
theorem Sz140:(Tryz.prog.info? 140).map (·.size)=some 1:=by kernel_rfl
theorem Sz145:(Tryz.prog.info? 145).map (·.size)=some 1:=by kernel_rfl
theorem Fd26_0:(Tryz.prog.underlying 26).bind (fun d=>match d with | .struct fs=>(fs[0]?).map (fun f=>(f.offset,f.type)) | _=>none)=some (0,3):=by rw [Tryz.underlying26]; rfl
theorem Fd26_1:(Tryz.prog.underlying 26).bind (fun d=>match d with | .struct fs=>(fs[1]?).map (fun f=>(f.offset,f.type)) | _=>none)=some (1,3):=by rw [Tryz.underlying26]; rfl
theorem Fd26_2:(Tryz.prog.underlying 26).bind (fun d=>match d with | .struct fs=>(fs[2]?).map (fun f=>(f.offset,f.type)) | _=>none)=some (2,3):=by rw [Tryz.underlying26]; rfl
theorem Fd29_0:(Tryz.prog.underlying 29).bind (fun d=>match d with | .struct fs=>(fs[0]?).map (fun f=>(f.offset,f.type)) | _=>none)=some (0,3):=by rw [Tryz.underlying29]; rfl
theorem Fd29_1:(Tryz.prog.underlying 29).bind (fun d=>match d with | .struct fs=>(fs[1]?).map (fun f=>(f.offset,f.type)) | _=>none)=some (1,3):=by rw [Tryz.underlying29]; rfl
theorem Fd34_0:(Tryz.prog.underlying 34).bind (fun d=>match d with | .struct fs=>(fs[0]?).map (fun f=>(f.offset,f.type)) | _=>none)=some (0,22):=by rw [Tryz.underlying34]; rfl
theorem Fd34_1:(Tryz.prog.underlying 34).bind (fun d=>match d with | .struct fs=>(fs[1]?).map (fun f=>(f.offset,f.type)) | _=>none)=some (1,3):=by rw [Tryz.underlying34]; rfl
theorem Fd34_2:(Tryz.prog.underlying 34).bind (fun d=>match d with | .struct fs=>(fs[2]?).map (fun f=>(f.offset,f.type)) | _=>none)=some (2,3):=by rw [Tryz.underlying34]; rfl
theorem Fd67_0:(Tryz.prog.underlying 67).bind (fun d=>match d with | .struct fs=>(fs[0]?).map (fun f=>(f.offset,f.type)) | _=>none)=some (0,3):=by rw [Tryz.underlying67]; rfl
theorem Fd67_1:(Tryz.prog.underlying 67).bind (fun d=>match d with | .struct fs=>(fs[1]?).map (fun f=>(f.offset,f.type)) | _=>none)=some (1,3):=by rw [Tryz.underlying67]; rfl
theorem Fd93_0:(Tryz.prog.underlying 93).bind (fun d=>match d with | .struct fs=>(fs[0]?).map (fun f=>(f.offset,f.type)) | _=>none)=some (0,22):=by rw [Tryz.underlying93]; rfl
theorem Fd93_1:(Tryz.prog.underlying 93).bind (fun d=>match d with | .struct fs=>(fs[1]?).map (fun f=>(f.offset,f.type)) | _=>none)=some (1,3):=by rw [Tryz.underlying93]; rfl
theorem Fd93_2:(Tryz.prog.underlying 93).bind (fun d=>match d with | .struct fs=>(fs[2]?).map (fun f=>(f.offset,f.type)) | _=>none)=some (2,3):=by rw [Tryz.underlying93]; rfl
theorem Fd95_0:(Tryz.prog.underlying 95).bind (fun d=>match d with | .struct fs=>(fs[0]?).map (fun f=>(f.offset,f.type)) | _=>none)=some (0,23):=by rw [Tryz.underlying95]; rfl
theorem Fd97_0:(Tryz.prog.underlying 97).bind (fun d=>match d with | .struct fs=>(fs[0]?).map (fun f=>(f.offset,f.type)) | _=>none)=some (0,95):=by rw [Tryz.underlying97]; rfl
theorem Fd116_0:(Tryz.prog.underlying 116).bind (fun d=>match d with | .struct fs=>(fs[0]?).map (fun f=>(f.offset,f.type)) | _=>none)=some (0,3):=by rw [Tryz.underlying116]; rfl
theorem Fd116_1:(Tryz.prog.underlying 116).bind (fun d=>match d with | .struct fs=>(fs[1]?).map (fun f=>(f.offset,f.type)) | _=>none)=some (1,3):=by rw [Tryz.underlying116]; rfl
theorem Fd116_2:(Tryz.prog.underlying 116).bind (fun d=>match d with | .struct fs=>(fs[2]?).map (fun f=>(f.offset,f.type)) | _=>none)=some (2,3):=by rw [Tryz.underlying116]; rfl
theorem Fd142_0:(Tryz.prog.underlying 142).bind (fun d=>match d with | .struct fs=>(fs[0]?).map (fun f=>(f.offset,f.type)) | _=>none)=some (0,87):=by rw [Tryz.underlying142]; rfl
theorem Fd142_1:(Tryz.prog.underlying 142).bind (fun d=>match d with | .struct fs=>(fs[1]?).map (fun f=>(f.offset,f.type)) | _=>none)=some (1,22):=by rw [Tryz.underlying142]; rfl
theorem Fd142_2:(Tryz.prog.underlying 142).bind (fun d=>match d with | .struct fs=>(fs[2]?).map (fun f=>(f.offset,f.type)) | _=>none)=some (2,3):=by rw [Tryz.underlying142]; rfl
theorem Fd142_3:(Tryz.prog.underlying 142).bind (fun d=>match d with | .struct fs=>(fs[3]?).map (fun f=>(f.offset,f.type)) | _=>none)=some (3,139):=by rw [Tryz.underlying142]; rfl
theorem Fd142_4:(Tryz.prog.underlying 142).bind (fun d=>match d with | .struct fs=>(fs[4]?).map (fun f=>(f.offset,f.type)) | _=>none)=some (4,140):=by rw [Tryz.underlying142]; rfl
theorem Fd149_0:(Tryz.prog.underlying 149).bind (fun d=>match d with | .struct fs=>(fs[0]?).map (fun f=>(f.offset,f.type)) | _=>none)=some (0,87):=by rw [Tryz.underlying149]; rfl
theorem Fd149_1:(Tryz.prog.underlying 149).bind (fun d=>match d with | .struct fs=>(fs[1]?).map (fun f=>(f.offset,f.type)) | _=>none)=some (1,103):=by rw [Tryz.underlying149]; rfl
theorem Fd149_2:(Tryz.prog.underlying 149).bind (fun d=>match d with | .struct fs=>(fs[2]?).map (fun f=>(f.offset,f.type)) | _=>none)=some (2,140):=by rw [Tryz.underlying149]; rfl
theorem Al3:(Tryz.prog.info? 3).map (·.zero)=some (some (I 0)):=by kernel_rfl
theorem Al4:(Tryz.prog.info? 4).map (·.zero)=some (some (B false)):=by kernel_rfl
theorem Al22:(Tryz.prog.info? 22).map (·.zero)=some (some (.slice none 0 0)):=by kernel_rfl
theorem Al26:(Tryz.prog.info? 26).map (·.zero)=some (some (.agg #[I 0,I 0,I 0])):=by kernel_rfl
theorem Al29:(Tryz.prog.info? 29).map (·.zero)=some (some (.agg #[I 0,I 0])):=by kernel_rfl
theorem Al34:(Tryz.prog.info? 34).map (·.zero)=some (some (.agg #[.slice none 0 0,I 0,I 0])):=by kernel_rfl
theorem Al40:(Tryz.prog.info? 40).map (·.zero)=some (some (I 0)):=by kernel_rfl
theorem Al87:(Tryz.prog.info? 87).map (·.zero)=some (some (.pointer none)):=by kernel_rfl
theorem Al93:(Tryz.prog.info? 93).map (·.zero)=some (some (.agg #[.slice none 0 0,I 0,I 0])):=by kernel_rfl
theorem Al95:(Tryz.prog.info? 95).map (·.zero)=some (some (.agg #[.slice none 0 0])):=by kernel_rfl
theorem Al97:(Tryz.prog.info? 97).map (·.zero)=some (some (.agg #[.slice none 0 0])):=by kernel_rfl
theorem Al99:(Tryz.prog.info? 99).map (·.zero)=some (some (.nilFunc)):=by kernel_rfl
theorem Al103:(Tryz.prog.info? 103).map (·.zero)=some (some (.nilFunc)):=by kernel_rfl
theorem Al108:(Tryz.prog.info? 108).map (·.zero)=some (some (.pointer none)):=by kernel_rfl
theorem Al119:(Tryz.prog.info? 119).map (·.zero)=some (some (.agg #[B false,B false,B false,B false,B false,B false,B false,B false,B false,B false,B false,B false,B false,B false,B false,B false,B false,B false,B false,B false,B false,B false,B false,B false,B false,B false,B false,B false,B false,B false])):=by kernel_rfl
theorem Al136:(Tryz.prog.info? 136).map (·.zero)=some (some (.pointer none)):=by kernel_rfl
theorem Al142:(Tryz.prog.info? 142).map (·.zero)=some (some (.agg #[.pointer none,.slice none 0 0,I 0,.map none,.map none])):=by kernel_rfl
theorem Al144:(Tryz.prog.info? 144).map (·.zero)=some (some (.agg #[I 0,I 0])):=by kernel_rfl
theorem Al145:(Tryz.prog.info? 145).map (·.zero)=some (some (.nilFunc)):=by kernel_rfl
theorem Al149:(Tryz.prog.info? 149).map (·.zero)=some (some (.agg #[.pointer none,.nilFunc,.map none])):=by kernel_rfl
theorem Bd26 {fs:Array Field} (h:Tryz.prog.underlying 26=some (.struct fs)):fs.toList.mapM (fun f=>(Tryz.prog.info? f.type).map fun i=>(f.offset,i.size))=some [(0,1),(1,1),(2,1)]:=by rw [Tryz.underlying26] at h; simp only [Option.some.injEq,TypeDesc.struct.injEq] at h; subst h; kernel_rfl
theorem Bd29 {fs:Array Field} (h:Tryz.prog.underlying 29=some (.struct fs)):fs.toList.mapM (fun f=>(Tryz.prog.info? f.type).map fun i=>(f.offset,i.size))=some [(0,1),(1,1)]:=by rw [Tryz.underlying29] at h; simp only [Option.some.injEq,TypeDesc.struct.injEq] at h; subst h; kernel_rfl
theorem Bd34 {fs:Array Field} (h:Tryz.prog.underlying 34=some (.struct fs)):fs.toList.mapM (fun f=>(Tryz.prog.info? f.type).map fun i=>(f.offset,i.size))=some [(0,1),(1,1),(2,1)]:=by rw [Tryz.underlying34] at h; simp only [Option.some.injEq,TypeDesc.struct.injEq] at h; subst h; kernel_rfl
theorem Bd93 {fs:Array Field} (h:Tryz.prog.underlying 93=some (.struct fs)):fs.toList.mapM (fun f=>(Tryz.prog.info? f.type).map fun i=>(f.offset,i.size))=some [(0,1),(1,1),(2,1)]:=by rw [Tryz.underlying93] at h; simp only [Option.some.injEq,TypeDesc.struct.injEq] at h; subst h; kernel_rfl
theorem Bd95 {fs:Array Field} (h:Tryz.prog.underlying 95=some (.struct fs)):fs.toList.mapM (fun f=>(Tryz.prog.info? f.type).map fun i=>(f.offset,i.size))=some [(0,1)]:=by rw [Tryz.underlying95] at h; simp only [Option.some.injEq,TypeDesc.struct.injEq] at h; subst h; kernel_rfl
theorem Bd97 {fs:Array Field} (h:Tryz.prog.underlying 97=some (.struct fs)):fs.toList.mapM (fun f=>(Tryz.prog.info? f.type).map fun i=>(f.offset,i.size))=some [(0,1)]:=by rw [Tryz.underlying97] at h; simp only [Option.some.injEq,TypeDesc.struct.injEq] at h; subst h; kernel_rfl
theorem Bd142 {fs:Array Field} (h:Tryz.prog.underlying 142=some (.struct fs)):fs.toList.mapM (fun f=>(Tryz.prog.info? f.type).map fun i=>(f.offset,i.size))=some [(0,1),(1,1),(2,1),(3,1),(4,1)]:=by rw [Tryz.underlying142] at h; simp only [Option.some.injEq,TypeDesc.struct.injEq] at h; subst h; kernel_rfl
theorem Bd144 {fs:Array Field} (h:Tryz.prog.underlying 144=some (.struct fs)):fs.toList.mapM (fun f=>(Tryz.prog.info? f.type).map fun i=>(f.offset,i.size))=some [(0,1),(1,1)]:=by rw [Tryz.underlying144] at h; simp only [Option.some.injEq,TypeDesc.struct.injEq] at h; subst h; kernel_rfl
theorem Bd149 {fs:Array Field} (h:Tryz.prog.underlying 149=some (.struct fs)):fs.toList.mapM (fun f=>(Tryz.prog.info? f.type).map fun i=>(f.offset,i.size))=some [(0,1),(1,1),(2,1)]:=by rw [Tryz.underlying149] at h; simp only [Option.some.injEq,TypeDesc.struct.injEq] at h; subst h; kernel_rfl
theorem mixed:Tryz.prog.follows .mixedOrders=true:=by kernel_rfl

instance:TlC Tryz.prog 22 3 1 8 (I 0):=⟨T22⟩
instance:TlC Tryz.prog 23 34 3 40 (.agg #[.slice none 0 0,I 0,I 0]):=⟨T23⟩
instance:TlC Tryz.prog 27 26 3 24 (.agg #[I 0,I 0,I 0]):=⟨T27⟩
instance:TlC Tryz.prog 30 29 2 16 (.agg #[I 0,I 0]):=⟨T30⟩
instance:TlC Tryz.prog 31 22 1 24 (.slice none 0 0):=⟨T31⟩
instance:TlC Tryz.prog 35 32 1 8 (.pointer none):=⟨T35⟩
instance:TlC Tryz.prog 47 93 3 40 (.agg #[.slice none 0 0,I 0,I 0]):=⟨T47⟩
instance:TlC Tryz.prog 64 116 3 24 (.agg #[I 0,I 0,I 0]):=⟨T64⟩
instance:TlC Tryz.prog 66 67 2 16 (.agg #[I 0,I 0]):=⟨T66⟩
instance:TlC Tryz.prog 90 92 1 24 (.slice none 0 0):=⟨T90⟩
instance:TlC Tryz.prog 92 4 1 1 (B false):=⟨T92⟩
instance:ScC Tryz.prog 3:=⟨Sc3⟩
instance:ScC Tryz.prog 4:=⟨Sc4⟩
instance:ScC Tryz.prog 22:=⟨Sc22⟩
instance:ScC Tryz.prog 23:=⟨Sc23⟩
instance:ScC Tryz.prog 32:=⟨Sc32⟩
instance:ScC Tryz.prog 40:=⟨Sc40⟩
instance:ScC Tryz.prog 87:=⟨Sc87⟩
instance:ScC Tryz.prog 92:=⟨Sc92⟩
instance:ScC Tryz.prog 99:=⟨Sc99⟩
instance:ScC Tryz.prog 103:=⟨Sc103⟩
instance:ScC Tryz.prog 106:=⟨Sc106⟩
instance:ScC Tryz.prog 108:=⟨Sc108⟩
instance:ScC Tryz.prog 112:=⟨Sc112⟩
instance:ScC Tryz.prog 118:=⟨Sc118⟩
instance:ScC Tryz.prog 136:=⟨Sc136⟩
instance:ScC Tryz.prog 139:=⟨Sc139⟩
instance:ScC Tryz.prog 140:=⟨Sc140⟩
instance:ScC Tryz.prog 145:=⟨Sc145⟩
instance:ScC Tryz.prog 147:=⟨Sc147⟩
instance:SzC Tryz.prog 3 1:=⟨Sz3⟩
instance:SzC Tryz.prog 4 1:=⟨Sz4⟩
instance:SzC Tryz.prog 22 1:=⟨Sz22⟩
instance:SzC Tryz.prog 23 1:=⟨Sz23⟩
instance:AgC Tryz.prog 26:=⟨Ag26⟩
instance:SzC Tryz.prog 26 3:=⟨Sz26⟩
instance:AgC Tryz.prog 29:=⟨Ag29⟩
instance:SzC Tryz.prog 29 2:=⟨Sz29⟩
instance:AgC Tryz.prog 34:=⟨Ag34⟩
instance:SzC Tryz.prog 34 3:=⟨Sz34⟩
instance:SzC Tryz.prog 40 1:=⟨Sz40⟩
instance:SzC Tryz.prog 87 1:=⟨Sz87⟩
instance:AgC Tryz.prog 95:=⟨Ag95⟩
instance:SzC Tryz.prog 95 1:=⟨Sz95⟩
instance:SzC Tryz.prog 99 1:=⟨Sz99⟩
instance:SzC Tryz.prog 103 1:=⟨Sz103⟩
instance:SzC Tryz.prog 108 1:=⟨Sz108⟩
instance:AgC Tryz.prog 119:=⟨Ag119⟩
instance:SzC Tryz.prog 119 30:=⟨Sz119⟩
instance:SzC Tryz.prog 136 1:=⟨Sz136⟩
instance:SzC Tryz.prog 139 1:=⟨Sz139⟩
instance:SzC Tryz.prog 140 1:=⟨Sz140⟩
instance:SzC Tryz.prog 145 1:=⟨Sz145⟩
instance:FdC Tryz.prog 26 0 0 3:=⟨Fd26_0⟩
instance:FdC Tryz.prog 26 1 1 3:=⟨Fd26_1⟩
instance:FdC Tryz.prog 26 2 2 3:=⟨Fd26_2⟩
instance:FdC Tryz.prog 29 0 0 3:=⟨Fd29_0⟩
instance:FdC Tryz.prog 29 1 1 3:=⟨Fd29_1⟩
instance:FdC Tryz.prog 34 0 0 22:=⟨Fd34_0⟩
instance:FdC Tryz.prog 34 1 1 3:=⟨Fd34_1⟩
instance:FdC Tryz.prog 34 2 2 3:=⟨Fd34_2⟩
instance:FdC Tryz.prog 67 0 0 3:=⟨Fd67_0⟩
instance:FdC Tryz.prog 67 1 1 3:=⟨Fd67_1⟩
instance:FdC Tryz.prog 93 0 0 22:=⟨Fd93_0⟩
instance:FdC Tryz.prog 93 1 1 3:=⟨Fd93_1⟩
instance:FdC Tryz.prog 93 2 2 3:=⟨Fd93_2⟩
instance:FdC Tryz.prog 95 0 0 23:=⟨Fd95_0⟩
instance:FdC Tryz.prog 97 0 0 95:=⟨Fd97_0⟩
instance:FdC Tryz.prog 116 0 0 3:=⟨Fd116_0⟩
instance:FdC Tryz.prog 116 1 1 3:=⟨Fd116_1⟩
instance:FdC Tryz.prog 116 2 2 3:=⟨Fd116_2⟩
instance:FdC Tryz.prog 142 0 0 87:=⟨Fd142_0⟩
instance:FdC Tryz.prog 142 1 1 22:=⟨Fd142_1⟩
instance:FdC Tryz.prog 142 2 2 3:=⟨Fd142_2⟩
instance:FdC Tryz.prog 142 3 3 139:=⟨Fd142_3⟩
instance:FdC Tryz.prog 142 4 4 140:=⟨Fd142_4⟩
instance:FdC Tryz.prog 149 0 0 87:=⟨Fd149_0⟩
instance:FdC Tryz.prog 149 1 1 103:=⟨Fd149_1⟩
instance:FdC Tryz.prog 149 2 2 140:=⟨Fd149_2⟩
instance:AlC Tryz.prog 3 (I 0):=⟨Al3⟩
instance:AlC Tryz.prog 4 (B false):=⟨Al4⟩
instance:AlC Tryz.prog 22 (.slice none 0 0):=⟨Al22⟩
instance:AlC Tryz.prog 26 (.agg #[I 0,I 0,I 0]):=⟨Al26⟩
instance:AlC Tryz.prog 29 (.agg #[I 0,I 0]):=⟨Al29⟩
instance:AlC Tryz.prog 34 (.agg #[.slice none 0 0,I 0,I 0]):=⟨Al34⟩
instance:AlC Tryz.prog 40 (I 0):=⟨Al40⟩
instance:AlC Tryz.prog 87 (.pointer none):=⟨Al87⟩
instance:AlC Tryz.prog 93 (.agg #[.slice none 0 0,I 0,I 0]):=⟨Al93⟩
instance:AlC Tryz.prog 95 (.agg #[.slice none 0 0]):=⟨Al95⟩
instance:AlC Tryz.prog 97 (.agg #[.slice none 0 0]):=⟨Al97⟩
instance:AlC Tryz.prog 99 (.nilFunc):=⟨Al99⟩
instance:AlC Tryz.prog 103 (.nilFunc):=⟨Al103⟩
instance:AlC Tryz.prog 108 (.pointer none):=⟨Al108⟩
instance:AlC Tryz.prog 119 (.agg #[B false,B false,B false,B false,B false,B false,B false,B false,B false,B false,B false,B false,B false,B false,B false,B false,B false,B false,B false,B false,B false,B false,B false,B false,B false,B false,B false,B false,B false,B false]):=⟨Al119⟩
instance:AlC Tryz.prog 136 (.pointer none):=⟨Al136⟩
instance:AlC Tryz.prog 142 (.agg #[.pointer none,.slice none 0 0,I 0,.map none,.map none]):=⟨Al142⟩
instance:AlC Tryz.prog 144 (.agg #[I 0,I 0]):=⟨Al144⟩
instance:AlC Tryz.prog 145 (.nilFunc):=⟨Al145⟩
instance:AlC Tryz.prog 149 (.agg #[.pointer none,.nilFunc,.map none]):=⟨Al149⟩
instance:BdC Tryz.prog 26 [(0,1),(1,1),(2,1)]:=⟨_,Tryz.underlying26,Bd26 Tryz.underlying26⟩
instance:BdC Tryz.prog 29 [(0,1),(1,1)]:=⟨_,Tryz.underlying29,Bd29 Tryz.underlying29⟩
instance:BdC Tryz.prog 34 [(0,1),(1,1),(2,1)]:=⟨_,Tryz.underlying34,Bd34 Tryz.underlying34⟩
instance:BdC Tryz.prog 93 [(0,1),(1,1),(2,1)]:=⟨_,Tryz.underlying93,Bd93 Tryz.underlying93⟩
instance:BdC Tryz.prog 95 [(0,1)]:=⟨_,Tryz.underlying95,Bd95 Tryz.underlying95⟩
instance:BdC Tryz.prog 97 [(0,1)]:=⟨_,Tryz.underlying97,Bd97 Tryz.underlying97⟩
instance:BdC Tryz.prog 142 [(0,1),(1,1),(2,1),(3,1),(4,1)]:=⟨_,Tryz.underlying142,Bd142 Tryz.underlying142⟩
instance:BdC Tryz.prog 144 [(0,1),(1,1)]:=⟨_,Tryz.underlying144,Bd144 Tryz.underlying144⟩
instance:BdC Tryz.prog 149 [(0,1),(1,1),(2,1)]:=⟨_,Tryz.underlying149,Bd149 Tryz.underlying149⟩
end Go.Proofs.YtkclldpnmolljaaGreat
namespace Go.Proofs
open Go.Shelf
def Tryz.layMul_ren:Go.Shelf.Ren:=⟨fun | 212=>113 | 263=>126 | 264=>127 | n=>n,fun | 46=>151 | 51=>159 | 146=>160 | 53=>162 | 148=>163 | n=>n,fun | n=>n⟩
theorem Tryz.layMul:Go.Proofs.Lays.n212 Tryz.prog Tryz.layMul_ren:={
  mixed:=by kernel_rfl
  f212:=Tryz.func113.trans (congrArg some (by kernel_rfl))
  f263:=Tryz.func126.trans (congrArg some (by kernel_rfl))
  f264:=Tryz.func127.trans (congrArg some (by kernel_rfl))
  t46:=Tryz.underlying151
  a46:=Tryz.isAgg151
  z46:=Tryz.sizeOf151
  v46:=Tryz.zeroValue151
  t51:=Tryz.underlying159
  a51:=Tryz.isAgg159
  z51:=Tryz.sizeOf159
  v51:=Tryz.zeroValue159
  t53:=Tryz.underlying162
  a53:=Tryz.isAgg162
  z53:=Tryz.sizeOf162
  v53:=Tryz.zeroValue162
  t146:=Tryz.underlying160
  a146:=Tryz.isAgg160
  z146:=Tryz.sizeOf160
  v146:=Tryz.zeroValue160
  t148:=Tryz.underlying163
  a148:=Tryz.isAgg163
  z148:=Tryz.sizeOf163
  v148:=Tryz.zeroValue163 }
end Go.Proofs
namespace Go.Proofs.YtkclldpnmolljaaGreat
open Go Go.Nm Go.Proofs
theorem mul_any {n:Int} (h0:0<=n) (h1:n<=9223372036854775807) (w:World):Ret Tryz.prog 113 #[.int .u64 1,.int .u64 n] w fun v w'=>v = .tuple #[.int .u64 0,.int .u64 n]/\Ext w w':=by
  have h:=Any.bits_Mul Tryz.layMul 1 n.toNat (by omega) (by omega) w
  have e:((n.toNat:Nat):Int)=n:=Int.toNat_of_nonneg h0
  rw [Nat.one_mul,Nat.div_eq_of_lt (by omega),Nat.mod_eq_of_lt (by omega),e] at h
  refine Calls.mono h ?_
  rintro _ w' ⟨rfl,rfl⟩
  exact ⟨_,rfl,rfl,Ext.refl w'⟩
end Go.Proofs.YtkclldpnmolljaaGreat
namespace Go.Nm
open Go
theorem rep_step {l:List Int} {x:Int} {k z:Nat} (h:∀ y∈l.take k,y=x) (hk:k<=l.length) :
    ∀ y∈(l.take (Int.toNat k)++(l.take k).take (l.length-Int.toNat k)++l.drop z).take (k+min (l.take k).length (l.length-Int.toNat k)),y=x:=by
  intro y hy
  rw [List.take_append_of_le_length (by simp; omega)] at hy
  have hy:=List.mem_of_mem_take hy
  rw [show Int.toNat (k:Int)=k from by omega] at hy
  rcases List.mem_append.1 hy with h1 | h1
  · exact h y h1
  · exact h y (List.mem_of_mem_take h1)
theorem rep_done {l:List Int} {x:Int} {n k:Nat} (hl:l.length=n) (h:∀ y∈l.take k,y=x) (hk:n<=k):l=List.replicate n x:=by
  rw [List.take_of_length_le (by omega)] at h
  exact List.eq_replicate_iff.2 ⟨hl,h⟩
theorem rep_init {n:Nat} (x:Int) (h:1<=n):(List.replicate n (0:Int)).take 0++[x].take ((List.replicate n (0:Int)).length-0)++(List.replicate n (0:Int)).drop (0+min [x].length ((List.replicate n (0:Int)).length-0))=[x]++List.replicate (n-1) 0:=by
  obtain ⟨m,rfl⟩:∃ m,n=m+1:=⟨n-1,by omega⟩
  simp [show min 1 (m+1)=1 from by omega]
end Go.Nm
namespace Go.Proofs.YtkclldpnmolljaaGreat
open Go Go.Nm
theorem cf113:CF Tryz.prog 113:=⟨_,Tryz.func113,rfl,by decide +kernel⟩
set_option maxRecDepth 100000 in
theorem repeat_int {vx:Value} {x n:Int} (w:World) (hx:Sl w.cell? vx [x]) (h1:1<=n) (h2:n<=1000):Ret Tryz.prog 76 #[vx,I n] w fun v w'=>OwnF w.heap.size 3 w' v (List.replicate (Int.toNat n) x)/\Ext w w':=by
 refine ret_of_W Tryz.func76 rfl rfl rfl ?_
 have E:=Ext.refl w
 have K1:=KF.refl 0 w
 have hl_hx:=hx.len_le
 have hx:=hx.par
 refine W.seq ?_
 refine W.region rfl ?_
 refine s_val (x_as (v:=.slice none 0 0) rfl) ?_
 refine s_nil ?_
 refine W.seq ?_
 refine W.seq ?_
 refine W.region rfl ?_
 refine s_val (x_mv (v:=I n) rfl) ?_
 refine s_val (x_cmp (kd:=.i64) (a:=n) (b:=0) (r:=decide ((n:Int)<0)) rfl rfl rfl) ?_
 refine s_nil ?_
 refine W.cond (decide ((n:Int)<0)) rfl (fun c2=>?_) (fun c2=>?_)
 ·simp only [decide_eq_true_eq,decide_eq_false_iff_not,beq_iff_eq,bne_iff_ne,beq_eq_false_iff_ne,bne_eq_false_iff_eq,ne_eq,Decidable.not_not] at c2
  exfalso; omega
 ·simp only [decide_eq_true_eq,decide_eq_false_iff_not,beq_iff_eq,bne_iff_ne,beq_eq_false_iff_ne,bne_eq_false_iff_eq,ne_eq,Decidable.not_not] at c2
  refine W.skip ?_
  refine W.seq ?_
  refine W.region rfl ?_
  refine s_val (x_mv (v:=vx) rfl) ?_
  refine s_val (x_lenS T22.und rfl (hx.to K1)) ?_
  refine s_val (x_convU (kd:=.i64) (a:=([x]).length) Tryz.underlying3 Tryz.underlying151 rfl (by omega)) ?_
  refine s_val (x_mv (v:=I n) rfl) ?_
  refine s_val (x_convU (kd:=.i64) (a:=n) Tryz.underlying3 Tryz.underlying151 rfl (by omega)) ?_
  refine s_call cf113 [.int .u64 (([x]).length),.int .u64 n] rfl (mul_any (by omega) (by omega) _) ?_
  rintro _ w3 ⟨rfl,x4⟩
  replace E:=E.trans x4
  replace K1:=K1.ext x4
  clear x4
  refine s_val (x_mv (v:=.tuple #[.int .u64 0,.int .u64 n]) rfl) ?_
  refine s_val (x_ext (vs:=[.int .u64 0,.int .u64 n]) (v:=.int .u64 0) rfl rfl) ?_
  refine s_val (x_ext (vs:=[.int .u64 0,.int .u64 n]) (v:=.int .u64 n) rfl rfl) ?_
  refine s_val (x_as (v:=.int .u64 0) rfl) ?_
  refine s_val (x_as (v:=.int .u64 n) rfl) ?_
  refine s_nil ?_
  refine W.seq ?_
  refine W.seq ?_
  refine W.region rfl ?_
  refine s_val (x_mv (v:=.int .u64 0) rfl) ?_
  refine s_val (x_cmp (kd:=.u64) (a:=0) (b:=0) (r:=decide ((0:Int)<0)) rfl rfl rfl) ?_
  refine s_val (x_mv (v:=B (decide ((0:Int)<0))) rfl) ?_
  refine g_val (!(decide ((0:Int)<0))) (gy_f rfl) (fun hg=>x_mv (v:=.int .u64 n) rfl) ?_
  refine g_val (!(decide ((0:Int)<0))) (gy_f rfl) (fun hg=>x_cmp (kd:=.u64) (a:=n) (b:=9223372036854775807) (r:=decide ((9223372036854775807:Int)<n)) (gd_of (c:=!(decide ((0:Int)<0))) hg (.int .u64 n)) rfl rfl) ?_
  refine s_val (x_por (b:=decide ((0:Int)<0)) (r:=decide ((9223372036854775807:Int)<n)) rfl rfl (fun hb=>gd_of (c:=!(decide ((0:Int)<0))) (by simp_all) (B (decide ((9223372036854775807:Int)<n))))) ?_
  refine s_nil ?_
  refine W.cond (((decide ((0:Int)<0))||(decide ((9223372036854775807:Int)<n)))) rfl (fun c5=>?_) (fun c5=>?_)
  ·skip
   exfalso; simp at c5; omega
  ·skip
   refine W.skip ?_
   refine W.seq ?_
   refine W.region rfl ?_
   refine s_val (x_mv (v:=.int .u64 n) rfl) ?_
   refine s_val (x_conv64 (kd:=.u64) (a:=n) Tryz.underlying151 Tryz.underlying3 rfl (by omega)) ?_
   refine s_mk (α:=Int) T22 0 rfl (n:=n) rfl rfl (by omega) (by omega) (by omega) ?_
   intro v6 w7 ho8 x9
   have z10:=Nat.le_refl w3.heap.size
   have B_v6:=E.size
   have B_v6_K1:=K1.size
   replace E:=E.trans x9
   replace z10:=Nat.le_trans z10 x9.size
   replace K1:=K1.ext x9
   refine s_val (x_as (v:=v6) rfl) ?_
   refine s_nil ?_
   refine W.seq ?_
   refine W.region rfl ?_
   refine s_val (x_mv (v:=v6) rfl) ?_
   refine s_val (x_mv (v:=vx) rfl) ?_
   refine s_copy (v:=v6) (l:=List.replicate (Int.toNat n) 0) (l2:=[x]) (o:=0) (vy:=vx) T22 ((sufV_zero ho8 1).symm) rfl ho8 (by first | omega | (simp; done) | (simp; omega)) (hx.to K1) (Cells.Le.refl _) (by first | omega | (simp; done) | (simp; omega)) ?_
   intro w11 ho13 g12
   replace E:=E.grow g12 (by omega)
   replace z10:=Nat.le_trans z10 g12.size
   replace K1:=K1.grow g12 (by omega)
   replace ho8:=ho13
   clear g12
   refine s_val (x_as (v:=I ((min ([x]).length ((List.replicate (Int.toNat n) 0).length-0):Nat))) rfl) ?_
   refine s_nil ?_
   refine W.seq ?_
   refine W.block ?_
   refine W.loop (fun m σ W=>∃ (k:Nat) (l:List Int) (vo:Value) (ρ:Env),σ=upds ρ [(7,vo),(8,I k)]/\m=Int.toNat n-k/\Ext w W/\w3.heap.size<=W.heap.size/\OwnF w3.heap.size 3 W vo l/\l.length=Int.toNat n/\1<=k/\k<=Int.toNat n/\(∀ y∈l.take k,y=x)) ?_ ?_
   ·exact ⟨_,1,([x]++List.replicate (Int.toNat n-1) 0),v6,_,upds_of _ _ ⟨rfl,(eqI (by simp; omega)),trivial⟩,rfl,E,z10,(by have hq:=ho8; rw [rep_init (n:=Int.toNat n) x (by omega)] at hq; exact hq),(by simp; omega),(Nat.le_refl _),(by omega),(by simp)⟩
   ·rintro m σ w14 ⟨k,l,vo,ρ,rfl,rfl,E,z10,ho_vo,iv0_0,iv0_1,iv0_2,iv0_3⟩
    refine W.seq ?_
    refine W.seq ?_
    refine W.region rfl ?_
    refine s_val (x_mv (v:=I k) rfl) ?_
    refine s_val (x_mv (v:=vo) rfl) ?_
    refine s_val (x_lenS T22.und rfl (ho_vo.sl.mono (frm_le _ _))) ?_
    refine s_val (x_cmp (kd:=.i64) (a:=k) (b:=l.length) (r:=decide ((k:Int)<l.length)) rfl rfl rfl) ?_
    refine s_nil ?_
    refine W.cond (decide ((k:Int)<l.length)) rfl (fun c15=>?_) (fun c15=>?_)
    ·simp only [decide_eq_true_eq,decide_eq_false_iff_not,beq_iff_eq,bne_iff_ne,beq_eq_false_iff_ne,bne_eq_false_iff_eq,ne_eq,Decidable.not_not] at c15
     refine W.skip ?_
     refine W.block ?_
     refine W.draw (fun W=>Ext w W) [(0,true),(1,true),(2,true),(3,true),(4,true),(5,true),(6,true),(7,false),(8,true),(9,true)] mixed (by decide +kernel) rfl ?_
     intro w16 x17
     replace E:=E.trans x17
     replace z10:=Nat.le_trans z10 x17.size
     replace ho_vo:=ho_vo.ext x17
     clear x17
     refine ⟨E,?_⟩
     refine d_q rfl (fun w' hC=>by have E:=hC; exact x_mv (v:=I k) rfl) ?_
     refine d_q rfl (fun w' hC=>by have E:=hC; exact x_mv (v:=vo) rfl) ?_
     refine d_q rfl (fun w' hC=>by have E:=hC; exact x_mv (v:=I k) rfl) ?_
     refine d_q rfl (fun w' hC=>by have E:=hC; exact x_sl (v:=vo) (u:=sufV 1 vo (Int.toNat k)) (lo':=some (I k)) (hi':=none) (mx':=none) rfl rfl rfl rfl (OwnF.suf (i:=k) T22.und T22.size ho_vo (by omega) (by omega) _)) ?_
     refine d_q rfl (fun w' hC=>by have E:=hC; exact x_mv (v:=vo) rfl) ?_
     refine d_q rfl (fun w' hC=>by have E:=hC; exact x_mv (v:=I k) rfl) ?_
     obtain ⟨u18,hr_u18,hs19⟩:=sl_hi T22.und T22.size ho_vo.sl (j:=k) (by omega) (by omega)
     replace hs19:=hs19.mono (frm_le _ _)
     replace hs19:Sl _ u18 (l.take k):=hs19
     refine d_q rfl (fun w' hC=>by have E:=hC; exact x_sl (v:=vo) (u:=u18) (lo':=none) (hi':=some (I k)) (mx':=none) rfl rfl rfl rfl (hr_u18 _)) ?_
     refine d_l rfl ?_
     refine s_copy (v:=vo) (l:=l) (l2:=l.take k) (o:=(Int.toNat k)) (vy:=u18) T22 rfl rfl ho_vo (by first | omega | (simp; done) | (simp; omega)) hs19 (Cells.Le.refl _) (by first | omega | (simp; done) | (simp; omega)) ?_
     intro w20 ho22 g21
     replace E:=E.grow g21 (by omega)
     replace z10:=Nat.le_trans z10 g21.size
     replace ho_vo:=ho22
     clear g21
     refine s_nil ⟨E,?_⟩
     refine d_q rfl (fun w' hC=>by have E:=hC; exact x_ari (a:=k) (b:=(min (l.take k).length ((l).length-(Int.toNat k)):Nat)) (r:=k+((min (l.take k).length ((l).length-(Int.toNat k)):Nat))) rfl rfl rfl (by omega)) ?_
     refine d_q rfl (fun w' hC=>by have E:=hC; exact x_as (v:=I (k+((min (l.take k).length ((l).length-(Int.toNat k)):Nat)))) rfl) ?_
     refine d_nil ?_
     have hmk:(l.take k).length=k:=by simp; omega
     exact ⟨_,(by omega),(k+min (l.take k).length (l.length-Int.toNat k)),_,vo,_,upds_of _ _ ⟨rfl,(eqI (by omega)),trivial⟩,rfl,E,z10,(by first | exact ho_vo | simpa using ho_vo),(by simp only [List.length_append,List.length_take,List.length_drop]; omega),(by omega),(by omega),(rep_step iv0_3 (by omega))⟩
    ·simp only [decide_eq_true_eq,decide_eq_false_iff_not,beq_iff_eq,bne_iff_ne,beq_eq_false_iff_ne,bne_eq_false_iff_eq,ne_eq,Decidable.not_not] at c15
     refine W.exit ?_
     refine W.seq ?_
     refine W.region rfl ?_
     refine s_val (x_mv (v:=vo) rfl) ?_
     refine s_val (x_as (v:=vo) rfl) ?_
     refine s_nil ?_
     refine W.ret ?_
     exact ⟨_,resE_tmp rfl,((rep_done iv0_0 iv0_3 (by omega)) ▸ ho_vo.dn (by omega)),E⟩

end Go.Proofs.YtkclldpnmolljaaGreat
section
set_option maxRecDepth 100000
set_option maxHeartbeats 16000000
namespace Go.Proofs.YtkclldpnmolljaaGreat
open Go Go.Nm
attribute [local irreducible] gd execOp SL SLD SLT WR
def zaj  : M (List Work) :=
  M.pure ([(⟨([]),(1:Int),(5:Int)⟩:Work),(⟨([]),(1:Int),(6:Int)⟩:Work),(⟨([(0:Int),(1:Int)]),(1:Int),(10:Int)⟩:Work),(⟨([(1:Int)]),(1:Int),(30:Int)⟩:Work),(⟨([(2:Int),(3:Int)]),(1:Int),(20:Int)⟩:Work),(⟨([(4:Int)]),(1:Int),(1:Int)⟩:Work)])
theorem zan {R:List Chunk}    {r:(List Work)} (hM:(zaj).Ends r) (w:World) (H:St w w [] R):Ret Tryz.prog 4 #[] w fun v w'=>∃ (y0:List Work) (u0:Value) (rr1:List (Raw 2)) (av:Base),y0=r/\v=u0/\St w w' [cOwn (α:=Raw 2) 34 u0 rr1,cRo av] R/\RepR (α:=Work) av.cells rr1 y0:=by
 refine ret_of_W Tryz.func4 rfl rfl rfl ?_;refine kg 6 ?_;refine s_val (x_bld (ps:=[(1,I 1),(2,I 5)]) (zs:=[.slice none 0 0,I 0,I 0]) (L':=[.slice none 0 0,I 1,I 5]) rfl Tryz.underlying34 Al34 rfl (Bd34 Tryz.underlying34) (.cons (cs:=[I 1]) rfl rfl rfl rfl rfl<|.cons (cs:=[I 5]) rfl rfl rfl rfl rfl<|.nil))<|s_val (x_bld (ps:=[(1,I 1),(2,I 6)]) (zs:=[.slice none 0 0,I 0,I 0]) (L':=[.slice none 0 0,I 1,I 6]) rfl Tryz.underlying34 Al34 rfl (Bd34 Tryz.underlying34) (.cons (cs:=[I 1]) rfl rfl rfl rfl rfl<|.cons (cs:=[I 6]) rfl rfl rfl rfl rfl<|.nil)) ?_;refine t_bs (α:=Int) T22 [I 0,I 1] [(0:Int),(1:Int)] H rfl (.cons rfl (Flat.rep_enc _ (0:Int))<|.cons rfl (Flat.rep_enc _ (1:Int))<|.nil) rfl rfl rfl ?_;intro ac aQ H;refine s_val (x_bld (ps:=[(0,ac),(1,I 1),(2,I 10)]) (zs:=[.slice none 0 0,I 0,I 0]) (L':=[ac,I 1,I 10]) rfl Tryz.underlying34 Al34 rfl (Bd34 Tryz.underlying34) (.cons (cs:=[ac]) (Sl.cells (H.os 0)) rfl rfl rfl rfl<|.cons (cs:=[I 1]) rfl rfl rfl rfl rfl<|.cons (cs:=[I 10]) rfl rfl rfl rfl rfl<|.nil)) ?_;refine t_bs (α:=Int) T22 [I 1] [(1:Int)] H rfl (.cons rfl (Flat.rep_enc _ (1:Int))<|.nil) rfl rfl rfl ?_;intro ae aR H;refine s_val (x_bld (ps:=[(0,ae),(1,I 1),(2,I 30)]) (zs:=[.slice none 0 0,I 0,I 0]) (L':=[ae,I 1,I 30]) rfl Tryz.underlying34 Al34 rfl (Bd34 Tryz.underlying34) (.cons (cs:=[ae]) (Sl.cells (H.os 0)) rfl rfl rfl rfl<|.cons (cs:=[I 1]) rfl rfl rfl rfl rfl<|.cons (cs:=[I 30]) rfl rfl rfl rfl rfl<|.nil)) ?_;refine t_bs (α:=Int) T22 [I 2,I 3] [(2:Int),(3:Int)] H rfl (.cons rfl (Flat.rep_enc _ (2:Int))<|.cons rfl (Flat.rep_enc _ (3:Int))<|.nil) rfl rfl rfl ?_;intro ag aS H;refine s_val (x_bld (ps:=[(0,ag),(1,I 1),(2,I 20)]) (zs:=[.slice none 0 0,I 0,I 0]) (L':=[ag,I 1,I 20]) rfl Tryz.underlying34 Al34 rfl (Bd34 Tryz.underlying34) (.cons (cs:=[ag]) (Sl.cells (H.os 0)) rfl rfl rfl rfl<|.cons (cs:=[I 1]) rfl rfl rfl rfl rfl<|.cons (cs:=[I 20]) rfl rfl rfl rfl rfl<|.nil)) ?_;refine t_bs (α:=Int) T22 [I 4] [(4:Int)] H rfl (.cons rfl (Flat.rep_enc _ (4:Int))<|.nil) rfl rfl rfl ?_;intro ah aT H;refine s_val (x_bld (ps:=[(0,ah),(1,I 1),(2,I 1)]) (zs:=[.slice none 0 0,I 0,I 0]) (L':=[ah,I 1,I 1]) rfl Tryz.underlying34 Al34 rfl (Bd34 Tryz.underlying34) (.cons (cs:=[ah]) (Sl.cells (H.os 0)) rfl rfl rfl rfl<|.cons (cs:=[I 1]) rfl rfl rfl rfl rfl<|.cons (cs:=[I 1]) rfl rfl rfl rfl rfl<|.nil)) ?_
 obtain ⟨aU,H⟩:=H.emptyE
 obtain ⟨aV,H,aE⟩:=H.freezeE (k:=4) rfl
 replace H:=H.nf
 have aa:=aE
 obtain ⟨aW,H,aX,aF⟩:=H.joinE (i:=0) (j:=4) rfl rfl
 replace aa:=aa.mono aF
 obtain ⟨aY,H,aG⟩:=H.freezeE (k:=4) rfl
 replace H:=H.nf
 have ab:=aG
 obtain ⟨aZ,H,aH,aI⟩:=H.joinE (i:=0) (j:=4) rfl rfl
 replace aa:=aa.mono aH
 replace ab:=ab.mono aI
 obtain ⟨a0,H,aJ⟩:=H.freezeE (k:=4) rfl
 replace H:=H.nf
 have ai:=aJ
 obtain ⟨a4,H,aw,aK⟩:=H.joinE (i:=0) (j:=4) rfl rfl
 replace aa:=aa.mono aw
 replace ab:=ab.mono aw
 replace ai:=ai.mono aK
 obtain ⟨a5,H,aL⟩:=H.freezeE (k:=4) rfl
 replace H:=H.nf
 have aq:=aL
 obtain ⟨ax,H,au,aM⟩:=H.joinE (i:=0) (j:=4) rfl rfl
 replace aa:=aa.mono au
 replace ab:=ab.mono au
 replace ai:=ai.mono au
 replace aq:=aq.mono aM
 obtain ⟨aj,ay⟩:∃ r:Raw 2,r.cs=[.slice none 0 0,I 1,I 5]:=⟨Raw.of [.slice none 0 0,I 1,I 5] rfl rfl,rfl⟩
 obtain ⟨ak,az⟩:∃ r:Raw 2,r.cs=[.slice none 0 0,I 1,I 6]:=⟨Raw.of [.slice none 0 0,I 1,I 6] rfl rfl,rfl⟩
 obtain ⟨al,aA⟩:∃ r:Raw 2,r.cs=[ac,I 1,I 10]:=⟨Raw.of [ac,I 1,I 10] rfl (by simp only [List.all_cons,List.all_nil,Bool.true_and,Bool.and_true,Sl.oc aa]; try rfl),rfl⟩
 obtain ⟨am,aB⟩:∃ r:Raw 2,r.cs=[ae,I 1,I 30]:=⟨Raw.of [ae,I 1,I 30] rfl (by simp only [List.all_cons,List.all_nil,Bool.true_and,Bool.and_true,Sl.oc ab]; try rfl),rfl⟩
 obtain ⟨ao,aC⟩:∃ r:Raw 2,r.cs=[ag,I 1,I 20]:=⟨Raw.of [ag,I 1,I 20] rfl (by simp only [List.all_cons,List.all_nil,Bool.true_and,Bool.and_true,Sl.oc ai]; try rfl),rfl⟩
 obtain ⟨ap,aD⟩:∃ r:Raw 2,r.cs=[ah,I 1,I 1]:=⟨Raw.of [ah,I 1,I 1] rfl (by simp only [List.all_cons,List.all_nil,Bool.true_and,Bool.and_true,Sl.oc aq]; try rfl),rfl⟩
 have aN:RepR (α:=Work) ax.cells [aj,ak,al,am,ao,ap] [(⟨([]),(1:Int),(5:Int)⟩:Work),(⟨([]),(1:Int),(6:Int)⟩:Work),(⟨([(0:Int),(1:Int)]),(1:Int),(10:Int)⟩:Work),(⟨([(1:Int)]),(1:Int),(30:Int)⟩:Work),(⟨([(2:Int),(3:Int)]),(1:Int),(20:Int)⟩:Work),(⟨([(4:Int)]),(1:Int),(1:Int)⟩:Work)]:=.cons (by rw [ay]; exact ⟨_,rfl,(Sl.nil _)⟩)<|.cons (by rw [az]; exact ⟨_,rfl,(Sl.nil _)⟩)<|.cons (by rw [aA]; exact ⟨_,rfl,aa⟩)<|.cons (by rw [aB]; exact ⟨_,rfl,ab⟩)<|.cons (by rw [aC]; exact ⟨_,rfl,ai⟩)<|.cons (by rw [aD]; exact ⟨_,rfl,aq⟩)<|.nil
 refine t_bs (α:=Raw 2) T23 [.agg #[.slice none 0 0,I 1,I 5],.agg #[.slice none 0 0,I 1,I 6],.agg #[ac,I 1,I 10],.agg #[ae,I 1,I 30],.agg #[ag,I 1,I 20],.agg #[ah,I 1,I 1]] [aj,ak,al,am,ao,ap] H rfl (.cons (by rw [show (Flat.enc aj:List Value)=aj.cs from rfl,ay]; rfl) (Flat.rep_enc _ _)<|.cons (by rw [show (Flat.enc ak:List Value)=ak.cs from rfl,az]; rfl) (Flat.rep_enc _ _)<|.cons (by rw [show (Flat.enc al:List Value)=al.cs from rfl,aA]; rfl) (Flat.rep_enc _ _)<|.cons (by rw [show (Flat.enc am:List Value)=am.cs from rfl,aB]; rfl) (Flat.rep_enc _ _)<|.cons (by rw [show (Flat.enc ao:List Value)=ao.cs from rfl,aC]; rfl) (Flat.rep_enc _ _)<|.cons (by rw [show (Flat.enc ap:List Value)=ap.cs from rfl,aD]; rfl) (Flat.rep_enc _ _)<|.nil) rfl rfl rfl ?_;intro aO a6 H;replace H:=H.nf;refine kg 2 ?_;replace H:=H.pk [0,1];refine W.ret ?_
 have aP:=M.e_pure hM
 exact ⟨_,resE_tmp rfl,⟨([(⟨([]),(1:Int),(5:Int)⟩:Work),(⟨([]),(1:Int),(6:Int)⟩:Work),(⟨([(0:Int),(1:Int)]),(1:Int),(10:Int)⟩:Work),(⟨([(1:Int)]),(1:Int),(30:Int)⟩:Work),(⟨([(2:Int),(3:Int)]),(1:Int),(20:Int)⟩:Work),(⟨([(4:Int)]),(1:Int),(1:Int)⟩:Work)]),aO,[aj,ak,al,am,ao,ap],ax,aP,rfl,H,aN⟩⟩

def zal (n aa greatest:Int):M Bool :=
  M.pure ((decide (aa<=n))&&(decide (n<=greatest)))
theorem zap {R:List Chunk}  (n:Int) (aa:Int) (greatest:Int)  {r:Bool} (hM:(zal n aa greatest).Ends r) (w:World) (H:St w w [] R):Ret Tryz.prog 66 #[I n,I aa,I greatest] w fun v w'=>∃ (y0:Bool),y0=r/\v=B y0/\St w w' [] R:=by
 refine ret_of_W Tryz.func66 rfl rfl rfl ?_;refine kg 13 ?_;refine s_val (x_pand (b:=decide (aa<=n)) (r:=decide (n<=greatest)) rfl (fun hb=>gd_of (c:=decide (aa<=n)) (by first | exact hb | (rw [hb]; rfl) | simp_all) (B (decide (n<=greatest)))) rfl) ?_;refine kg 2 ?_;refine W.ret ?_
 have ab:=M.e_pure hM
 exact ⟨_,resE_tmp rfl,⟨((decide (aa<=n))&&(decide (n<=greatest))),ab,rfl,H⟩⟩

def zdY (s:List Work) (f:Work->M Bool):Nat->M (Nat ⊕ (Int ⊕ Unit)):=fun s2 =>
  bif decide ((s2:Int)<(s.length:Int)) then (
  M.grd (decide ((s2:Int)<(s.length:Int))) <|
  M.bind (f (s.getD s2 default)) fun r2 =>
  bif r2 then (
  M.pure (.inr (.inl (s2:Int))))
  else (
  M.pure (.inl (s2+1))))
  else (
  M.pure (.inr (.inr ())))
def zfn (s:List Work) (f:Work->M Bool):M Int :=
  M.bind (M.iter (zdY s f) 0) fun x_=>match x_ with
  | (.inl s3)=>(
  M.pure s3)
  | (.inr (_:Unit))=>(
  M.pure (-1))
theorem zfF {R:List Chunk} {ak:Cells} {ac:Value} {ae:Value} (s:List Work) (f:Work->M Bool) (al:Reads R ak) (am:Sl ak ac s) (au:FnM Tryz.prog R ae f) {r:Int} (hM:(zfn s f).Ends r) (w:World) (H:St w w [] R):Ret Tryz.prog 130 #[ac,ae] w fun v w'=>∃ (y0:Int),y0=r/\v=I y0/\St w w' [] R:=by
 refine ret_of_W Tryz.func130 rfl rfl rfl ?_
 have aC:=(am).len_le
 refine kg 12 ?_;obtain ⟨av,ag,ao⟩:=M.e_bind hM
 obtain ⟨aD,ag⟩:=M.e_iter ag
 refine W.loop (fun m σ W=>∃ (s2:Nat) (ρ:Env),σ=upds ρ [(0,ac),(1,ae),(7,I (s.length:Int)),(8,I (s2:Int))]/\M.iterN (zdY s f) m s2=some av/\St w W [] R) ?_ ?_
 ·exact ⟨_,0,_,upds_of _ _ ⟨rfl,rfl,rfl,rfl,trivial⟩,ag,H⟩
 rintro aE σ aF ⟨s2,ρ,rfl,ap,H⟩
 obtain ⟨aw,ax,aG,hM,ah⟩:=M.e_iterN ap
 simp only [zdY] at hM
 clear ap;refine kg 5 ?_
 refine W.cond (decide ((s2:Int)<(s.length:Int))) rfl (fun aa=>?_) (fun aa=>?_)
 ·replace hM:=M.e_t hM aa
  replace aa:=dI aa
  obtain ⟨aH,hM⟩:=M.e_gd hM;refine kg 14 ?_
  obtain ⟨aq,ay,ab⟩:=Work_atA am (i:=(s2:Int)) (by omega) (by omega)
  replace ab:Sl _ aq (s.getD s2 default).of:=ab
  have aI:=ab.len_le
  refine s_val (x_ld (v:=.agg #[aq,I ((s.getD s2 default).base),I ((s.getD s2 default).minutes)]) rfl (ld_ag Ag34 Sz34 (At.mono ay (al.at H)))) ?_;obtain ⟨r2,az,hM⟩:=M.e_bind hM;refine t_callM H au rfl rfl (s.getD s2 default) (al.app _) ⟨_,Work_mk ab,rfl⟩ az ?_;intro aJ H;refine s_nil ?_
  refine W.cond r2 rfl (fun ai=>?_) (fun ai=>?_)
  ·replace hM:=M.e_t hM ai;refine kg 5 ?_;refine W.ret ?_
   have aA:=M.e_inr hM ah
   subst aA;replace hM:=ao;(try dsimp only at hM)
   have aj:=M.e_pure hM
   exact ⟨_,resE_tmp rfl,⟨(s2:Int),aj,rfl,H⟩⟩
  replace hM:=M.e_f hM ai;refine kg 5 ?_
  exact ⟨aw,ax,s2+1,_,upds_of _ _ ⟨rfl,rfl,rfl,rfl,trivial⟩,M.e_inl hM ah,H⟩
 replace hM:=M.e_f hM aa
 replace aa:=dI aa
 refine W.exit ?_
 have aB:=M.e_inr hM ah
 subst aB;replace hM:=ao;(try dsimp only at hM);refine kg 4 ?_;refine W.ret ?_
 have aj:=M.e_pure hM
 exact ⟨_,resE_tmp rfl,⟨(-1),aj,rfl,H⟩⟩

def zff (s:List Work) (f:Work->M Bool):M Bool :=
  M.bind (zfn s f) fun r2 =>
  M.pure (decide (0<=r2))
theorem zgm {R:List Chunk} {ac:Cells} {aa:Value} {ab:Value} (s:List Work) (f:Work->M Bool) (ag:Reads R ac) (ah:Sl ac aa s) (ai:FnM Tryz.prog R ab f) {r:Bool} (hM:(zff s f).Ends r) (w:World) (H:St w w [] R):Ret Tryz.prog 123 #[aa,ab] w fun v w'=>∃ (y0:Bool),y0=r/\v=B y0/\St w w' [] R:=by
 refine ret_of_W Tryz.func123 rfl rfl rfl ?_;refine kg 8 ?_;obtain ⟨al,aj,hM⟩:=M.e_bind hM;refine s_call cf130 [aa,ab] rfl (zfF s f (ag.app _) ah (ai.app _) aj _ (H.gt 0)) ?_
 rintro vq am ⟨r2,rfl,hvq,ae⟩
 subst vq;(try dsimp only at hM);replace H:=H.bk ae;clear ae;refine kg 3 ?_;refine W.ret ?_
 have ak:=M.e_pure hM
 exact ⟨_,resE_tmp rfl,⟨(decide (0<=r2)),ak,rfl,H⟩⟩

def zct (x:Work) (aa:Work->M Bool):M Bool :=
  M.bind (aa x) fun r2 =>
  M.pure (!r2)
theorem zfS {R:List Chunk} {ab:Cells} {aa:Value} {ac:Nat} {ae:Value} (x:Work) (ag:Work->M Bool) (ah:Reads R ab) (ai:Sl ab aa x.of) (aj:FnM Tryz.prog R ae ag) (am:Has R (cBlk ac [ae] 147)) {r:Bool} (hM:(zct x ag).Ends r) (w:World) (H:St w w [] R):Ret Tryz.prog 124 #[.agg #[aa,I x.base,I x.minutes],Pq ac] w fun v w'=>∃ (y0:Bool),y0=r/\v=B y0/\St w w' [] R:=by
 refine ret_of_W Tryz.func124 rfl rfl rfl ?_;refine kg 2 ?_;refine t_bx [aa,I x.base,I x.minutes] H rfl ?_;intro ao ap H;refine kg 6 ?_;obtain ⟨r2,ak,hM⟩:=M.e_bind hM;refine t_callM H aj rfl rfl x (ah.app _) ⟨_,Work_mk ai,rfl⟩ ak ?_;intro aq H;refine kg 3 ?_;refine W.ret ?_
 have al:=M.e_pure hM
 exact ⟨_,resE_tmp rfl,⟨(!r2),al,rfl,(H.pk [])⟩⟩

def zeD (so:Work->M Bool) (l:List Work):M Bool :=
  M.bind (zff l (fun aa=>zct aa so)) fun r2 =>
  M.pure (!r2)
theorem zfv {R:List Chunk} {aa:Value} {ag:Cells} {ab:Value} (so:Work->M Bool) (l:List Work) (ah:FnM Tryz.prog R aa so) (ak:Reads R ag) (al:Sl ag ab l) {r:Bool} (hM:(zeD so l).Ends r) (w:World) (H:St w w [] R):Ret Tryz.prog 104 #[aa,ab] w fun v w'=>∃ (y0:Bool),y0=r/\v=B y0/\St w w' [] R:=by
 refine ret_of_W Tryz.func104 rfl rfl rfl ?_;refine kg 2 ?_;refine t_box (v:=aa) (cs:=[aa]) H rfl (FnM.cells ah) ?_;intro ac aB H;refine kg 5 ?_;refine s_val (x_mf (fs:=[]) (cs:=[Pq ac]) rfl rfl) ?_;obtain ⟨aC,am,hM⟩:=M.e_bind hM;refine s_call cf123 [ab,.func (.func 124) #[] #[Pq ac]] rfl (zgm l (fun ae=>zct ae so) (ak.app _) al ⟨124,[Pq ac],rfl,cf124,fun ai aD aE ao ae aF ap aq au av=>by obtain ⟨aG,rfl,aw⟩:=Work_arg au; exact (zfS ae so aq aw (FnM.app (ah.app _) _) (Has.app (Has.here (k:=0) rfl) _) av ai (St.refl ap)).mono fun ao ai ⟨aH,ax,ay,az⟩=>by subst ax; exact ⟨ay,az⟩⟩ am _ (H.gt 1)) ?_
 rintro vq aI ⟨r2,rfl,hvq,aj⟩
 subst vq;(try dsimp only at hM);replace H:=H.bk aj;clear aj;refine kg 3 ?_;refine W.ret ?_
 have aA:=M.e_pure hM
 exact ⟨_,resE_tmp rfl,⟨(!r2),aA,rfl,(H.pk [])⟩⟩

def zc1 (x:Work):M Bool :=
  M.pure (decide ((x.of.length:Int)<=5))
theorem zgi {R:List Chunk} {ab:Cells} {aa:Value} (x:Work) (ag:Reads R ab) (ac:Sl ab aa x.of) {r:Bool} (hM:(zc1 x).Ends r) (w:World) (H:St w w [] R):Ret Tryz.prog 105 #[.agg #[aa,I x.base,I x.minutes]] w fun v w'=>∃ (y0:Bool),y0=r/\v=B y0/\St w w' [] R:=by
 refine ret_of_W Tryz.func105 rfl rfl rfl ?_;refine kg 2 ?_;refine t_bx [aa,I x.base,I x.minutes] H rfl ?_;intro ah ai H
 have aj:=(ac).len_le
 refine kg 10 ?_;refine W.ret ?_
 have ae:=M.e_pure hM
 exact ⟨_,resE_tmp rfl,⟨(decide ((x.of.length:Int)<=5)),ae,rfl,(H.pk [])⟩⟩

def zdJ (s:List Int) (f:Int->M Bool):Nat->M (Nat ⊕ (Int ⊕ Unit)):=fun s2 =>
  bif decide ((s2:Int)<(s.length:Int)) then (
  M.grd (decide ((s2:Int)<(s.length:Int))) <|
  M.bind (f (s.getD s2 0)) fun r2 =>
  bif r2 then (
  M.pure (.inr (.inl (s2:Int))))
  else (
  M.pure (.inl (s2+1))))
  else (
  M.pure (.inr (.inr ())))
def zaR (s:List Int) (f:Int->M Bool):M Int :=
  M.bind (M.iter (zdJ s f) 0) fun x_=>match x_ with
  | (.inl s3)=>(
  M.pure s3)
  | (.inr (_:Unit))=>(
  M.pure (-1))
theorem zbo {R:List Chunk} {aj:Cells} {ab:Value} {ac:Value} (s:List Int) (f:Int->M Bool) (ay:Reads R aj) (am:Sl aj ab s) (ao:FnM Tryz.prog R ac f) {r:Int} (hM:(zaR s f).Ends r) (w:World) (H:St w w [] R):Ret Tryz.prog 60 #[ab,ac] w fun v w'=>∃ (y0:Int),y0=r/\v=I y0/\St w w' [] R:=by
 refine ret_of_W Tryz.func60 rfl rfl rfl ?_
 have az:=(am).len_le
 refine kg 12 ?_;obtain ⟨ap,ae,ak⟩:=M.e_bind hM
 obtain ⟨aA,ae⟩:=M.e_iter ae
 refine W.loop (fun m σ W=>∃ (s2:Nat) (ρ:Env),σ=upds ρ [(0,ab),(1,ac),(7,I (s.length:Int)),(8,I (s2:Int))]/\M.iterN (zdJ s f) m s2=some ap/\St w W [] R) ?_ ?_
 ·exact ⟨_,0,_,upds_of _ _ ⟨rfl,rfl,rfl,rfl,trivial⟩,ae,H⟩
 rintro aB σ aC ⟨s2,ρ,rfl,al,H⟩
 obtain ⟨aq,au,aD,hM,ag⟩:=M.e_iterN al
 simp only [zdJ] at hM
 clear al;refine kg 5 ?_
 refine W.cond (decide ((s2:Int)<(s.length:Int))) rfl (fun aa=>?_) (fun aa=>?_)
 ·replace hM:=M.e_t hM aa
  replace aa:=dI aa
  obtain ⟨aE,hM⟩:=M.e_gd hM;refine kg 15 ?_;obtain ⟨r2,av,hM⟩:=M.e_bind hM;refine t_callM H ao rfl rfl (s.getD s2 0) Reads.none (Arg.mkI (fun _=>none) _) av ?_;intro aF H;refine s_nil ?_
  refine W.cond r2 rfl (fun ah=>?_) (fun ah=>?_)
  ·replace hM:=M.e_t hM ah;refine kg 5 ?_;refine W.ret ?_
   have aw:=M.e_inr hM ag
   subst aw;replace hM:=ak;(try dsimp only at hM)
   have ai:=M.e_pure hM
   exact ⟨_,resE_tmp rfl,⟨(s2:Int),ai,rfl,H⟩⟩
  replace hM:=M.e_f hM ah;refine kg 5 ?_
  exact ⟨aq,au,s2+1,_,upds_of _ _ ⟨rfl,rfl,rfl,rfl,trivial⟩,M.e_inl hM ag,H⟩
 replace hM:=M.e_f hM aa
 replace aa:=dI aa
 refine W.exit ?_
 have ax:=M.e_inr hM ag
 subst ax;replace hM:=ak;(try dsimp only at hM);refine kg 4 ?_;refine W.ret ?_
 have ai:=M.e_pure hM
 exact ⟨_,resE_tmp rfl,⟨(-1),ai,rfl,H⟩⟩

def zba (s:List Int) (f:Int->M Bool):M Bool :=
  M.bind (zaR s f) fun r2 =>
  M.pure (decide (0<=r2))
theorem zbM {R:List Chunk} {ac:Cells} {aa:Value} {ab:Value} (s:List Int) (f:Int->M Bool) (ag:Reads R ac) (ah:Sl ac aa s) (ai:FnM Tryz.prog R ab f) {r:Bool} (hM:(zba s f).Ends r) (w:World) (H:St w w [] R):Ret Tryz.prog 90 #[aa,ab] w fun v w'=>∃ (y0:Bool),y0=r/\v=B y0/\St w w' [] R:=by
 refine ret_of_W Tryz.func90 rfl rfl rfl ?_;refine kg 8 ?_;obtain ⟨al,aj,hM⟩:=M.e_bind hM;refine s_call cf60 [aa,ab] rfl (zbo s f (ag.app _) ah (ai.app _) aj _ (H.gt 0)) ?_
 rintro vq am ⟨r2,rfl,hvq,ae⟩
 subst vq;(try dsimp only at hM);replace H:=H.bk ae;clear ae;refine kg 3 ?_;refine W.ret ?_
 have ak:=M.e_pure hM
 exact ⟨_,resE_tmp rfl,⟨(decide (0<=r2)),ak,rfl,H⟩⟩

def zdA (x:Int) (aa:Int->M Bool):M Bool :=
  M.bind (aa x) fun r2 =>
  M.pure (!r2)
theorem zfr {R:List Chunk} {aa:Nat} {ab:Value} (x:Int) (ac:Int->M Bool) (ae:FnM Tryz.prog R ab ac) (ai:Has R (cBlk aa [ab] 103)) {r:Bool} (hM:(zdA x ac).Ends r) (w:World) (H:St w w [] R):Ret Tryz.prog 108 #[I x,Pq aa] w fun v w'=>∃ (y0:Bool),y0=r/\v=B y0/\St w w' [] R:=by
 refine ret_of_W Tryz.func108 rfl rfl rfl ?_;refine kg 8 ?_;obtain ⟨r2,ag,hM⟩:=M.e_bind hM;refine t_callM H ae rfl rfl x Reads.none (Arg.mkI (fun _=>none) _) ag ?_;intro aj H;refine kg 3 ?_;refine W.ret ?_
 have ah:=M.e_pure hM
 exact ⟨_,resE_tmp rfl,⟨(!r2),ah,rfl,H⟩⟩

def zaC (so:Int->M Bool) (l:List Int):M Bool :=
  M.bind (zba l (fun aa=>zdA aa so)) fun r2 =>
  M.pure (!r2)
theorem zaE {R:List Chunk} {aa:Value} {ag:Cells} {ab:Value} (so:Int->M Bool) (l:List Int) (ah:FnM Tryz.prog R aa so) (ak:Reads R ag) (al:Sl ag ab l) {r:Bool} (hM:(zaC so l).Ends r) (w:World) (H:St w w [] R):Ret Tryz.prog 64 #[aa,ab] w fun v w'=>∃ (y0:Bool),y0=r/\v=B y0/\St w w' [] R:=by
 refine ret_of_W Tryz.func64 rfl rfl rfl ?_;refine kg 2 ?_;refine t_box (v:=aa) (cs:=[aa]) H rfl (FnM.cells ah) ?_;intro ac az H;refine kg 5 ?_;refine s_val (x_mf (fs:=[]) (cs:=[Pq ac]) rfl rfl) ?_;obtain ⟨aA,am,hM⟩:=M.e_bind hM;refine s_call cf90 [ab,.func (.func 108) #[] #[Pq ac]] rfl (zbM l (fun ae=>zdA ae so) (ak.app _) al ⟨108,[Pq ac],rfl,cf108,fun ai aB aC ao ae aD ap aE aq au=>by obtain rfl:=Arg.int aq; exact (zfr ae so (FnM.app (ah.app _) _) (Has.app (Has.here (k:=0) rfl) _) au ai (St.refl ap)).mono fun ao ai ⟨aF,av,aw,ax⟩=>by subst av; exact ⟨aw,ax⟩⟩ am _ (H.gt 1)) ?_
 rintro vq aG ⟨r2,rfl,hvq,aj⟩
 subst vq;(try dsimp only at hM);replace H:=H.bk aj;clear aj;refine kg 3 ?_;refine W.ret ?_
 have ay:=M.e_pure hM
 exact ⟨_,resE_tmp rfl,⟨(!r2),ay,rfl,(H.pk [])⟩⟩

def zcx (k:Int) (aa:List Work) (ab:Int):M Bool :=
  M.bind (zal k 0 ((aa.length:Int)-1)) fun r2 =>
  M.pure (r2&&(k != ab))
theorem zgb {R:List Chunk} {ac:Nat} {ae:Cells} {ag:Value} {ah:Nat} (k:Int) (ab:List Work) (aa:Int) (am:Reads R ae) (aj:Sl ae ag ab) (ao:Has R (cBlk ac [ag] 23)) (ap:Has R (cBlk ah [I aa] 3)) {r:Bool} (hM:(zcx k ab aa).Ends r) (w:World) (H:St w w [] R):Ret Tryz.prog 106 #[I k,Pq ac,Pq ah] w fun v w'=>∃ (y0:Bool),y0=r/\v=B y0/\St w w' [] R:=by
 refine ret_of_W Tryz.func106 rfl rfl rfl ?_
 have aq:=(aj).len_le
 refine kg 10 ?_;obtain ⟨au,ak,hM⟩:=M.e_bind hM;refine s_call cf66 [I k,I 0,I ((ab.length:Int)-1)] rfl (zap k 0 ((ab.length:Int)-1) ak _ (H.gt 0)) ?_
 rintro vq av ⟨r2,rfl,hvq,ai⟩
 subst vq;(try dsimp only at hM);replace H:=H.bk ai;clear ai;refine kg 4 ?_;refine s_val (x_pand (b:=r2) (r:=k != aa) rfl (fun hb=>gd_of (c:=r2) (by first | exact hb | (rw [hb]; rfl) | simp_all) (B (k != aa))) rfl) ?_;refine kg 2 ?_;refine W.ret ?_
 have al:=M.e_pure hM
 exact ⟨_,resE_tmp rfl,⟨(r2&&(k != aa)),al,rfl,H⟩⟩

def zdz (s:List Int) (v:Int):Nat->M (Nat ⊕ (Int ⊕ Unit)):=fun s2 =>
  bif decide ((s2:Int)<(s.length:Int)) then (
  M.grd (decide ((s2:Int)<(s.length:Int))) <|
  bif v==(s.getD s2 0) then (
  M.pure (.inr (.inl (s2:Int))))
  else (
  M.pure (.inl (s2+1))))
  else (
  M.pure (.inr (.inr ())))
def zbK (s:List Int) (v:Int):M Int :=
  M.bind (M.iter (zdz s v) 0) fun x_=>match x_ with
  | (.inl s3)=>(
  M.pure s3)
  | (.inr (_:Unit))=>(
  M.pure (-1))
theorem zaP {R:List Chunk} {ai:Cells} {ac:Value} (s:List Int) (v:Int) (av:Reads R ai) (al:Sl ai ac s) {r:Int} (hM:(zbK s v).Ends r) (w:World) (H:St w w [] R):Ret Tryz.prog 58 #[ac,I v] w fun v w'=>∃ (y0:Int),y0=r/\v=I y0/\St w w' [] R:=by
 refine ret_of_W Tryz.func58 rfl rfl rfl ?_
 have aw:=(al).len_le
 refine kg 12 ?_;obtain ⟨am,ae,aj⟩:=M.e_bind hM
 obtain ⟨ax,ae⟩:=M.e_iter ae
 refine W.loop (fun m σ W=>∃ (s2:Nat) (ρ:Env),σ=upds ρ [(0,ac),(1,I v),(7,I (s.length:Int)),(8,I (s2:Int))]/\M.iterN (zdz s v) m s2=some am/\St w W [] R) ?_ ?_
 ·exact ⟨_,0,_,upds_of _ _ ⟨rfl,rfl,rfl,rfl,trivial⟩,ae,H⟩
 rintro ay σ az ⟨s2,ρ,rfl,ak,H⟩
 obtain ⟨ao,ap,aA,hM,ag⟩:=M.e_iterN ak
 simp only [zdz] at hM
 clear ak;refine kg 5 ?_
 refine W.cond (decide ((s2:Int)<(s.length:Int))) rfl (fun aa=>?_) (fun aa=>?_)
 ·replace hM:=M.e_t hM aa
  replace aa:=dI aa
  obtain ⟨aB,hM⟩:=M.e_gd hM;refine kg 17 ?_
  refine W.cond (v==(s.getD s2 0)) rfl (fun ab=>?_) (fun ab=>?_)
  ·replace hM:=M.e_t hM ab
   replace ab:=dI ab
   refine kg 5 ?_;refine W.ret ?_
   have aq:=M.e_inr hM ag
   subst aq;replace hM:=aj;(try dsimp only at hM)
   have ah:=M.e_pure hM
   exact ⟨_,resE_tmp rfl,⟨(s2:Int),ah,rfl,H⟩⟩
  replace hM:=M.e_f hM ab
  replace ab:=dI ab
  refine kg 5 ?_
  exact ⟨ao,ap,s2+1,_,upds_of _ _ ⟨rfl,rfl,rfl,rfl,trivial⟩,M.e_inl hM ag,H⟩
 replace hM:=M.e_f hM aa
 replace aa:=dI aa
 refine W.exit ?_
 have au:=M.e_inr hM ag
 subst au;replace hM:=aj;(try dsimp only at hM);refine kg 4 ?_;refine W.ret ?_
 have ah:=M.e_pure hM
 exact ⟨_,resE_tmp rfl,⟨(-1),ah,rfl,H⟩⟩

def zak (s:List Int) (v:Int):M Bool :=
  M.bind (zbK s v) fun r2 =>
  M.pure (decide (0<=r2))
theorem zaq {R:List Chunk} {ab:Cells} {aa:Value} (s:List Int) (v:Int) (ae:Reads R ab) (ag:Sl ab aa s) {r:Bool} (hM:(zak s v).Ends r) (w:World) (H:St w w [] R):Ret Tryz.prog 62 #[aa,I v] w fun v w'=>∃ (y0:Bool),y0=r/\v=B y0/\St w w' [] R:=by
 refine ret_of_W Tryz.func62 rfl rfl rfl ?_;refine kg 8 ?_;obtain ⟨aj,ah,hM⟩:=M.e_bind hM;refine s_call cf58 [aa,I v] rfl (zaP s v (ae.app _) ag ah _ (H.gt 0)) ?_
 rintro vq ak ⟨r2,rfl,hvq,ac⟩
 subst vq;(try dsimp only at hM);replace H:=H.bk ac;clear ac;refine kg 3 ?_;refine W.ret ?_
 have ai:=M.e_pure hM
 exact ⟨_,resE_tmp rfl,⟨(decide (0<=r2)),ai,rfl,H⟩⟩

def zcV (w_:List Work) (s2:Nat):(Bool × Nat)->M ((Bool × Nat) ⊕ Bool):=fun (twice,s) =>
  bif decide ((s:Int)<(((w_.getD s2 default).of).length:Int)) then (
  M.grd (decide ((s:Int)<(((w_.getD s2 default).of).length:Int))) <|
  M.bind (M.opt (!twice) (zak (((w_.getD s2 default).of).take s) (((w_.getD s2 default).of).getD s 0)) false) fun r7 =>
  M.pure (.inl ((twice||r7),s+1)))
  else (
  M.pure (.inr twice))
def zcW (w_:List Work):(Bool × Nat)->M ((Bool × Nat) ⊕ (Unit ⊕ Bool)):=fun (twice3,s2) =>
  bif decide ((s2:Int)<(w_.length:Int)) then (
  M.grd (decide ((s2:Int)<(w_.length:Int))) <|
  M.bind (zal ((w_.getD s2 default).base) 0 1000002) fun r4 =>
  M.bind (M.opt (!(!r4)) (zal ((w_.getD s2 default).minutes) 0 10000) false) fun r5 =>
  M.bind (M.opt (!((!r4)||(!r5))) (zaC (fun aa=>zcx aa w_ (s2:Int)) ((w_.getD s2 default).of)) false) fun r6 =>
  bif (((!r4)||(!r5))||(!r6)) then (
  M.pure (.inr (.inl ())))
  else (
  M.bind (M.iter (zcV w_ s2) (twice3,0)) fun twice2 =>
  M.pure (.inl (twice2,s2+1))))
  else (
  M.pure (.inr (.inr twice3)))
def zci (w_:List Work):M Int :=
  M.bind (zal (w_.length:Int) 1 30) fun r2 =>
  M.bind (M.opt (!(!r2)) (zeD (fun aa=>zc1 aa) w_) false) fun r3 =>
  bif ((!r2)||(!r3)) then (
  M.pure 3)
  else (
  M.bind (M.iter (zcW w_) (false,0)) fun x_=>match x_ with
  | (.inl (_:Unit))=>(
  M.pure 140)
  | (.inr twice4)=>(
  bif twice4 then (
  M.pure 10)
  else (
  M.pure 0)))
theorem ze7 {R:List Chunk} {aL:Cells} {ac:Value} (w_:List Work) (ap:Reads R aL) (al:Sl aL ac w_) {r:Int} (hM:(zci w_).Ends r) (w:World) (H:St w w [] R):Ret Tryz.prog 55 #[ac] w fun v w'=>∃ (y0:Int),y0=r/\v=I y0/\St w w' [] R:=by
 refine ret_of_W Tryz.func55 rfl rfl rfl ?_;refine kg 2 ?_;refine t_box (v:=ac) (cs:=[ac]) H rfl (Sl.cells al) ?_;intro ae bm H
 have bn:=(al).len_le
 refine kg 7 ?_;obtain ⟨bo,aR,hM⟩:=M.e_bind hM;refine s_call cf66 [I (w_.length:Int),I 1,I 30] rfl (zap (w_.length:Int) 1 30 aR _ (H.gt 1)) ?_
 rintro vq bp ⟨r2,rfl,hvq,aq⟩
 subst vq;(try dsimp only at hM);replace H:=H.bk aq;clear aq;refine kg 3 ?_;obtain ⟨r3,aS,hM⟩:=M.e_bind hM;refine t_gcall (!(!r2)) (gy_f rfl) cf104 (B r3) (fun _=>[.func (.func 105) #[] #[],ac]) (fun hg=>lst2 rfl (gd_of hg (ac))) H (fun hg=>(zfv (fun ag=>zc1 ag) w_ ⟨105,[],rfl,cf105,fun au aT aU aw ag aV ax aM ay az=>by obtain ⟨br,rfl,aW⟩:=Work_arg ay; exact (zgi ag aM aW az au (St.refl ax)).mono fun aw au ⟨aX,aA,aB,aC⟩=>by subst aA; exact ⟨aB,aC⟩⟩ (ap.app _) al (M.e_opt aS hg) _ (H.give (A:=[]) rfl)).mono fun v_ w_ ⟨y_,aa,ah,H_⟩=>by subst aa; exact ⟨ah,H.via H_⟩) ?_;intro bt H;refine kg 1 ?_;refine s_val (x_por (b:=!r2) (r:=!r3) rfl rfl (fun hb=>gd_of (c:=!(!r2)) (by first | exact hb | (rw [hb]; rfl) | simp_all) (B (!r3))))<|s_nil ?_
 refine W.cond ((!r2)||(!r3)) rfl (fun aD=>?_) (fun aD=>?_)
 ·replace hM:=M.e_t hM aD;refine kg 4 ?_;refine W.ret ?_
  have aa:=M.e_pure hM
  exact ⟨_,resE_tmp rfl,⟨3,aa,rfl,(H.pk [])⟩⟩
 replace hM:=M.e_f hM aD
 have bu:=(al).len_le
 refine kg 13 ?_;obtain ⟨aY,aE,aN⟩:=M.e_bind hM
 obtain ⟨aZ,aE⟩:=M.e_iter aE
 refine W.loop (fun m σ W=>∃ (twice3:Bool) (s2:Nat) (ρ:Env),σ=upds ρ [(1,Pq ae),(3,B twice3),(17,ac),(18,I (w_.length:Int)),(19,I (s2:Int))]/\M.iterN (zcW w_) m (twice3,s2)=some aY/\St w W [cBlk ae [ac] 23] R) ?_ ?_
 ·exact ⟨_,false,0,_,upds_of _ _ ⟨rfl,rfl,rfl,rfl,rfl,trivial⟩,aE,H⟩
 rintro bv σ bw ⟨twice3,s2,ρ,rfl,aO,H⟩
 obtain ⟨a0,a4,bx,hM,aF⟩:=M.e_iterN aO
 simp only [zcW] at hM
 clear aO;refine kg 5 ?_
 refine W.cond (decide ((s2:Int)<(w_.length:Int))) rfl (fun ai=>?_) (fun ai=>?_)
 ·replace hM:=M.e_t hM ai
  replace ai:=dI ai
  obtain ⟨bz,hM⟩:=M.e_gd hM;refine kg 7 ?_
  obtain ⟨ab,a5,aj⟩:=Work_atA al (i:=(s2:Int)) (by omega) (by omega)
  replace aj:Sl _ ab (w_.getD s2 default).of:=aj
  have bA:=aj.len_le
  refine s_val (x_ld (v:=.agg #[ab,I ((w_.getD s2 default).base),I ((w_.getD s2 default).minutes)]) rfl (ld_ag Ag34 Sz34 (At.mono a5 (ap.at H)))) ?_;refine t_alloc (cs:=[I 0]) H Al3 rfl ?_;intro am bB H;refine t_alloc (cs:=[.slice none 0 0,I 0,I 0]) H Al34 rfl ?_;intro ao bC H;refine t_sw 1 0 [I (s2:Int)] (I (s2:Int)) H rfl rfl Sz3 rfl rfl rfl rfl ?_;intro bD H;refine t_sw 0 0 [ab,I ((w_.getD s2 default).base),I ((w_.getD s2 default).minutes)] (.agg #[ab,I ((w_.getD s2 default).base),I ((w_.getD s2 default).minutes)]) H rfl rfl Sz34 rfl rfl rfl (by simp only [List.all_cons,List.all_nil,Bool.true_and,Bool.and_true,Sl.oc aj]; try rfl) ?_;intro bE H;refine kg 6 ?_;obtain ⟨bF,a6,hM⟩:=M.e_bind hM;refine s_call cf66 [I ((w_.getD s2 default).base),I 0,I 1000002] rfl (zap ((w_.getD s2 default).base) 0 1000002 a6 _ (H.gt 3)) ?_
  rintro vq bG ⟨r4,rfl,hvq,aq⟩
  subst vq;(try dsimp only at hM);replace H:=H.bk aq;clear aq;refine kg 4 ?_;obtain ⟨r5,a7,hM⟩:=M.e_bind hM;refine t_gcall (!(!r4)) (gy_f rfl) cf66 (B r5) (fun _=>[I ((w_.getD s2 default).minutes),I 0,I 10000]) (fun hg=>lst3 (gd_of hg (I ((w_.getD s2 default).minutes))) rfl rfl) H (fun hg=>(zap ((w_.getD s2 default).minutes) 0 10000 (M.e_opt a7 hg) _ (H.give (A:=[]) rfl)).mono fun v_ w_ ⟨y_,aa,ah,H_⟩=>by subst aa; exact ⟨ah,H.via H_⟩) ?_;intro bH H;refine kg 1 ?_;refine s_val (x_por (b:=!r4) (r:=!r5) rfl rfl (fun hb=>gd_of (c:=!(!r4)) (by first | exact hb | (rw [hb]; rfl) | simp_all) (B (!r5))))<|zM (B ((!r4)||(!r5))) rfl<|g_val (!((!r4)||(!r5))) (gy_f rfl) (fun hg=>x_mf (fs:=[]) (cs:=[Pq ae,Pq am]) rfl rfl)<|g_val (!((!r4)||(!r5))) (gy_f rfl) (fun hg=>x_fa (v:=Pq ao) rfl (fa_blk (o:=0) Fd34_0 Sz22))<|g_val (!((!r4)||(!r5))) (gy_f rfl) (fun hg=>x_ld (v:=ab) (gd_of hg (Pq ao)) (ldb_sc Sc22 (H.bl 0) rfl)) ?_;obtain ⟨r6,a8,hM⟩:=M.e_bind hM;refine t_gcall (!((!r4)||(!r5))) (gy_f rfl) cf64 (B r6) (fun _=>[.func (.func 106) #[] #[Pq ae,Pq am],ab]) (fun hg=>lst2 (gd_of hg (.func (.func 106) #[] #[Pq ae,Pq am])) (gd_of hg (ab))) H (fun hg=>(zaE (fun ag=>zcx ag w_ (s2:Int)) ((w_.getD s2 default).of) ⟨106,[Pq ae,Pq am],rfl,cf106,fun au aT aU aw ag aV ax aM ay az=>by obtain rfl:=Arg.int ay; exact (zgb ag w_ (s2:Int) (Reads.app (ap.app _) _) al (Has.app (Has.here (k:=2) rfl) _) (Has.app (Has.here (k:=1) rfl) _) az au (St.refl ax)).mono fun aw au ⟨aX,aA,aB,aC⟩=>by subst aA; exact ⟨aB,aC⟩⟩ (ap.app _) aj (M.e_opt a8 hg) _ (H.give (A:=[]) rfl)).mono fun v_ w_ ⟨y_,aa,ah,H_⟩=>by subst aa; exact ⟨ah,H.via H_⟩) ?_;intro bI H;refine g_val (!((!r4)||(!r5))) (gy_f rfl) (fun hg=>x_not (b:=r6) (gd_of hg (B r6)))<|s_val (x_por (b:=((!r4)||(!r5))) (r:=!r6) rfl rfl (fun hb=>gd_of (c:=!((!r4)||(!r5))) (by first | exact hb | (rw [hb]; rfl) | simp_all) (B (!r6))))<|s_nil ?_
  refine W.cond (((!r4)||(!r5))||(!r6)) rfl (fun aG=>?_) (fun aG=>?_)
  ·replace hM:=M.e_t hM aG;refine kg 4 ?_;replace H:=H.pk [2];refine W.ret ?_
   have a9:=M.e_inr hM aF
   subst a9;replace hM:=aN;(try dsimp only at hM)
   have aa:=M.e_pure hM
   exact ⟨_,resE_tmp rfl,⟨140,aa,rfl,(H.pk [])⟩⟩
  replace hM:=M.e_f hM aG
  have bJ:=(aj).len_le
  refine kg 9 ?_;obtain ⟨ba,aH,bb⟩:=M.e_bind hM
  obtain ⟨aZ,aH⟩:=M.e_iter aH
  refine W.loop (fun m σ W=>∃ (twice:Bool) (s:Nat) (ρ:Env),σ=upds ρ [(1,Pq ae),(3,B twice),(5,Pq ao),(17,ac),(18,I (w_.length:Int)),(19,I (s2:Int)),(29,gd (!(!r4)) (Oq ao 2)),(30,gd (!(!r4)) (I ((w_.getD s2 default).minutes))),(31,gd (!(!r4)) (B r5)),(32,gd (!(!r4)) (B (!r5))),(35,gd (!((!r4)||(!r5))) (.func (.func 106) #[] #[Pq ae,Pq am])),(36,gd (!((!r4)||(!r5))) (Pq ao)),(37,gd (!((!r4)||(!r5))) ab),(38,gd (!((!r4)||(!r5))) (B r6)),(39,gd (!((!r4)||(!r5))) (B (!r6))),(42,ab),(43,I (((w_.getD s2 default).of).length:Int)),(44,I (s:Int))]/\M.iterN (zcV w_ s2) m (twice,s)=some ba/\St w W [cBlk ao [ab,I ((w_.getD s2 default).base),I ((w_.getD s2 default).minutes)] 34,cBlk am [I (s2:Int)] 3,cBlk ae [ac] 23] R) ?_ ?_
  ·exact ⟨_,twice3,0,_,upds_of _ _ ⟨rfl,rfl,rfl,rfl,rfl,rfl,rfl,rfl,rfl,rfl,rfl,rfl,rfl,rfl,rfl,rfl,rfl,rfl,trivial⟩,aH,H⟩
  rintro bK σ bL ⟨twice,s,ρ,rfl,aP,H⟩
  obtain ⟨bc,bf,bM,hM,aQ⟩:=M.e_iterN aP
  simp only [zcV] at hM
  clear aP;refine kg 5 ?_
  refine W.cond (decide ((s:Int)<(((w_.getD s2 default).of).length:Int))) rfl (fun ak=>?_) (fun ak=>?_)
  ·replace hM:=M.e_t hM ak
   replace ak:=dI ak
   obtain ⟨bN,hM⟩:=M.e_gd hM;refine kg 17 ?_
   obtain ⟨av,bg,aI⟩:=gd_ex (c:=!twice) fun hg=>sl_hi T22.und T22.size aj (j:=(s:Int)) (by first | omega | (have aJ:=hg; simp at aJ; omega)) (by first | omega | (have aJ:=hg; simp at aJ; omega))
   replace aI:(!twice)=true->Sl _ av (((w_.getD s2 default).of).take s):=aI
   refine g_val (!twice) (gy_f rfl) (fun hg=>x_sl (v:=ab) (u:=av) (lo':=none) (hi':=some (I (s:Int))) (mx':=none) (gd_of hg (ab)) rfl (congrArg some (gd_of hg (I (s:Int)))) rfl (bg hg _)) ?_;refine kg 1 ?_;obtain ⟨r7,bh,hM⟩:=M.e_bind hM;refine t_gcall (!twice) (gy_f rfl) cf62 (B r7) (fun _=>[av,I (((w_.getD s2 default).of).getD s 0)]) (fun hg=>lst2 (gd_of hg (av)) (gd_of hg (I (((w_.getD s2 default).of).getD s 0)))) H (fun hg=>(zaq (((w_.getD s2 default).of).take s) (((w_.getD s2 default).of).getD s 0) (ap.app _) (aI hg) (M.e_opt bh hg) _ (H.give (A:=[]) rfl)).mono fun v_ w_ ⟨y_,aa,ah,H_⟩=>by subst aa; exact ⟨ah,H.via H_⟩) ?_;intro bO H;refine s_val (x_por (b:=twice) (r:=r7) rfl rfl (fun hb=>gd_of (c:=!twice) (by first | exact hb | (rw [hb]; rfl) | simp_all) (B r7)))<|zA (B (twice||r7)) rfl ?_;refine kg 5 ?_
   exact ⟨bc,bf,(twice||r7),s+1,_,upds_of _ _ ⟨rfl,rfl,rfl,rfl,rfl,rfl,rfl,rfl,rfl,rfl,rfl,rfl,rfl,rfl,rfl,rfl,rfl,rfl,trivial⟩,M.e_inl hM aQ,H⟩
  replace hM:=M.e_f hM ak
  replace ak:=dI ak
  refine W.exit ?_
  have bi:=M.e_inr hM aQ
  subst bi;replace hM:=bb;(try dsimp only at hM);refine kg 4 ?_
  exact ⟨a0,a4,twice,s2+1,_,upds_of _ _ ⟨rfl,rfl,rfl,rfl,rfl,trivial⟩,M.e_inl hM aF,(H.pk [2])⟩
 replace hM:=M.e_f hM ai
 replace ai:=dI ai
 refine W.exit ?_
 have bj:=M.e_inr hM aF
 subst bj;replace hM:=aN;(try dsimp only at hM);refine kg 5 ?_
 refine W.cond twice3 rfl (fun aK=>?_) (fun aK=>?_)
 ·replace hM:=M.e_t hM aK;refine kg 4 ?_;refine W.ret ?_
  have aa:=M.e_pure hM
  exact ⟨_,resE_tmp rfl,⟨10,aa,rfl,(H.pk [])⟩⟩
 replace hM:=M.e_f hM aK;refine kg 5 ?_;refine W.ret ?_
 have aa:=M.e_pure hM
 exact ⟨_,resE_tmp rfl,⟨0,aa,rfl,(H.pk [])⟩⟩

def zbq (i:Int) (aa:List Int):M Bool :=
  M.bind (zak aa i) fun r2 =>
  M.pure r2
theorem zeV {R:List Chunk} {ac:Nat} {ae:Cells} {aa:Value} (i:Int) (ab:List Int) (ah:Reads R ae) (ai:Sl ae aa ab) (al:Has R (cBlk ac [aa] 22)) {r:Bool} (hM:(zbq i ab).Ends r) (w:World) (H:St w w [] R):Ret Tryz.prog 107 #[I i,Pq ac] w fun v w'=>∃ (y0:Bool),y0=r/\v=B y0/\St w w' [] R:=by
 refine ret_of_W Tryz.func107 rfl rfl rfl ?_;refine kg 8 ?_;obtain ⟨am,aj,hM⟩:=M.e_bind hM;refine s_call cf62 [aa,I i] rfl (zaq ab i (ah.app _) ai aj _ (H.gt 0)) ?_
 rintro vq ao ⟨r2,rfl,hvq,ag⟩
 subst vq;(try dsimp only at hM);replace H:=H.bk ag;clear ag;refine kg 2 ?_;refine W.ret ?_
 have ak:=M.e_pure hM
 exact ⟨_,resE_tmp rfl,⟨r2,ak,rfl,H⟩⟩

def zcQ (aa:List Work):(Int × (List Int))->M ((Int × (List Int)) ⊕ ((List Int) × (List Int))):=fun (i,l) =>
  bif decide (i<(aa.length:Int)) then (
  M.bind (zbq i l) fun r2 =>
  M.grd ((!(!r2)||(decide ((0:Int)<=i)&&decide (i<(aa.length:Int))))) <|
  M.bind (M.opt (!r2) (zaC (fun ab=>zbq ab l) ((aa.getD (Int.toNat i) default).of)) false) fun r3 =>
  bif ((!r2)&&r3) then (
  M.grd (decide ((l.length+([(i:Int)]).length)*8<=140737488355328)) <|
  M.grd (decide ((-9223372036854775808:Int)<=((-1)+1))&&decide (((-1)+1)<=(9223372036854775807:Int))) <|
  M.pure (.inl ((-1)+1,l++([(i:Int)]))))
  else (
  M.grd (decide ((-9223372036854775808:Int)<=(i+1))&&decide ((i+1)<=(9223372036854775807:Int))) <|
  M.pure (.inl (i+1,l))))
  else (
  M.pure (.inr (l,l)))
def zdq (aa:List Work):M (List Int) :=
  M.bind (M.iter (zcQ aa) (0,[])) fun (l2,l3) =>
  M.pure l3
theorem zeM {R:List Chunk} {aj:Nat} {ax:Cells} {ak:Value} (ae:List Work) (ay:Reads R ax) (az:Sl ax ak ae) (aU:Has R (cBlk aj [ak] 97)) {r:(List Int)} (hM:(zdq ae).Ends r) (w:World) (H:St w w [] R):Ret Tryz.prog 56 #[Pq aj] w fun v w'=>∃ (y0:List Int) (u0:Value),y0=r/\v=u0/\St w w' [cOwn (α:=Int) 3 u0 y0] R:=by
 refine ret_of_W Tryz.func56 rfl rfl rfl ?_;refine kg 6 ?_;refine t_alloc (cs:=[.slice none 0 0]) H Al22 rfl ?_;intro aa aV H;refine kg 3 ?_;refine s_val (x_mf (fs:=[]) (cs:=[Pq aa]) rfl rfl) ?_;refine kg 8 ?_
 replace H:=H.nilOwn (α:=Int) 3
 obtain ⟨aF,al,aG⟩:=M.e_bind hM
 obtain ⟨aW,al⟩:=M.e_iter al
 refine W.loop (fun m σ W=>∃ (i:Int) (l:List Int) (ag:Value) (ρ:Env),σ=upds ρ [(0,Pq aj),(3,Pq aa),(4,.func (.func 107) #[] #[Pq aa]),(5,I i)]/\M.iterN (zcQ ae) m (i,l)=some aF/\St w W [cOwn (α:=Int) 3 ag l,cBlk aa [ag] 22] R) ?_ ?_
 ·exact ⟨_,0,[],(.slice none 0 0),_,upds_of _ _ ⟨rfl,rfl,rfl,rfl,trivial⟩,al,H⟩
 rintro aX σ aY ⟨i,l,ag,ρ,rfl,aA,H⟩
 obtain ⟨aB,aC,aZ,hM,am⟩:=M.e_iterN aA
 simp only [zcQ] at hM
 clear aA
 have a0:=(az).len_le
 refine kg 12 ?_
 refine W.cond (decide (i<(ae.length:Int))) rfl (fun ab=>?_) (fun ab=>?_)
 ·replace hM:=M.e_t hM ab
  replace ab:=dI ab
  refine kg 7 ?_;obtain ⟨a4,aH,hM⟩:=M.e_bind hM;refine s_callv (f:=107) rfl cf107 [I i] rfl (zeV i l (rdo 0) (H.os 0) (Has.here (k:=1) rfl) aH _ (H.gt 2)) ?_
  rintro vq a5 ⟨r2,rfl,hvq,aD⟩
  subst vq;(try dsimp only at hM);replace H:=H.bk aD;clear aD;obtain ⟨ah,hM⟩:=M.e_grd hM
  replace ah:=M.imp_of ah
  simp only [Bool.and_eq_true,decide_eq_true_eq] at ah
  refine kg 11 ?_
  obtain ⟨ai,aI,ao⟩:=gd_ex (c:=!r2) fun hg=>Work_at0 az (i:=i) (by have ac:=ah.resolve_left (by rw [hg]; decide); first | exact ac | exact ac.1 | exact ac.2 | omega | (have ap:=hg; simp at ap; omega)) (by have ac:=ah.resolve_left (by rw [hg]; decide); first | exact ac | exact ac.1 | exact ac.2 | omega | (have ap:=hg; simp at ap; omega))
  replace ao:(!r2)=true->Sl _ ai (ae.getD (Int.toNat i) default).of:=ao
  refine g_val (!r2) (gy_t rfl) (fun hg=>x_ld (v:=ai) (gd_of hg (fat (vat ak 3 (Int.toNat i)) 0)) (ld_sc Sc22 (At.mono (aI hg) (ay.at H)))) ?_;obtain ⟨r3,aJ,hM⟩:=M.e_bind hM;refine t_gcall (!r2) (gy_t rfl) cf64 (B r3) (fun _=>[.func (.func 107) #[] #[Pq aa],ai]) (fun hg=>lst2 (gd_of hg (.func (.func 107) #[] #[Pq aa])) (gd_of hg (ai))) H (fun hg=>(zaE (fun aq=>zbq aq l) ((ae.getD (Int.toNat i) default).of) ⟨107,[Pq aa],rfl,cf107,fun aE a6 a7 aK aq a8 aL a9 aM aN=>by obtain rfl:=Arg.int aM; exact (zeV aq l (Reads.app (rdo 0) _) (H.os 0) (Has.app (Has.here (k:=1) rfl) _) aN aE (St.refl aL)).mono fun aK aE ⟨ba,aO,aP,aQ⟩=>by subst aO; exact ⟨aP,aQ⟩⟩ (ay.app _) (ao hg) (M.e_opt aJ hg) _ (H.give (A:=[]) rfl)).mono fun v_ w_ ⟨y_,au,aR,H_⟩=>by subst au; exact ⟨aR,H.via H_⟩) ?_;intro bb H;refine s_val (x_pand (b:=!r2) (r:=r3) rfl (fun hb=>gd_of (c:=!r2) (by first | exact hb | (rw [hb]; rfl) | simp_all) (B r3)) rfl)<|s_nil ?_
  refine W.cond ((!r2)&&r3) rfl (fun av=>?_) (fun av=>?_)
  ·replace hM:=M.e_t hM av;refine kg 4 ?_;refine t_bs (α:=Int) T22 [I i] [(i:Int)] H rfl (.cons rfl (Flat.rep_enc _ (i:Int))<|.nil) rfl rfl rfl ?_;intro aS bc H;obtain ⟨bf,hM⟩:=M.e_gd hM;refine t_app (α:=Int) (k:=1) (l:=l) (l2:=[(i:Int)]) (l':=l++([(i:Int)])) (vy:=aS) T22 rfl H rfl rfl rfl (H.os 0) (H.ol 0) (rfl) (by first | omega | (simp only [List.length_nil] at *; omega)) ?_;intro aw bg H;replace H:=H.nf;refine t_sw 2 0 [aw] aw H rfl rfl Sz22 (Sl.cells (H.os 1)) rfl rfl (by simp only [List.all_cons,List.all_nil,Bool.true_and,Bool.and_true,Sl.oc (H.os 1)]; try rfl) ?_;intro bh H;obtain ⟨bi,hM⟩:=M.e_gd hM;refine kg 9 ?_
   exact ⟨aB,aC,(-1)+1,l++([(i:Int)]),aw,_,upds_of _ _ ⟨rfl,rfl,rfl,rfl,trivial⟩,M.e_inl hM am,(H.pk [1,2])⟩
  replace hM:=M.e_f hM av;obtain ⟨bj,hM⟩:=M.e_gd hM;refine kg 6 ?_
  exact ⟨aB,aC,i+1,l,ag,_,upds_of _ _ ⟨rfl,rfl,rfl,rfl,trivial⟩,M.e_inl hM am,H⟩
 replace hM:=M.e_f hM ab
 replace ab:=dI ab
 refine W.exit ?_
 have aT:=M.e_inr hM am
 subst aT;replace hM:=aG;(try dsimp only at hM);refine kg 5 ?_;refine W.ret ?_
 have au:=M.e_pure hM
 exact ⟨_,resE_tmp rfl,⟨l,ag,au,rfl,(H.pk [0])⟩⟩

def zaD (w_:List Work):M (Int ⊕ ((List Int) × Int)) :=
  M.bind (zci w_) fun r2 =>
  bif r2 != 0 then (
  M.pure (.inl r2))
  else (
  M.bind (zdq w_) fun r3 =>
  bif decide ((r3.length:Int)<(w_.length:Int)) then (
  M.pure (.inl 9))
  else (
  M.pure (.inr (r3,0))))
theorem zaO {R:List Chunk} {ai:Cells} {aa:Value} (w_:List Work) (aj:Reads R ai) (ah:Sl ai aa w_) {r:(Int ⊕ ((List Int) × Int))} (hM:(zaD w_).Ends r) (w:World) (H:St w w [] R):Ret Tryz.prog 51 #[aa] w fun v w'=>(∃ (y0:Int),(.inl y0)=r/\v = .tuple #[.pointer none,.slice none 0 0,I y0]/\St w w' [] R)∨(∃ (y0:List Int) (y1:Int) (ak:Nat) (u1:Value),(.inr (y0,y1))=r/\v = .tuple #[Pq ak,u1,I y1]/\St w w' [cBlk ak [aa] 97,cOwn (α:=Int) 3 u1 y0] R):=by
 refine ret_of_W Tryz.func51 rfl rfl rfl ?_;refine kg 10 ?_;obtain ⟨aq,am,hM⟩:=M.e_bind hM;refine s_call cf55 [aa] rfl (ze7 w_ (aj.app _) ah am _ (H.gt 0)) ?_
 rintro vq au ⟨r2,rfl,hvq,ae⟩
 subst vq;(try dsimp only at hM);replace H:=H.bk ae;clear ae;refine kg 7 ?_
 refine W.cond (r2 != 0) rfl (fun ab=>?_) (fun ab=>?_)
 ·replace hM:=M.e_t hM ab
  replace ab:=dI ab
  refine kg 7 ?_;refine W.ret ?_
  have ag:=M.e_pure hM
  exact ⟨_,resE_tmp3 rfl,.inl (⟨r2,ag,rfl,H⟩)⟩
 replace hM:=M.e_f hM ab
 replace ab:=dI ab
 refine kg 4 ?_;refine s_val (x_bld (ps:=[(0,aa)]) (zs:=[.slice none 0 0]) (L':=[aa]) rfl Tryz.underlying95 Al95 rfl (Bd95 Tryz.underlying95) (.cons (cs:=[aa]) (Sl.cells ah) rfl rfl rfl rfl<|.nil))<|s_val (x_bld (ps:=[(0,.agg #[aa])]) (zs:=[.slice none 0 0]) (L':=[aa]) rfl Tryz.underlying97 Al97 rfl (Bd97 Tryz.underlying97) (.cons (cs:=[aa]) rfl rfl rfl rfl rfl<|.nil)) ?_;refine t_bx [aa] H rfl ?_;intro al av H;refine kg 5 ?_;obtain ⟨aw,ao,hM⟩:=M.e_bind hM;refine s_call cf56 [Pq al] rfl (zeM w_ (aj.app _) ah (Has.here (k:=0) rfl) ao _ (H.gt 1)) ?_
 rintro vq ax ⟨r3,ap,rfl,hvq,ae⟩
 subst vq;(try dsimp only at hM);replace H:=H.bk ae;clear ae
 have ay:=((H.os 0)).len_le
 have az:=(ah).len_le
 refine kg 11 ?_
 refine W.cond (decide ((r3.length:Int)<(w_.length:Int))) rfl (fun ac=>?_) (fun ac=>?_)
 ·replace hM:=M.e_t hM ac
  replace ac:=dI ac
  refine kg 6 ?_;replace H:=H.pk [];refine W.ret ?_
  have ag:=M.e_pure hM
  exact ⟨_,resE_tmp3 rfl,.inl (⟨9,ag,rfl,H⟩)⟩
 replace hM:=M.e_f hM ac
 replace ac:=dI ac
 refine kg 9 ?_;refine W.ret ?_
 have ag:=M.e_pure hM
 exact ⟨_,resE_tmp3 rfl,.inr (⟨r3,0,al,ap,ag,rfl,(H.pk [1,0])⟩)⟩

def za4 (s:List Note) (f:Note->M Bool):Nat->M (Nat ⊕ (Int ⊕ Unit)):=fun s2 =>
  bif decide ((s2:Int)<(s.length:Int)) then (
  M.grd (decide ((s2:Int)<(s.length:Int))) <|
  M.bind (f (s.getD s2 default)) fun r2 =>
  bif r2 then (
  M.pure (.inr (.inl (s2:Int))))
  else (
  M.pure (.inl (s2+1))))
  else (
  M.pure (.inr (.inr ())))
def zdn (s:List Note) (f:Note->M Bool):M Int :=
  M.bind (M.iter (za4 s f) 0) fun x_=>match x_ with
  | (.inl s3)=>(
  M.pure s3)
  | (.inr (_:Unit))=>(
  M.pure (-1))
theorem zf9 {R:List Chunk} {aj:Cells} {ab:Value} {ac:Value} (s:List Note) (f:Note->M Bool) (ao:Reads R aj) (ak:Sl aj ab s) (ap:FnM Tryz.prog R ac f) {r:Int} (hM:(zdn s f).Ends r) (w:World) (H:St w w [] R):Ret Tryz.prog 125 #[ab,ac] w fun v w'=>∃ (y0:Int),y0=r/\v=I y0/\St w w' [] R:=by
 refine ret_of_W Tryz.func125 rfl rfl rfl ?_
 have az:=(ak).len_le
 refine kg 12 ?_;obtain ⟨aq,ae,al⟩:=M.e_bind hM
 obtain ⟨aA,ae⟩:=M.e_iter ae
 refine W.loop (fun m σ W=>∃ (s2:Nat) (ρ:Env),σ=upds ρ [(0,ab),(1,ac),(7,I (s.length:Int)),(8,I (s2:Int))]/\M.iterN (za4 s f) m s2=some aq/\St w W [] R) ?_ ?_
 ·exact ⟨_,0,_,upds_of _ _ ⟨rfl,rfl,rfl,rfl,trivial⟩,ae,H⟩
 rintro aB σ aC ⟨s2,ρ,rfl,am,H⟩
 obtain ⟨au,av,aD,hM,ag⟩:=M.e_iterN am
 simp only [za4] at hM
 clear am;refine kg 5 ?_
 refine W.cond (decide ((s2:Int)<(s.length:Int))) rfl (fun aa=>?_) (fun aa=>?_)
 ·replace hM:=M.e_t hM aa
  replace aa:=dI aa
  obtain ⟨aE,hM⟩:=M.e_gd hM;refine kg 14 ?_;refine s_val (x_ld (v:=.agg #[I ((s.getD s2 default).work),I ((s.getD s2 default).version),I ((s.getD s2 default).value)]) rfl (ld_ag Ag26 Sz26 (At.mono (Note_atA ak (i:=(s2:Int)) (by omega) (by omega)) (ao.at H)))) ?_;obtain ⟨r2,aw,hM⟩:=M.e_bind hM;refine t_callM H ap rfl rfl (s.getD s2 default) Reads.none ⟨_,rfl,rfl⟩ aw ?_;intro aF H;refine s_nil ?_
  refine W.cond r2 rfl (fun ah=>?_) (fun ah=>?_)
  ·replace hM:=M.e_t hM ah;refine kg 5 ?_;refine W.ret ?_
   have ax:=M.e_inr hM ag
   subst ax;replace hM:=al;(try dsimp only at hM)
   have ai:=M.e_pure hM
   exact ⟨_,resE_tmp rfl,⟨(s2:Int),ai,rfl,H⟩⟩
  replace hM:=M.e_f hM ah;refine kg 5 ?_
  exact ⟨au,av,s2+1,_,upds_of _ _ ⟨rfl,rfl,rfl,rfl,trivial⟩,M.e_inl hM ag,H⟩
 replace hM:=M.e_f hM aa
 replace aa:=dI aa
 refine W.exit ?_
 have ay:=M.e_inr hM ag
 subst ay;replace hM:=al;(try dsimp only at hM);refine kg 4 ?_;refine W.ret ?_
 have ai:=M.e_pure hM
 exact ⟨_,resE_tmp rfl,⟨(-1),ai,rfl,H⟩⟩

def zb2 (s:List Note) (f:Note->M Bool):M Bool :=
  M.bind (zdn s f) fun r2 =>
  M.pure (decide (0<=r2))
theorem zf6 {R:List Chunk} {ac:Cells} {aa:Value} {ab:Value} (s:List Note) (f:Note->M Bool) (ag:Reads R ac) (ah:Sl ac aa s) (ai:FnM Tryz.prog R ab f) {r:Bool} (hM:(zb2 s f).Ends r) (w:World) (H:St w w [] R):Ret Tryz.prog 111 #[aa,ab] w fun v w'=>∃ (y0:Bool),y0=r/\v=B y0/\St w w' [] R:=by
 refine ret_of_W Tryz.func111 rfl rfl rfl ?_;refine kg 8 ?_;obtain ⟨al,aj,hM⟩:=M.e_bind hM;refine s_call cf125 [aa,ab] rfl (zf9 s f (ag.app _) ah (ai.app _) aj _ (H.gt 0)) ?_
 rintro vq am ⟨r2,rfl,hvq,ae⟩
 subst vq;(try dsimp only at hM);replace H:=H.bk ae;clear ae;refine kg 3 ?_;refine W.ret ?_
 have ak:=M.e_pure hM
 exact ⟨_,resE_tmp rfl,⟨(decide (0<=r2)),ak,rfl,H⟩⟩

def zdV (x:Note) (aa:Note->M Bool):M Bool :=
  M.bind (aa x) fun r2 =>
  M.pure (!r2)
theorem zfL {R:List Chunk} {aa:Nat} {ab:Value} (x:Note) (ac:Note->M Bool) (ae:FnM Tryz.prog R ab ac) (ai:Has R (cBlk aa [ab] 112)) {r:Bool} (hM:(zdV x ac).Ends r) (w:World) (H:St w w [] R):Ret Tryz.prog 112 #[.agg #[I x.work,I x.version,I x.value],Pq aa] w fun v w'=>∃ (y0:Bool),y0=r/\v=B y0/\St w w' [] R:=by
 refine ret_of_W Tryz.func112 rfl rfl rfl ?_;refine kg 2 ?_;refine t_bx [I x.work,I x.version,I x.value] H rfl ?_;intro aj ak H;refine kg 6 ?_;obtain ⟨r2,ag,hM⟩:=M.e_bind hM;refine t_callM H ae rfl rfl x Reads.none ⟨_,rfl,rfl⟩ ag ?_;intro al H;refine kg 3 ?_;refine W.ret ?_
 have ah:=M.e_pure hM
 exact ⟨_,resE_tmp rfl,⟨(!r2),ah,rfl,(H.pk [])⟩⟩

def zaY (so:Note->M Bool) (l:List Note):M Bool :=
  M.bind (zb2 l (fun aa=>zdV aa so)) fun r2 =>
  M.pure (!r2)
theorem zfb {R:List Chunk} {aa:Value} {ag:Cells} {ab:Value} (so:Note->M Bool) (l:List Note) (ah:FnM Tryz.prog R aa so) (ak:Reads R ag) (al:Sl ag ab l) {r:Bool} (hM:(zaY so l).Ends r) (w:World) (H:St w w [] R):Ret Tryz.prog 73 #[aa,ab] w fun v w'=>∃ (y0:Bool),y0=r/\v=B y0/\St w w' [] R:=by
 refine ret_of_W Tryz.func73 rfl rfl rfl ?_;refine kg 2 ?_;refine t_box (v:=aa) (cs:=[aa]) H rfl (FnM.cells ah) ?_;intro ac az H;refine kg 5 ?_;refine s_val (x_mf (fs:=[]) (cs:=[Pq ac]) rfl rfl) ?_;obtain ⟨aA,am,hM⟩:=M.e_bind hM;refine s_call cf111 [ab,.func (.func 112) #[] #[Pq ac]] rfl (zf6 l (fun ae=>zdV ae so) (ak.app _) al ⟨112,[Pq ac],rfl,cf112,fun ai aB aC ao ae aD ap aE aq au=>by obtain rfl:=Note_arg aq; exact (zfL ae so (FnM.app (ah.app _) _) (Has.app (Has.here (k:=0) rfl) _) au ai (St.refl ap)).mono fun ao ai ⟨aF,av,aw,ax⟩=>by subst av; exact ⟨aw,ax⟩⟩ am _ (H.gt 1)) ?_
 rintro vq aG ⟨r2,rfl,hvq,aj⟩
 subst vq;(try dsimp only at hM);replace H:=H.bk aj;clear aj;refine kg 3 ?_;refine W.ret ?_
 have ay:=M.e_pure hM
 exact ⟨_,resE_tmp rfl,⟨(!r2),ay,rfl,(H.pk [])⟩⟩

def zdQ (n:Note) (aa:List Work):M Bool :=
  M.bind (zal n.work 0 ((aa.length:Int)-1)) fun r2 =>
  M.grd ((!r2||(decide ((0:Int)<=n.work)&&decide (n.work<(aa.length:Int))))) <|
  M.pure (r2&&((((aa.getD (Int.toNat n.work) default).of).length:Int)==0))
theorem zfR {R:List Chunk} {ah:Nat} {ai:Cells} {ae:Value} (n:Note) (aa:List Work) (ao:Reads R ai) (aj:Sl ai ae aa) (av:Has R (cBlk ah [ae] 23)) {r:Bool} (hM:(zdQ n aa).Ends r) (w:World) (H:St w w [] R):Ret Tryz.prog 74 #[.agg #[I n.work,I n.version,I n.value],Pq ah] w fun v w'=>∃ (y0:Bool),y0=r/\v=B y0/\St w w' [] R:=by
 refine ret_of_W Tryz.func74 rfl rfl rfl ?_;refine kg 2 ?_;refine t_bx [I n.work,I n.version,I n.value] H rfl ?_;intro aw ax H
 have ay:=(aj).len_le
 refine kg 9 ?_;obtain ⟨az,ap,hM⟩:=M.e_bind hM;refine s_call cf66 [I n.work,I 0,I ((aa.length:Int)-1)] rfl (zap n.work 0 ((aa.length:Int)-1) ap _ (H.gt 1)) ?_
 rintro vq aA ⟨r2,rfl,hvq,ak⟩
 subst vq;(try dsimp only at hM);replace H:=H.bk ak;clear ak;obtain ⟨ac,hM⟩:=M.e_grd hM
 replace ac:=M.imp_of ac
 simp only [Bool.and_eq_true,decide_eq_true_eq] at ac
 refine kg 6 ?_
 obtain ⟨al,aq,am⟩:=gd_ex (c:=r2) fun hg=>Work_at0 aj (i:=n.work) (by have ab:=ac.resolve_left (by rw [hg]; decide); first | exact ab | exact ab.1 | exact ab.2 | omega | (have ag:=hg; simp at ag; omega)) (by have ab:=ac.resolve_left (by rw [hg]; decide); first | exact ab | exact ab.1 | exact ab.2 | omega | (have ag:=hg; simp at ag; omega))
 replace am:r2=true->Sl _ al (aa.getD (Int.toNat n.work) default).of:=am
 refine g_val r2 (gy_t rfl) (fun hg=>x_ld (v:=al) (gd_of hg (fat (vat ae 3 (Int.toNat n.work)) 0)) (ld_sc Sc22 (At.mono (aq hg) (ao.at H)))) ?_;refine kg 2 ?_;refine s_val (x_pand (b:=r2) (r:=(((aa.getD (Int.toNat n.work) default).of).length:Int)==0) rfl (fun hb=>gd_of (c:=r2) (by first | exact hb | (rw [hb]; rfl) | simp_all) (B ((((aa.getD (Int.toNat n.work) default).of).length:Int)==0))) rfl) ?_;refine kg 2 ?_;refine W.ret ?_
 have au:=M.e_pure hM
 exact ⟨_,resE_tmp rfl,⟨(r2&&((((aa.getD (Int.toNat n.work) default).of).length:Int)==0)),au,rfl,(H.pk [])⟩⟩

def zdG (n:Note):M Bool :=
  M.bind (zal n.version 0 1000000) fun r2 =>
  M.bind (M.opt r2 (zal n.value 0 1000002) false) fun r3 =>
  M.pure (r2&&r3)
theorem zge {R:List Chunk}  (n:Note)  {r:Bool} (hM:(zdG n).Ends r) (w:World) (H:St w w [] R):Ret Tryz.prog 75 #[.agg #[I n.work,I n.version,I n.value]] w fun v w'=>∃ (y0:Bool),y0=r/\v=B y0/\St w w' [] R:=by
 refine ret_of_W Tryz.func75 rfl rfl rfl ?_;refine kg 2 ?_;refine t_bx [I n.work,I n.version,I n.value] H rfl ?_;intro ah ai H;refine kg 6 ?_;obtain ⟨aj,ac,hM⟩:=M.e_bind hM;refine s_call cf66 [I n.version,I 0,I 1000000] rfl (zap n.version 0 1000000 ac _ (H.gt 1)) ?_
 rintro vq ak ⟨r2,rfl,hvq,ab⟩
 subst vq;(try dsimp only at hM);replace H:=H.bk ab;clear ab;refine kg 3 ?_;obtain ⟨r3,ae,hM⟩:=M.e_bind hM;refine t_gcall r2 (gy_t rfl) cf66 (B r3) (fun _=>[I n.value,I 0,I 1000002]) (fun hg=>lst3 (gd_of hg (I n.value)) rfl rfl) H (fun hg=>(zap n.value 0 1000002 (M.e_opt ae hg) _ (H.give (A:=[]) rfl)).mono fun v_ w_ ⟨y_,aa,ag,H_⟩=>by subst aa; exact ⟨ag,H.via H_⟩) ?_;intro al H;refine s_val (x_pand (b:=r2) (r:=r3) rfl (fun hb=>gd_of (c:=r2) (by first | exact hb | (rw [hb]; rfl) | simp_all) (B r3)) rfl) ?_;refine kg 2 ?_;refine W.ret ?_
 have aa:=M.e_pure hM
 exact ⟨_,resE_tmp rfl,⟨(r2&&r3),aa,rfl,(H.pk [])⟩⟩

def zcR (k:Int) (aa:List Int):M Bool :=
  M.grd (decide ((0:Int)<=k)&&decide (k<(aa.length:Int))) <|
  M.pure ((aa.getD (Int.toNat k) 0) != (-1))
theorem zgg {R:List Chunk} {ab:Nat} {ac:Cells} {ae:Value} (k:Int) (aa:List Int) (ah:Reads R ac) (ai:Sl ac ae aa) (aj:Has R (cBlk ab [ae] 22)) {r:Bool} (hM:(zcR k aa).Ends r) (w:World) (H:St w w [] R):Ret Tryz.prog 77 #[I k,Pq ab] w fun v w'=>∃ (y0:Bool),y0=r/\v=B y0/\St w w' [] R:=by
 refine ret_of_W Tryz.func77 rfl rfl rfl ?_;obtain ⟨ak,hM⟩:=M.e_gd hM;refine kg 13 ?_;refine W.ret ?_
 have ag:=M.e_pure hM
 exact ⟨_,resE_tmp rfl,⟨((aa.getD (Int.toNat k) 0) != (-1)),ag,rfl,H⟩⟩

end Go.Proofs.YtkclldpnmolljaaGreat
end
section
set_option maxRecDepth 100000
set_option maxHeartbeats 16000000
namespace Go.Proofs.YtkclldpnmolljaaGreat
open Go Go.Nm
attribute [local irreducible] gd execOp SL SLD SLT WR
def zbb (l:List Note) (s2:Nat):Nat->M (Nat ⊕ (Unit ⊕ Unit)):=fun s =>
  bif decide ((s:Int)<((l.take s2).length:Int)) then (
  M.grd (decide ((s:Int)<((l.take s2).length:Int))) <|
  bif ((((((l.take s2).getD s default).work)==((l.getD s2 default).work))&&((((l.take s2).getD s default).version)==((l.getD s2 default).version)))&&(!(decide (((l.take s2).getD s default)=(l.getD s2 default))))) then (
  M.pure (.inr (.inl ())))
  else (
  M.pure (.inl (s+1))))
  else (
  M.pure (.inr (.inr ())))
def zaL (l:List Note):((Int->Option Note) × Nat)->M (((Int->Option Note) × Nat) ⊕ ((Int->Option Note) ⊕ (Int->Option Note))):=fun (mp,s2) =>
  bif decide ((s2:Int)<(l.length:Int)) then (
  M.grd (decide ((s2:Int)<(l.length:Int))) <|
  M.bind (M.iter (zbb l s2) 0) fun x_=>match x_ with
  | (.inl (_:Unit))=>(
  M.pure (.inr (.inl mp)))
  | (.inr (_:Unit))=>(
  bif ((!((mp ((l.getD s2 default).work:Int)).isSome))||(decide ((((mp ((l.getD s2 default).work:Int)).getD default).version)<((l.getD s2 default).version)))) then (
  M.pure (.inl (updF mp ((l.getD s2 default).work:Int) (l.getD s2 default),s2+1)))
  else (
  M.pure (.inl (mp,s2+1)))))
  else (
  M.pure (.inr (.inr mp)))
def zdc (w_:List Work) (r1:List Int) (s4:Nat) (l2:List Int):(Int × Nat)->M ((Int × Nat) ⊕ Int):=fun (sum,s3) =>
  bif decide ((s3:Int)<(((w_.getD (Int.toNat (r1.getD s4 0)) default).of).length:Int)) then (
  M.grd (decide ((s3:Int)<(((w_.getD (Int.toNat (r1.getD s4 0)) default).of).length:Int))) <|
  M.grd (decide ((0:Int)<=(((w_.getD (Int.toNat (r1.getD s4 0)) default).of).getD s3 0))&&decide ((((w_.getD (Int.toNat (r1.getD s4 0)) default).of).getD s3 0)<(l2.length:Int))) <|
  M.grd (decide ((-9223372036854775808:Int)<=(((s3:Int)+1)*(l2.getD (Int.toNat (((w_.getD (Int.toNat (r1.getD s4 0)) default).of).getD s3 0)) 0)))&&decide ((((s3:Int)+1)*(l2.getD (Int.toNat (((w_.getD (Int.toNat (r1.getD s4 0)) default).of).getD s3 0)) 0))<=(9223372036854775807:Int))) <|
  M.grd (decide ((-9223372036854775808:Int)<=(sum+(((s3:Int)+1)*(l2.getD (Int.toNat (((w_.getD (Int.toNat (r1.getD s4 0)) default).of).getD s3 0)) 0))))&&decide ((sum+(((s3:Int)+1)*(l2.getD (Int.toNat (((w_.getD (Int.toNat (r1.getD s4 0)) default).of).getD s3 0)) 0)))<=(9223372036854775807:Int))) <|
  M.pure (.inl (sum+(((s3:Int)+1)*(l2.getD (Int.toNat (((w_.getD (Int.toNat (r1.getD s4 0)) default).of).getD s3 0)) 0)),s3+1)))
  else (
  M.pure (.inr sum))
def zbr (w_:List Work) (r1:List Int) (s4:Nat) (l2:List Int):M (((List Int) × Nat) ⊕ ((List Int) × (List Int))) :=
  M.grd (decide ((0:Int)<=(r1.getD s4 0))&&decide ((r1.getD s4 0)<(w_.length:Int))) <|
  M.bind (M.opt (!((((w_.getD (Int.toNat (r1.getD s4 0)) default).of).length:Int)==0)) (zaC (fun aa=>zcR aa l2) ((w_.getD (Int.toNat (r1.getD s4 0)) default).of)) false) fun r5 =>
  bif (((((w_.getD (Int.toNat (r1.getD s4 0)) default).of).length:Int)==0)||(!r5)) then (
  M.pure (.inl (l2,s4+1)))
  else (
  M.bind (M.iter (zdc w_ r1 s4 l2) ((w_.getD (Int.toNat (r1.getD s4 0)) default).base,0)) fun sum2 =>
  M.grd (decide ((0:Int)<=sum2)&&decide ((0:Int)<1000003)) <|
  M.grd (decide ((0:Int)<=(r1.getD s4 0))&&decide ((r1.getD s4 0)<(l2.length:Int))) <|
  M.pure (.inl (l2.set (Int.toNat (r1.getD s4 0)) (sum2 % 1000003:Int),s4+1)))
def zcl (w_:List Work) (r1:List Int) (aa:Int->Option Note):((List Int) × Nat)->M (((List Int) × Nat) ⊕ ((List Int) × (List Int))):=fun (l3,s4) =>
  bif decide ((s4:Int)<(r1.length:Int)) then (
  M.grd (decide ((s4:Int)<(r1.length:Int))) <|
  bif (aa (r1.getD s4 0:Int)).isSome then (
  M.grd (decide ((0:Int)<=(r1.getD s4 0))&&decide ((r1.getD s4 0)<(l3.length:Int))) <|
  zbr w_ r1 s4 (l3.set (Int.toNat (r1.getD s4 0)) (((aa (r1.getD s4 0:Int)).getD default).value:Int)))
  else (
  zbr w_ r1 s4 l3))
  else (
  M.pure (.inr (l3,l3)))
def zaw (w_:List Work) (l:List Note):M ((List Int) × Int) :=
  M.bind (zaD w_) fun x_=>match x_ with
  | (.inl r2)=>(
  bif r2 != 0 then (
  M.pure (([]),r2))
  else (
  M.fail))
  | (.inr (r1,ab))=>(
  bif ab != 0 then (
  M.fail)
  else (
  bif decide (200<(l.length:Int)) then (
  M.pure (([]),3))
  else (
  M.bind (zaY (fun aa=>zdQ aa w_) l) fun r3 =>
  bif !r3 then (
  M.pure (([]),2))
  else (
  M.bind (zaY (fun aa=>zdG aa) l) fun r4 =>
  bif !r4 then (
  M.pure (([]),4))
  else (
  M.bind (M.iter (zaL l) ((fun _=>none),0)) fun x_=>match x_ with
  | (.inl ae)=>(
  M.pure (([]),10))
  | (.inr ac)=>(
  M.grd (decide (1<=(w_.length:Int))&&decide ((w_.length:Int)<=1000)) <|
  M.bind (M.iter (zcl w_ r1 ac) (List.replicate (w_.length) (-1:Int),0)) fun (l4,l5) =>
  M.pure (l5,0)))))))
theorem zcm {R:List Chunk} {bc:Cells} {aa:Value} {bf:Cells} {ak:Value} (w_:List Work) (l:List Note) (aq:Reads R bc) (am:Sl bc aa w_) (aL:Reads R bf) (az:Sl bf ak l) {r:((List Int) × Int)} (hM:(zaw w_ l).Ends r) (w:World) (H:St w w [] R):Ret Tryz.prog 28 #[aa,ak] w fun v w'=>∃ (y0:List Int) (y1:Int) (u0:Value),(y0,y1)=r/\v = .tuple #[u0,I y1]/\St w w' [cOwn (α:=Int) 3 u0 y0] R:=by
 refine ret_of_W Tryz.func28 rfl rfl rfl ?_;refine kg 2 ?_;refine t_box (v:=aa) (cs:=[aa]) H rfl (Sl.cells am) ?_;intro ab cd H;refine kg 6 ?_;obtain ⟨ce,bE,hM⟩:=M.e_bind hM;refine s_call cf51 [aa] rfl (zaO w_ (aq.app _) am bE _ (H.gt 1)) ?_
 rintro vq cf (⟨r2,bF,hvq,ai⟩ | ⟨r1,bG,aM,ac,bH,hvq,ai⟩)
 ·subst bF;subst vq;(try dsimp only at hM);replace H:=H.bk ai;clear ai;refine kg 16 ?_
  refine W.cond (r2 != 0) rfl (fun aB=>?_) (fun aB=>?_)
  ·replace hM:=M.e_t hM aB
   replace aB:=dI aB
   refine kg 6 ?_;refine W.ret ?_
   have ag:=M.e_pure hM
   replace H:=H.nilOwn (α:=Int) 3
   exact ⟨_,resE_tmp2 rfl,⟨([]),r2,(.slice none 0 0),ag,rfl,(H.pk [0])⟩⟩
  replace hM:=M.e_f hM aB
  exact (M.e_fail hM).elim
 subst bH;subst vq;(try dsimp only at hM);replace H:=H.bk ai;clear ai;refine kg 16 ?_
 refine W.cond (bG != 0) rfl (fun aC=>?_) (fun aC=>?_)
 ·replace hM:=M.e_t hM aC
  exact (M.e_fail hM).elim
 replace hM:=M.e_f hM aC
 replace aC:=dI aC
 have cg:=(az).len_le
 refine kg 7 ?_
 refine W.cond (decide (200<(l.length:Int))) rfl (fun au=>?_) (fun au=>?_)
 ·replace hM:=M.e_t hM au
  replace au:=dI au
  refine kg 5 ?_;replace H:=H.pk [];refine W.ret ?_
  have ag:=M.e_pure hM
  replace H:=H.nilOwn (α:=Int) 3
  exact ⟨_,resE_tmp2 rfl,⟨([]),3,(.slice none 0 0),ag,rfl,H⟩⟩
 replace hM:=M.e_f hM au
 replace au:=dI au
 refine kg 2 ?_;refine s_val (x_mf (fs:=[]) (cs:=[Pq ab]) rfl rfl) ?_;refine kg 1 ?_;obtain ⟨ch,bI,hM⟩:=M.e_bind hM;refine s_call cf73 [.func (.func 74) #[] #[Pq ab],ak] rfl (zfb (fun aj=>zdQ aj w_) l ⟨74,[Pq ab],rfl,cf74,fun ao bg bh aD aj bi aE bj aF aG=>by obtain rfl:=Note_arg aF; exact (zfR aj w_ (Reads.app (aq.app _) _) am (Has.app (Has.here (k:=2) rfl) _) aG ao (St.refl aE)).mono fun aD ao ⟨bm,aH,aI,aJ⟩=>by subst aH; exact ⟨aI,aJ⟩⟩ (aL.app _) az bI _ (H.gt 3)) ?_
 rintro vq ci ⟨r3,rfl,hvq,ai⟩
 subst vq;(try dsimp only at hM);replace H:=H.bk ai;clear ai;refine kg 3 ?_
 refine W.cond (!r3) rfl (fun aS=>?_) (fun aS=>?_)
 ·replace hM:=M.e_t hM aS;refine kg 5 ?_;replace H:=H.pk [];refine W.ret ?_
  have ag:=M.e_pure hM
  replace H:=H.nilOwn (α:=Int) 3
  exact ⟨_,resE_tmp2 rfl,⟨([]),2,(.slice none 0 0),ag,rfl,H⟩⟩
 replace hM:=M.e_f hM aS;refine kg 3 ?_;obtain ⟨cj,bJ,hM⟩:=M.e_bind hM;refine s_call cf73 [.func (.func 75) #[] #[],ak] rfl (zfb (fun aj=>zdG aj) l ⟨75,[],rfl,cf75,fun ao bg bh aD aj bi aE bj aF aG=>by obtain rfl:=Note_arg aF; exact (zge aj aG ao (St.refl aE)).mono fun aD ao ⟨bm,aH,aI,aJ⟩=>by subst aH; exact ⟨aI,aJ⟩⟩ (aL.app _) az bJ _ (H.gt 3)) ?_
 rintro vq ck ⟨r4,rfl,hvq,ai⟩
 subst vq;(try dsimp only at hM);replace H:=H.bk ai;clear ai;refine kg 3 ?_
 refine W.cond (!r4) rfl (fun aT=>?_) (fun aT=>?_)
 ·replace hM:=M.e_t hM aT;refine kg 5 ?_;replace H:=H.pk [];refine W.ret ?_
  have ag:=M.e_pure hM
  replace H:=H.nilOwn (α:=Int) 3
  exact ⟨_,resE_tmp2 rfl,⟨([]),4,(.slice none 0 0),ag,rfl,H⟩⟩
 replace hM:=M.e_f hM aT;refine kg 3 ?_;refine t_mkmap (κ:=Int) (ν:=Note) I encN H ?_;intro ae cl H
 have cm:=(az).len_le
 refine kg 10 ?_;obtain ⟨bK,aU,bn⟩:=M.e_bind hM
 obtain ⟨aV,aU⟩:=M.e_iter aU
 refine W.loop (fun m σ W=>∃ (mp:Int->Option Note) (s2:Nat) (ρ:Env),σ=upds ρ [(1,ak),(2,Pq ab),(7,ac),(9,.map (some ae)),(48,ak),(49,I (l.length:Int)),(50,I (s2:Int))]/\M.iterN (zaL l) m (mp,s2)=some bK/\St w W [cMap I encN ae mp,cBlk aM [aa] 97,cOwn (α:=Int) 3 ac r1,cBlk ab [aa] 23] R) ?_ ?_
 ·exact ⟨_,(fun _=>none),0,_,upds_of _ _ ⟨rfl,rfl,rfl,rfl,rfl,rfl,rfl,trivial⟩,aU,H⟩
 rintro cn σ co ⟨mp,s2,ρ,rfl,bo,H⟩
 obtain ⟨bp,br,cp,hM,aN⟩:=M.e_iterN bo
 simp only [zaL] at hM
 clear bo;refine kg 5 ?_
 refine W.cond (decide ((s2:Int)<(l.length:Int))) rfl (fun av=>?_) (fun av=>?_)
 ·replace hM:=M.e_t hM av
  replace av:=dI av
  obtain ⟨cq,hM⟩:=M.e_gd hM;refine kg 7 ?_;refine s_val (x_ld (v:=.agg #[I ((l.getD s2 default).work),I ((l.getD s2 default).version),I ((l.getD s2 default).value)]) rfl (ld_ag Ag26 Sz26 (At.mono (Note_atA az (i:=(s2:Int)) (by omega) (by omega)) (aL.at H)))) ?_;refine t_alloc (cs:=[I 0,I 0,I 0]) H Al26 rfl ?_;intro aW cr H;refine kg 1 ?_;refine t_sw 0 0 [I ((l.getD s2 default).work),I ((l.getD s2 default).version),I ((l.getD s2 default).value)] (.agg #[I ((l.getD s2 default).work),I ((l.getD s2 default).version),I ((l.getD s2 default).value)]) H rfl rfl Sz26 rfl rfl rfl rfl ?_;intro ct H;refine kg 6 ?_
  obtain ⟨aX,bL,aO⟩:=sl_hi T27.und T27.size az (j:=(s2:Int)) (by omega) (by omega)
  replace aO:Sl _ aX (l.take s2):=aO
  refine s_val (x_sl (v:=ak) (u:=aX) (lo':=none) (hi':=some (I (s2:Int))) (mx':=none) rfl rfl rfl rfl (bL _)) ?_
  have cu:=(aO).len_le
  refine kg 4 ?_;obtain ⟨bM,aY,bt⟩:=M.e_bind hM
  obtain ⟨aV,aY⟩:=M.e_iter aY
  refine W.loop (fun m σ W=>∃ (s:Nat) (ρ:Env),σ=upds ρ [(1,ak),(2,Pq ab),(7,ac),(9,.map (some ae)),(11,Pq aW),(48,ak),(49,I (l.length:Int)),(50,I (s2:Int)),(57,aX),(58,I ((l.take s2).length:Int)),(59,I (s:Int))]/\M.iterN (zbb l s2) m s=some bM/\St w W [cBlk aW [I ((l.getD s2 default).work),I ((l.getD s2 default).version),I ((l.getD s2 default).value)] 26,cMap I encN ae mp,cBlk aM [aa] 97,cOwn (α:=Int) 3 ac r1,cBlk ab [aa] 23] R) ?_ ?_
  ·exact ⟨_,0,_,upds_of _ _ ⟨rfl,rfl,rfl,rfl,rfl,rfl,rfl,rfl,rfl,rfl,rfl,trivial⟩,aY,H⟩
  rintro cv σ cw ⟨s,ρ,rfl,bu,H⟩
  obtain ⟨bN,bO,cx,hM,aZ⟩:=M.e_iterN bu
  simp only [zbb] at hM
  clear bu;refine kg 5 ?_
  refine W.cond (decide ((s:Int)<((l.take s2).length:Int))) rfl (fun aw=>?_) (fun aw=>?_)
  ·replace hM:=M.e_t hM aw
   replace aw:=dI aw
   obtain ⟨cy,hM⟩:=M.e_gd hM;refine kg 6 ?_;refine s_val (x_ld (v:=.agg #[I (((l.take s2).getD s default).work),I (((l.take s2).getD s default).version),I (((l.take s2).getD s default).value)]) rfl (ld_ag Ag26 Sz26 (At.mono (Note_atA aO (i:=(s:Int)) (by omega) (by omega)) (aL.at H)))) ?_;refine t_alloc (cs:=[I 0,I 0,I 0]) H Al26 rfl ?_;intro cz cA H;refine t_sw 0 0 [I (((l.take s2).getD s default).work),I (((l.take s2).getD s default).version),I (((l.take s2).getD s default).value)] (.agg #[I (((l.take s2).getD s default).work),I (((l.take s2).getD s default).version),I (((l.take s2).getD s default).value)]) H rfl rfl Sz26 rfl rfl rfl rfl ?_;intro cB H;refine kg 14 ?_;refine s_val (x_pand (b:=(((l.take s2).getD s default).work)==((l.getD s2 default).work)) (r:=(((l.take s2).getD s default).version)==((l.getD s2 default).version)) rfl (fun hb=>gd_of (c:=(((l.take s2).getD s default).work)==((l.getD s2 default).work)) (by first | exact hb | (rw [hb]; rfl) | simp_all) (B ((((l.take s2).getD s default).version)==((l.getD s2 default).version)))) rfl) ?_;refine kg 3 ?_;refine g_val (((((l.take s2).getD s default).work)==((l.getD s2 default).work))&&((((l.take s2).getD s default).version)==((l.getD s2 default).version))) (gy_t rfl) (fun hg=>x_neS (eqN ((l.take s2).getD s default) (l.getD s2 default) _) gdN (gd_of hg (.agg #[I (((l.take s2).getD s default).work),I (((l.take s2).getD s default).version),I (((l.take s2).getD s default).value)])) (gd_of hg (.agg #[I ((l.getD s2 default).work),I ((l.getD s2 default).version),I ((l.getD s2 default).value)])))<|s_val (x_pand (b:=(((((l.take s2).getD s default).work)==((l.getD s2 default).work))&&((((l.take s2).getD s default).version)==((l.getD s2 default).version)))) (r:=!(decide (((l.take s2).getD s default)=(l.getD s2 default)))) rfl (fun hb=>gd_of (c:=(((((l.take s2).getD s default).work)==((l.getD s2 default).work))&&((((l.take s2).getD s default).version)==((l.getD s2 default).version)))) (by first | exact hb | (rw [hb]; rfl) | simp_all) (B (!(decide (((l.take s2).getD s default)=(l.getD s2 default)))))) rfl)<|s_nil ?_
   refine W.cond ((((((l.take s2).getD s default).work)==((l.getD s2 default).work))&&((((l.take s2).getD s default).version)==((l.getD s2 default).version)))&&(!(decide (((l.take s2).getD s default)=(l.getD s2 default))))) rfl (fun a0=>?_) (fun a0=>?_)
   ·replace hM:=M.e_t hM a0;refine kg 5 ?_;refine W.ret ?_
    have bP:=M.e_inr hM aZ
    subst bP;replace hM:=bt;(try dsimp only at hM)
    have bQ:=M.e_inr hM aN
    subst bQ;replace hM:=bn;(try dsimp only at hM)
    have ag:=M.e_pure hM
    replace H:=H.nilOwn (α:=Int) 3
    exact ⟨_,resE_tmp2 rfl,⟨([]),10,(.slice none 0 0),ag,rfl,(H.pk [0])⟩⟩
   replace hM:=M.e_f hM a0;refine kg 5 ?_
   exact ⟨bN,bO,s+1,_,upds_of _ _ ⟨rfl,rfl,rfl,rfl,rfl,rfl,rfl,rfl,rfl,rfl,rfl,trivial⟩,M.e_inl hM aZ,(H.pk [1,2,3,4,5])⟩
  replace hM:=M.e_f hM aw
  replace aw:=dI aw
  refine W.exit ?_
  have bR:=M.e_inr hM aZ
  subst bR;replace hM:=bt;(try dsimp only at hM);refine kg 5 ?_;refine s_val (q_look (kenc:=I) (venc:=encN) (f:=mp) (k:=((l.getD s2 default).work:Int)) (v:=.tuple #[.agg #[I (((mp ((l.getD s2 default).work:Int)).getD default).work),I (((mp ((l.getD s2 default).work:Int)).getD default).version),I (((mp ((l.getD s2 default).work:Int)).getD default).value)],B ((mp ((l.getD s2 default).work:Int)).isSome)]) keyInt Tryz.underlying113 Al26 rfl rfl (H.get (k:=1) rfl) true (by rw [if_pos rfl,note_val])) ?_;refine kg 3 ?_;refine t_alloc (cs:=[I 0,I 0,I 0]) H Al26 rfl ?_;intro bS cC H;refine t_sw 0 0 [I (((mp ((l.getD s2 default).work:Int)).getD default).work),I (((mp ((l.getD s2 default).work:Int)).getD default).version),I (((mp ((l.getD s2 default).work:Int)).getD default).value)] (.agg #[I (((mp ((l.getD s2 default).work:Int)).getD default).work),I (((mp ((l.getD s2 default).work:Int)).getD default).version),I (((mp ((l.getD s2 default).work:Int)).getD default).value)]) H rfl rfl Sz26 rfl rfl rfl rfl ?_;intro cD H;refine kg 12 ?_;refine s_val (x_por (b:=!((mp ((l.getD s2 default).work:Int)).isSome)) (r:=decide ((((mp ((l.getD s2 default).work:Int)).getD default).version)<((l.getD s2 default).version))) rfl rfl (fun hb=>gd_of (c:=!(!((mp ((l.getD s2 default).work:Int)).isSome))) (by first | exact hb | (rw [hb]; rfl) | simp_all) (B (decide ((((mp ((l.getD s2 default).work:Int)).getD default).version)<((l.getD s2 default).version))))))<|s_nil ?_
  refine W.cond ((!((mp ((l.getD s2 default).work:Int)).isSome))||(decide ((((mp ((l.getD s2 default).work:Int)).getD default).version)<((l.getD s2 default).version)))) rfl (fun a4=>?_) (fun a4=>?_)
  ·replace hM:=M.e_t hM a4;refine kg 5 ?_;refine t_mapu (i:=2) (kenc:=I) (venc:=encN) (f:=mp) (k:=((l.getD s2 default).work:Int)) (v:=(l.getD s2 default)) (L':=[cBlk bS [I (((mp ((l.getD s2 default).work:Int)).getD default).work),I (((mp ((l.getD s2 default).work:Int)).getD default).version),I (((mp ((l.getD s2 default).work:Int)).getD default).value)] 26,cBlk aW [I ((l.getD s2 default).work),I ((l.getD s2 default).version),I ((l.getD s2 default).value)] 26,cMap I encN ae (updF mp ((l.getD s2 default).work:Int) (l.getD s2 default)),cBlk aM [aa] 97,cOwn (α:=Int) 3 ac r1,cBlk ab [aa] 23]) keyInt Tryz.underlying113 H rfl rfl rfl rfl rfl ?_;intro cE H;refine kg 5 ?_
   exact ⟨bp,br,updF mp ((l.getD s2 default).work:Int) (l.getD s2 default),s2+1,_,upds_of _ _ ⟨rfl,rfl,rfl,rfl,rfl,rfl,rfl,trivial⟩,M.e_inl hM aN,(H.pk [2,3,4,5])⟩
  replace hM:=M.e_f hM a4;refine kg 5 ?_
  exact ⟨bp,br,mp,s2+1,_,upds_of _ _ ⟨rfl,rfl,rfl,rfl,rfl,rfl,rfl,trivial⟩,M.e_inl hM aN,(H.pk [2,3,4,5])⟩
 replace hM:=M.e_f hM av
 replace av:=dI av
 refine W.exit ?_
 have bT:=M.e_inr hM aN
 subst bT;replace hM:=bn;(try dsimp only at hM);refine kg 2 ?_;refine t_bs (α:=Int) T22 [I (-1)] [(-1:Int)] H rfl (.cons rfl (Flat.rep_enc _ (-1:Int))<|.nil) rfl rfl rfl ?_;intro bv cF H
 have cG:=(am).len_le
 obtain ⟨cH,hM⟩:=M.e_gd hM;refine kg 2 ?_;refine s_call cf76 [bv,I (w_.length:Int)] rfl (repeat_int _ ((H.os 0).mono (H.ol 0)) (by omega) (by omega)) ?_
 rintro aP bU ⟨bw,aA⟩
 replace H:St w bU [cOwn (α:=Int) 3 aP (List.replicate (w_.length) (-1:Int)),cOwn (α:=Int) 3 bv ([(-1:Int)]),cMap I encN ae mp,cBlk aM [aa] 97,cOwn (α:=Int) 3 ac r1,cBlk ab [aa] 23] R:=H.ownOf aA bw
 clear aA bw
 refine t_alloc (cs:=[.slice none 0 0]) H Al22 rfl ?_;intro ah cI H;refine t_sw 0 0 [aP] aP H rfl rfl Sz22 (Sl.cells (H.os 1)) rfl rfl (by simp only [List.all_cons,List.all_nil,Bool.true_and,Bool.and_true,Sl.oc (H.os 1)]; try rfl) ?_;intro cJ H;refine s_nil ?_;replace H:=H.pk [0,1,3,5,6]
 have cK:=((H.os 3)).len_le
 refine kg 8 ?_;obtain ⟨bV,a5,bW⟩:=M.e_bind hM
 obtain ⟨aV,a5⟩:=M.e_iter a5
 refine W.loop (fun m σ W=>∃ (l3:List Int) (s4:Nat) (ap:Value) (ρ:Env),σ=upds ρ [(2,Pq ab),(9,.map (some ae)),(16,Pq ah),(106,ac),(107,I (r1.length:Int)),(108,I (s4:Int))]/\M.iterN (zcl w_ r1 mp) m (l3,s4)=some bV/\St w W [cBlk ah [ap] 22,cOwn (α:=Int) 3 ap l3,cMap I encN ae mp,cOwn (α:=Int) 3 ac r1,cBlk ab [aa] 23] R) ?_ ?_
 ·exact ⟨_,List.replicate (w_.length) (-1:Int),0,aP,_,upds_of _ _ ⟨rfl,rfl,rfl,rfl,rfl,rfl,trivial⟩,a5,H⟩
 rintro cL σ cM ⟨l3,s4,ap,ρ,rfl,bx,H⟩
 obtain ⟨bz,bA,bX,hM,a6⟩:=M.e_iterN bx
 simp only [zcl] at hM
 clear bx;refine kg 5 ?_
 refine W.cond (decide ((s4:Int)<(r1.length:Int))) rfl (fun ax=>?_) (fun ax=>?_)
 ·replace hM:=M.e_t hM ax
  replace ax:=dI ax
  obtain ⟨cN,hM⟩:=M.e_gd hM;refine kg 9 ?_;refine W.seqJ (fun σ W=>∃ (l2:List Int) (al:Value) (ρ:Env),σ=upds ρ [(2,Pq ab),(9,.map (some ae)),(16,Pq ah),(18,I (r1.getD s4 0)),(106,ac),(107,I (r1.length:Int)),(108,I (s4:Int))]/\(zbr w_ r1 s4 l2).Ends bX/\St w W [cBlk ah [al] 22,cOwn (α:=Int) 3 al l2,cMap I encN ae mp,cOwn (α:=Int) 3 ac r1,cBlk ab [aa] 23] R) ?_ ?_
  ·skip
   refine kg 4 ?_;refine s_val (q_look (kenc:=I) (venc:=encN) (f:=mp) (k:=(r1.getD s4 0:Int)) (v:=.tuple #[.agg #[I (((mp (r1.getD s4 0:Int)).getD default).work),I (((mp (r1.getD s4 0:Int)).getD default).version),I (((mp (r1.getD s4 0:Int)).getD default).value)],B ((mp (r1.getD s4 0:Int)).isSome)]) keyInt Tryz.underlying113 Al26 rfl rfl (H.get (k:=2) rfl) true (by rw [if_pos rfl,note_val])) ?_;refine kg 3 ?_;refine t_alloc (cs:=[I 0,I 0,I 0]) H Al26 rfl ?_;intro bY cO H;refine t_sw 0 0 [I (((mp (r1.getD s4 0:Int)).getD default).work),I (((mp (r1.getD s4 0:Int)).getD default).version),I (((mp (r1.getD s4 0:Int)).getD default).value)] (.agg #[I (((mp (r1.getD s4 0:Int)).getD default).work),I (((mp (r1.getD s4 0:Int)).getD default).version),I (((mp (r1.getD s4 0:Int)).getD default).value)]) H rfl rfl Sz26 rfl rfl rfl rfl ?_;intro cP H;refine kg 6 ?_
   refine W.cond ((mp (r1.getD s4 0:Int)).isSome) rfl (fun a7=>?_) (fun a7=>?_)
   ·replace hM:=M.e_t hM a7;obtain ⟨cQ,hM⟩:=M.e_gd hM;refine kg 6 ?_;refine t_ost (k:=2) (i:=r1.getD s4 0) (l:=l3) (l':=l3.set (Int.toNat (r1.getD s4 0)) (((mp (r1.getD s4 0:Int)).getD default).value:Int)) (val:=I (((mp (r1.getD s4 0:Int)).getD default).value)) (L':=[cBlk bY [I (((mp (r1.getD s4 0:Int)).getD default).work),I (((mp (r1.getD s4 0:Int)).getD default).version),I (((mp (r1.getD s4 0:Int)).getD default).value)] 26,cBlk ah [ap] 22,cOwn (α:=Int) 3 ap (l3.set (Int.toNat (r1.getD s4 0)) (((mp (r1.getD s4 0:Int)).getD default).value:Int)),cMap I encN ae mp,cOwn (α:=Int) 3 ac r1,cBlk ab [aa] 23]) H rfl Sz3 (by omega) (by omega) (((mp (r1.getD s4 0:Int)).getD default).value:Int) rfl rfl rfl rfl rfl ?_;intro cR H;refine s_nil ?_
    exact ⟨l3.set (Int.toNat (r1.getD s4 0)) (((mp (r1.getD s4 0:Int)).getD default).value:Int),ap,_,upds_of _ _ ⟨rfl,rfl,rfl,rfl,rfl,rfl,rfl,trivial⟩,hM,(H.pk [1,2,3,4,5])⟩
   replace hM:=M.e_f hM a7;refine W.skip ?_
   exact ⟨l3,ap,_,upds_of _ _ ⟨rfl,rfl,rfl,rfl,rfl,rfl,rfl,trivial⟩,hM,(H.pk [1,2,3,4,5])⟩
  rintro _ cS ⟨l2,al,ρ,rfl,hM,H⟩
  unfold zbr at hM
  obtain ⟨cT,hM⟩:=M.e_gd hM;refine kg 7 ?_
  obtain ⟨bB,bZ,aQ⟩:=Work_at0 am (i:=r1.getD s4 0) (by omega) (by omega)
  replace aQ:Sl _ bB (w_.getD (Int.toNat (r1.getD s4 0)) default).of:=aQ
  have cU:=aQ.len_le
  refine s_val (x_ld (v:=bB) rfl (ld_sc Sc22 (At.mono (bZ) (aq.at H)))) ?_
  have cV:=(aQ).len_le
  refine kg 3 ?_;refine g_val (!((((w_.getD (Int.toNat (r1.getD s4 0)) default).of).length:Int)==0)) (gy_f rfl) (fun hg=>x_mf (fs:=[]) (cs:=[Pq ah]) rfl rfl) ?_;refine kg 4 ?_
  obtain ⟨aK,b0,a8⟩:=gd_ex (c:=!((((w_.getD (Int.toNat (r1.getD s4 0)) default).of).length:Int)==0)) fun hg=>Work_at0 am (i:=r1.getD s4 0) (by first | omega | (have aA:=hg; simp at aA; omega)) (by first | omega | (have aA:=hg; simp at aA; omega))
  replace a8:(!((((w_.getD (Int.toNat (r1.getD s4 0)) default).of).length:Int)==0))=true->Sl _ aK (w_.getD (Int.toNat (r1.getD s4 0)) default).of:=a8
  refine g_val (!((((w_.getD (Int.toNat (r1.getD s4 0)) default).of).length:Int)==0)) (gy_f rfl) (fun hg=>x_ld (v:=aK) (gd_of hg (fat (vat aa 3 (Int.toNat (r1.getD s4 0))) 0)) (ld_sc Sc22 (At.mono (b0 hg) (aq.at H)))) ?_;obtain ⟨r5,b4,hM⟩:=M.e_bind hM;refine t_gcall (!((((w_.getD (Int.toNat (r1.getD s4 0)) default).of).length:Int)==0)) (gy_f rfl) cf64 (B r5) (fun _=>[.func (.func 77) #[] #[Pq ah],aK]) (fun hg=>lst2 (gd_of hg (.func (.func 77) #[] #[Pq ah])) (gd_of hg (aK))) H (fun hg=>(zaE (fun aj=>zcR aj l2) ((w_.getD (Int.toNat (r1.getD s4 0)) default).of) ⟨77,[Pq ah],rfl,cf77,fun ao bg bh aD aj bi aE bj aF aG=>by obtain rfl:=Arg.int aF; exact (zgg aj l2 (Reads.app (rdo 1) _) (H.os 1) (Has.app (Has.here (k:=0) rfl) _) aG ao (St.refl aE)).mono fun aD ao ⟨bm,aH,aI,aJ⟩=>by subst aH; exact ⟨aI,aJ⟩⟩ (aq.app _) (a8 hg) (M.e_opt b4 hg) _ (H.give (A:=[]) rfl)).mono fun v_ w_ ⟨y_,ag,b5,H_⟩=>by subst ag; exact ⟨b5,H.via H_⟩) ?_;intro cW H;refine kg 1 ?_;refine s_val (x_por (b:=(((w_.getD (Int.toNat (r1.getD s4 0)) default).of).length:Int)==0) (r:=!r5) rfl rfl (fun hb=>gd_of (c:=!((((w_.getD (Int.toNat (r1.getD s4 0)) default).of).length:Int)==0)) (by first | exact hb | (rw [hb]; rfl) | simp_all) (B (!r5))))<|s_nil ?_
  refine W.cond (((((w_.getD (Int.toNat (r1.getD s4 0)) default).of).length:Int)==0)||(!r5)) rfl (fun a9=>?_) (fun a9=>?_)
  ·replace hM:=M.e_t hM a9;refine W.exit ?_;refine kg 4 ?_
   exact ⟨bz,bA,l2,s4+1,al,_,upds_of _ _ ⟨rfl,rfl,rfl,rfl,rfl,rfl,trivial⟩,M.e_inl hM a6,H⟩
  replace hM:=M.e_f hM a9;refine kg 7 ?_;refine s_val (x_ld (v:=I ((w_.getD (Int.toNat (r1.getD s4 0)) default).base)) rfl (ld_sc Sc3 (At.mono (Work_at1 am (i:=r1.getD s4 0) (by omega) (by omega)) (aq.at H)))) ?_;refine kg 9 ?_
  obtain ⟨ba,b6,aR⟩:=Work_at0 am (i:=r1.getD s4 0) (by omega) (by omega)
  replace aR:Sl _ ba (w_.getD (Int.toNat (r1.getD s4 0)) default).of:=aR
  have cX:=aR.len_le
  refine s_val (x_ld (v:=ba) rfl (ld_sc Sc22 (At.mono (b6) (aq.at H)))) ?_
  have cY:=(aR).len_le
  refine kg 4 ?_;obtain ⟨b7,bb,b8⟩:=M.e_bind hM
  obtain ⟨aV,bb⟩:=M.e_iter bb
  refine W.loop (fun m σ W=>∃ (sum:Int) (s3:Nat) (ρ:Env),σ=upds ρ [(2,Pq ab),(9,.map (some ae)),(16,Pq ah),(18,I (r1.getD s4 0)),(21,I sum),(106,ac),(107,I (r1.length:Int)),(108,I (s4:Int)),(132,gd (!((((w_.getD (Int.toNat (r1.getD s4 0)) default).of).length:Int)==0)) (.func (.func 77) #[] #[Pq ah])),(133,gd (!((((w_.getD (Int.toNat (r1.getD s4 0)) default).of).length:Int)==0)) aa),(134,gd (!((((w_.getD (Int.toNat (r1.getD s4 0)) default).of).length:Int)==0)) (I (r1.getD s4 0))),(135,gd (!((((w_.getD (Int.toNat (r1.getD s4 0)) default).of).length:Int)==0)) (vat aa 3 (Int.toNat (r1.getD s4 0)))),(136,gd (!((((w_.getD (Int.toNat (r1.getD s4 0)) default).of).length:Int)==0)) (fat (vat aa 3 (Int.toNat (r1.getD s4 0))) 0)),(137,gd (!((((w_.getD (Int.toNat (r1.getD s4 0)) default).of).length:Int)==0)) aK),(138,gd (!((((w_.getD (Int.toNat (r1.getD s4 0)) default).of).length:Int)==0)) (B r5)),(139,gd (!((((w_.getD (Int.toNat (r1.getD s4 0)) default).of).length:Int)==0)) (B (!r5))),(150,ba),(151,I (((w_.getD (Int.toNat (r1.getD s4 0)) default).of).length:Int)),(152,I (s3:Int))]/\M.iterN (zdc w_ r1 s4 l2) m (sum,s3)=some b7/\St w W [cBlk ah [al] 22,cOwn (α:=Int) 3 al l2,cMap I encN ae mp,cOwn (α:=Int) 3 ac r1,cBlk ab [aa] 23] R) ?_ ?_
  ·exact ⟨_,(w_.getD (Int.toNat (r1.getD s4 0)) default).base,0,_,upds_of _ _ ⟨rfl,rfl,rfl,rfl,rfl,rfl,rfl,rfl,rfl,rfl,rfl,rfl,rfl,rfl,rfl,rfl,rfl,rfl,rfl,trivial⟩,bb,H⟩
  rintro cZ σ c0 ⟨sum,s3,ρ,rfl,bC,H⟩
  obtain ⟨b9,ca,c3,hM,bD⟩:=M.e_iterN bC
  simp only [zdc] at hM
  clear bC;refine kg 5 ?_
  refine W.cond (decide ((s3:Int)<(((w_.getD (Int.toNat (r1.getD s4 0)) default).of).length:Int))) rfl (fun ay=>?_) (fun ay=>?_)
  ·replace hM:=M.e_t hM ay
   replace ay:=dI ay
   obtain ⟨c4,hM⟩:=M.e_gd hM;obtain ⟨c6,hM⟩:=M.e_gd hM;obtain ⟨c7,hM⟩:=M.e_gd hM;obtain ⟨c8,hM⟩:=M.e_gd hM;refine kg 27 ?_
   exact ⟨b9,ca,sum+(((s3:Int)+1)*(l2.getD (Int.toNat (((w_.getD (Int.toNat (r1.getD s4 0)) default).of).getD s3 0)) 0)),s3+1,_,upds_of _ _ ⟨rfl,rfl,rfl,rfl,rfl,rfl,rfl,rfl,rfl,rfl,rfl,rfl,rfl,rfl,rfl,rfl,rfl,rfl,rfl,trivial⟩,M.e_inl hM bD,H⟩
  replace hM:=M.e_f hM ay
  replace ay:=dI ay
  refine W.exit ?_
  have cb:=M.e_inr hM bD
  subst cb;replace hM:=b8;(try dsimp only at hM);obtain ⟨c9,hM⟩:=M.e_gd hM;refine kg 4 ?_;refine s_val (x_rem' (a:=sum) (b:=1000003) rfl rfl (by omega)) ?_;obtain ⟨da,hM⟩:=M.e_gd hM;refine kg 1 ?_;refine t_ost (k:=1) (i:=r1.getD s4 0) (l:=l2) (l':=l2.set (Int.toNat (r1.getD s4 0)) (sum % 1000003:Int)) (val:=I (sum % 1000003)) (L':=[cBlk ah [al] 22,cOwn (α:=Int) 3 al (l2.set (Int.toNat (r1.getD s4 0)) (sum % 1000003:Int)),cMap I encN ae mp,cOwn (α:=Int) 3 ac r1,cBlk ab [aa] 23]) H rfl Sz3 (by omega) (by omega) (sum % 1000003:Int) rfl rfl rfl rfl rfl ?_;intro db H;refine kg 5 ?_
  exact ⟨bz,bA,l2.set (Int.toNat (r1.getD s4 0)) (sum % 1000003:Int),s4+1,al,_,upds_of _ _ ⟨rfl,rfl,rfl,rfl,rfl,rfl,trivial⟩,M.e_inl hM a6,H⟩
 replace hM:=M.e_f hM ax
 replace ax:=dI ax
 refine W.exit ?_
 have cc:=M.e_inr hM a6
 subst cc;replace hM:=bW;(try dsimp only at hM);replace H:=H.pk [0,1];refine kg 6 ?_;refine W.ret ?_
 have ag:=M.e_pure hM
 exact ⟨_,resE_tmp2 rfl,⟨l3,0,ap,ag,rfl,(H.pk [1])⟩⟩

def zdM (i:Int) (aa:List Work):M Bool :=
  M.bind (zal i 0 ((aa.length:Int)-1)) fun r2 =>
  M.pure r2
theorem zgp {R:List Chunk} {ab:Nat} {ac:Cells} {ae:Value} (i:Int) (aa:List Work) (ak:Reads R ac) (ah:Sl ac ae aa) (al:Has R (cBlk ab [ae] 23)) {r:Bool} (hM:(zdM i aa).Ends r) (w:World) (H:St w w [] R):Ret Tryz.prog 117 #[I i,Pq ab] w fun v w'=>∃ (y0:Bool),y0=r/\v=B y0/\St w w' [] R:=by
 refine ret_of_W Tryz.func117 rfl rfl rfl ?_
 have am:=(ah).len_le
 refine kg 10 ?_;obtain ⟨ao,ai,hM⟩:=M.e_bind hM;refine s_call cf66 [I i,I 0,I ((aa.length:Int)-1)] rfl (zap i 0 ((aa.length:Int)-1) ai _ (H.gt 0)) ?_
 rintro vq ap ⟨r2,rfl,hvq,ag⟩
 subst vq;(try dsimp only at hM);replace H:=H.bk ag;clear ag;refine kg 2 ?_;refine W.ret ?_
 have aj:=M.e_pure hM
 exact ⟨_,resE_tmp rfl,⟨r2,aj,rfl,H⟩⟩

def zdr (l:List Int):Nat->M (Nat ⊕ (Unit ⊕ Unit)):=fun i =>
  bif decide ((i:Int)<(l.length:Int)) then (
  M.grd (decide ((i:Int)<(l.length:Int))) <|
  M.grd (decide ((-9223372036854775808:Int)<=((i:Int)-1))&&decide (((i:Int)-1)<=(9223372036854775807:Int))) <|
  M.grd (decide ((0:Int)<=((i:Int)-1))&&decide (((i:Int)-1)<(l.length:Int))) <|
  bif decide ((l.getD i 0)<=(l.getD (Int.toNat ((i:Int)-1)) 0)) then (
  M.pure (.inr (.inl ())))
  else (
  M.pure (.inl (i+1))))
  else (
  M.pure (.inr (.inr ())))
def zbF (w_:List Work) (l:List Int):M Int :=
  M.bind (zaC (fun aa=>zdM aa w_) l) fun r2 =>
  bif !r2 then (
  M.pure 2)
  else (
  M.bind (M.iter (zdr l) 1) fun x_=>match x_ with
  | (.inl (_:Unit))=>(
  M.pure 9)
  | (.inr (_:Unit))=>(
  M.pure 0))
theorem zc6 {R:List Chunk} {am:Cells} {ac:Value} {ao:Cells} {ah:Value} (w_:List Work) (l:List Int) (az:Reads R am) (ap:Sl am ac w_) (aA:Reads R ao) (aq:Sl ao ah l) {r:Int} (hM:(zbF w_ l).Ends r) (w:World) (H:St w w [] R):Ret Tryz.prog 82 #[ac,ah] w fun v w'=>∃ (y0:Int),y0=r/\v=I y0/\St w w' [] R:=by
 refine ret_of_W Tryz.func82 rfl rfl rfl ?_;refine kg 2 ?_;refine t_box (v:=ac) (cs:=[ac]) H rfl (Sl.cells ap) ?_;intro ae aO H;refine kg 5 ?_;refine s_val (x_mf (fs:=[]) (cs:=[Pq ae]) rfl rfl) ?_;refine kg 1 ?_;obtain ⟨aP,aB,hM⟩:=M.e_bind hM;refine s_call cf64 [.func (.func 117) #[] #[Pq ae],ah] rfl (zaE (fun ai=>zdM ai w_) l ⟨117,[Pq ae],rfl,cf117,fun au aQ aR aC ai aS aD aT aE aF=>by obtain rfl:=Arg.int aE; exact (zgp ai w_ (Reads.app (az.app _) _) ap (Has.app (Has.here (k:=0) rfl) _) aF au (St.refl aD)).mono fun aC au ⟨aU,aG,aH,aI⟩=>by subst aG; exact ⟨aH,aI⟩⟩ (aA.app _) aq aB _ (H.gt 1)) ?_
 rintro vq aV ⟨r2,rfl,hvq,av⟩
 subst vq;(try dsimp only at hM);replace H:=H.bk av;clear av;refine kg 2 ?_
 refine W.cond (!r2) rfl (fun aj=>?_) (fun aj=>?_)
 ·replace hM:=M.e_t hM aj;refine kg 4 ?_;refine W.ret ?_
  have ag:=M.e_pure hM
  exact ⟨_,resE_tmp rfl,⟨2,ag,rfl,(H.pk [])⟩⟩
 replace hM:=M.e_f hM aj;refine kg 7 ?_;obtain ⟨aJ,ak,aw⟩:=M.e_bind hM
 obtain ⟨aW,ak⟩:=M.e_iter ak
 refine W.loop (fun m σ W=>∃ (i:Nat) (ρ:Env),σ=upds ρ [(1,ah),(5,I (i:Int))]/\M.iterN (zdr l) m i=some aJ/\St w W [cBlk ae [ac] 23] R) ?_ ?_
 ·exact ⟨_,1,_,upds_of _ _ ⟨rfl,rfl,trivial⟩,ak,H⟩
 rintro aX σ aY ⟨i,ρ,rfl,ax,H⟩
 obtain ⟨aK,aL,aZ,hM,al⟩:=M.e_iterN ax
 simp only [zdr] at hM
 clear ax
 have a0:=(aq).len_le
 refine kg 8 ?_
 refine W.cond (decide ((i:Int)<(l.length:Int))) rfl (fun aa=>?_) (fun aa=>?_)
 ·replace hM:=M.e_t hM aa
  replace aa:=dI aa
  refine kg 4 ?_;refine W.draw (fun W=>St w W [cBlk ae [ac] 23] R) [(0,true),(1,true),(2,true),(3,true),(4,true),(5,true),(6,true),(7,true),(8,true),(9,true)] mixed (by decide +kernel) rfl ?_;intro a4 ay;replace H:=H.ext ay;clear ay
  refine ⟨(H.pk [0]),?_⟩
  obtain ⟨a5,hM⟩:=M.e_gd hM;obtain ⟨a6,hM⟩:=M.e_gd hM;obtain ⟨a7,hM⟩:=M.e_gd hM;refine kg 11 ?_
  refine W.cond (decide ((l.getD i 0)<=(l.getD (Int.toNat ((i:Int)-1)) 0))) rfl (fun ab=>?_) (fun ab=>?_)
  ·replace hM:=M.e_t hM ab
   replace ab:=dI ab
   refine kg 4 ?_;refine W.ret ?_
   have aM:=M.e_inr hM al
   subst aM;replace hM:=aw;(try dsimp only at hM)
   have ag:=M.e_pure hM
   exact ⟨_,resE_tmp rfl,⟨9,ag,rfl,(H.pk [])⟩⟩
  replace hM:=M.e_f hM ab
  replace ab:=dI ab
  refine kg 6 ?_
  exact ⟨aK,aL,i+1,_,upds_of _ _ ⟨rfl,rfl,trivial⟩,M.e_inl hM al,H⟩
 replace hM:=M.e_f hM aa
 replace aa:=dI aa
 refine W.exit ?_
 have aN:=M.e_inr hM al
 subst aN;replace hM:=aw;(try dsimp only at hM);refine kg 4 ?_;refine W.ret ?_
 have ag:=M.e_pure hM
 exact ⟨_,resE_tmp rfl,⟨0,ag,rfl,(H.pk [])⟩⟩

def zd0 (k:Int) (k0:List Bool):M Bool :=
  M.grd (decide ((0:Int)<=k)&&decide (k<(30:Int))) <|
  M.pure (k0.getD (Int.toNat k) false)
theorem zgl {R:List Chunk} {aa:Nat} (k:Int) (k0:List Bool) (ab:k0.length=30) (ac:Has R (cBlk aa (encB k0) 119)) {r:Bool} (hM:(zd0 k k0).Ends r) (w:World) (H:St w w [] R):Ret Tryz.prog 116 #[I k,Pq aa] w fun v w'=>∃ (y0:Bool),y0=r/\v=B y0/\St w w' [] R:=by
 refine ret_of_W Tryz.func116 rfl rfl rfl ?_;obtain ⟨ag,hM⟩:=M.e_gd hM;refine kg 7 ?_;refine s_val (x_ix (v:=.pointer (some ⟨aa,0+Int.toNat k,none⟩)) rfl rfl (run_indexArr Tryz.underlying119 Sz4 (by omega) (by omega)))<|s_val (x_ld (v:=B (k0.getD (Int.toNat k) false)) rfl (ldArr Sc4 (ac.blk H) (by omega) (by have ah:=ab; omega))) ?_;refine kg 2 ?_;refine W.ret ?_
 have ae:=M.e_pure hM
 exact ⟨_,resE_tmp rfl,⟨(k0.getD (Int.toNat k) false),ae,rfl,H⟩⟩

def zcv (w_:List Work) (revised r1:List Int):((List Bool) × Nat)->M (((List Bool) × Nat) ⊕ (List Bool)):=fun (ar,s) =>
  bif decide ((s:Int)<(r1.length:Int)) then (
  M.grd (decide ((s:Int)<(r1.length:Int))) <|
  M.bind (zak revised (r1.getD s 0)) fun r4 =>
  M.grd ((!(!r4)||(decide ((0:Int)<=(r1.getD s 0))&&decide ((r1.getD s 0)<(w_.length:Int))))) <|
  M.bind (M.opt (!r4) (zba ((w_.getD (Int.toNat (r1.getD s 0)) default).of) (fun aa=>zd0 aa ar)) false) fun r5 =>
  M.grd (decide ((0:Int)<=(r1.getD s 0))&&decide ((r1.getD s 0)<(30:Int))) <|
  M.pure (.inl (ar.set (Int.toNat (r1.getD s 0)) (r4||r5),s+1)))
  else (
  M.pure (.inr ar))
def zaG (w_:List Work) (revised:List Int):M (((List Bool) × Int) ⊕ ((List Int) × (List Bool) × Int)) :=
  M.bind (zaD w_) fun x_=>match x_ with
  | (.inl r2)=>(
  bif r2==0 then (
  M.fail)
  else (
  bif r2 != 0 then (
  M.pure (.inl ((List.replicate 30 false),r2)))
  else (
  M.fail)))
  | (.inr (r1,aa))=>(
  bif aa==0 then (
  M.bind (zbF w_ revised) fun r3 =>
  bif r3 != 0 then (
  M.pure (.inl ((List.replicate 30 false),r3)))
  else (
  M.bind (M.iter (zcv w_ revised r1) (List.replicate 30 false,0)) fun ab =>
  M.pure (.inr (r1,ab,0))))
  else (
  M.fail))
theorem za0 {R:List Chunk} {aF:Cells} {ab:Value} {aG:Cells} {aq:Value} (w_:List Work) (revised:List Int) (ay:Reads R aF) (aA:Sl aF ab w_) (aH:Reads R aG) (aI:Sl aG aq revised) {r:(((List Bool) × Int) ⊕ ((List Int) × (List Bool) × Int))} (hM:(zaG w_ revised).Ends r) (w:World) (H:St w w [] R):Ret Tryz.prog 80 #[ab,aq] w fun v w'=>(∃ (y0:List Bool) (y1:Int),(.inl (y0,y1))=r/\v = .tuple #[.pointer none,.slice none 0 0,.agg (encB y0).toArray,I y1]/\St w w' [] R/\y0.length=30)∨(∃ (y0:List Int) (y1:List Bool) (y2:Int) (aJ:Nat) (u1:Value),(.inr (y0,y1,y2))=r/\v = .tuple #[Pq aJ,u1,.agg (encB y1).toArray,I y2]/\St w w' [cBlk aJ [ab] 97,cOwn (α:=Int) 3 u1 y0] R/\y1.length=30):=by
 refine ret_of_W Tryz.func80 rfl rfl rfl ?_;refine kg 4 ?_;refine t_alloc (cs:=encB (List.replicate 30 false)) H Al119 rfl ?_;intro ai bh H
 have aB:(List.replicate 30 false).length=30:=by simp
 refine kg 4 ?_;refine t_alloc (cs:=encB (List.replicate 30 false)) H Al119 rfl ?_;intro aa bi H
 have aj:(List.replicate 30 false).length=30:=by simp
 refine kg 4 ?_;obtain ⟨bj,aN,hM⟩:=M.e_bind hM;refine s_call cf51 [ab] rfl (zaO w_ (ay.app _) aA aN _ (H.gt 2)) ?_
 rintro vq bm (⟨r2,aO,hvq,ae⟩ | ⟨r1,aP,ah,ag,aQ,hvq,ae⟩)
 ·subst aO;subst vq;(try dsimp only at hM);replace H:=H.bk ae;clear ae;refine kg 14 ?_
  refine W.cond (r2==0) rfl (fun au=>?_) (fun au=>?_)
  ·replace hM:=M.e_t hM au
   exact (M.e_fail hM).elim
  replace hM:=M.e_f hM au
  replace au:=dI au
  refine kg 7 ?_
  refine W.cond (r2 != 0) rfl (fun av=>?_) (fun av=>?_)
  ·replace hM:=M.e_t hM av
   replace av:=dI av
   refine W.seq ?_;refine W.draw (fun W=>St w W [cBlk aa (encB (List.replicate 30 false)) 119] R) [(0,true),(1,true),(2,true),(3,true),(4,false),(5,true)] mixed (by decide +kernel) rfl ?_;intro bn ac;replace H:=H.ext ac;clear ac
   refine ⟨(H.pk [0]),?_⟩
   refine d_q rfl (fun w' H=>x_ld (v:=.agg (encB (List.replicate 30 false)).toArray) rfl (ldArrA Ag119 Sz119 aj (H.bl 0))) ?_;refine kg 3 ?_;refine d_l rfl ?_;refine t_stArrA (k:=1) (b:=ai) (l:=List.replicate 30 false) (l':=List.replicate 30 false) (L':=[cBlk aa (encB (List.replicate 30 false)) 119,cBlk ai (encB (List.replicate 30 false)) 119]) H rfl rfl rfl Sz119 aB aj rfl ?_;intro bo H
   refine s_nil ⟨(H.pk [0]),?_⟩
   refine kg 2 ?_;refine W.ret ?_
   have aR:=(H.bl 1)
   have ak:=M.e_pure hM
   exact ⟨_,(resE_ofn (vs:=[.pointer none,.slice none 0 0,.agg (encB (List.replicate 30 false)).toArray,I r2]) rfl rfl (.tmp (v:=.pointer none) rfl<|.tmp (v:=.slice none 0 0) rfl<|.cell (v:=.agg (encB (List.replicate 30 false)).toArray) rfl (run_loadVar_arr Ag119 Sz119 aj aR)<|.tmp (v:=I r2) rfl<|.nil)),.inl (⟨(List.replicate 30 false),r2,ak,rfl,(H.pk []),aj⟩)⟩
  replace hM:=M.e_f hM av
  exact (M.e_fail hM).elim
 subst aQ;subst vq;(try dsimp only at hM);replace H:=H.bk ae;clear ae;refine kg 14 ?_
 refine W.cond (aP==0) rfl (fun aw=>?_) (fun aw=>?_)
 ·replace hM:=M.e_t hM aw
  replace aw:=dI aw
  refine kg 3 ?_;obtain ⟨bp,aS,hM⟩:=M.e_bind hM;refine s_call cf82 [ab,aq] rfl (zc6 w_ revised (ay.app _) aA (aH.app _) aI aS _ (H.gt 4)) ?_
  rintro vq br ⟨r3,rfl,hvq,ae⟩
  subst vq;(try dsimp only at hM);replace H:=H.bk ae;clear ae;refine kg 8 ?_
  refine W.cond (r3 != 0) rfl (fun al=>?_) (fun al=>?_)
  ·replace hM:=M.e_t hM al
   replace al:=dI al
   refine W.seq ?_;refine W.draw (fun W=>St w W [cBlk ah [ab] 97,cOwn (α:=Int) 3 ag r1,cBlk aa (encB (List.replicate 30 false)) 119] R) [(0,true),(1,true),(2,true),(3,true),(4,false),(5,true)] mixed (by decide +kernel) rfl ?_;intro bt ac;replace H:=H.ext ac;clear ac
   refine ⟨(H.pk [0,1,2]),?_⟩
   refine d_q rfl (fun w' H=>x_ld (v:=.agg (encB (List.replicate 30 false)).toArray) rfl (ldArrA Ag119 Sz119 aj (H.bl 2))) ?_;refine kg 3 ?_;refine d_l rfl ?_;refine t_stArrA (k:=3) (b:=ai) (l:=List.replicate 30 false) (l':=List.replicate 30 false) (L':=[cBlk ah [ab] 97,cOwn (α:=Int) 3 ag r1,cBlk aa (encB (List.replicate 30 false)) 119,cBlk ai (encB (List.replicate 30 false)) 119]) H rfl rfl rfl Sz119 aB aj rfl ?_;intro bu H
   refine s_nil ⟨(H.pk [0,1,2]),?_⟩
   refine kg 2 ?_;replace H:=H.pk [3];refine W.ret ?_
   have aT:=(H.bl 0)
   have ak:=M.e_pure hM
   exact ⟨_,(resE_ofn (vs:=[.pointer none,.slice none 0 0,.agg (encB (List.replicate 30 false)).toArray,I r3]) rfl rfl (.tmp (v:=.pointer none) rfl<|.tmp (v:=.slice none 0 0) rfl<|.cell (v:=.agg (encB (List.replicate 30 false)).toArray) rfl (run_loadVar_arr Ag119 Sz119 aj aT)<|.tmp (v:=I r3) rfl<|.nil)),.inl (⟨(List.replicate 30 false),r3,ak,rfl,(H.pk []),aj⟩)⟩
  replace hM:=M.e_f hM al
  replace al:=dI al
  have bv:=((H.os 1)).len_le
  refine kg 9 ?_;obtain ⟨aU,aC,aV⟩:=M.e_bind hM
  obtain ⟨bw,aC⟩:=M.e_iter aC
  refine W.loop (fun m σ W=>∃ (ar:List Bool) (s:Nat) (ρ:Env),σ=upds ρ [(0,ab),(1,aq),(6,Pq ai),(8,Pq aa),(9,Pq ah),(10,ag),(29,ag),(30,I (r1.length:Int)),(31,I (s:Int))]/\M.iterN (zcv w_ revised r1) m (ar,s)=some aU/\St w W [cBlk ah [ab] 97,cOwn (α:=Int) 3 ag r1,cBlk aa (encB ar) 119,cBlk ai (encB (List.replicate 30 false)) 119] R/\ar.length=30) ?_ ?_
  ·exact ⟨_,List.replicate 30 false,0,_,upds_of _ _ ⟨rfl,rfl,rfl,rfl,rfl,rfl,rfl,rfl,rfl,trivial⟩,aC,H,aj⟩
  rintro bx σ bz ⟨ar,s,ρ,rfl,aK,H,am⟩
  obtain ⟨aW,aX,bA,hM,aL⟩:=M.e_iterN aK
  simp only [zcv] at hM
  clear aK;refine kg 5 ?_
  refine W.cond (decide ((s:Int)<(r1.length:Int))) rfl (fun ao=>?_) (fun ao=>?_)
  ·replace hM:=M.e_t hM ao
   replace ao:=dI ao
   obtain ⟨bB,hM⟩:=M.e_gd hM;refine kg 13 ?_;obtain ⟨bC,aY,hM⟩:=M.e_bind hM;refine s_call cf62 [aq,I (r1.getD s 0)] rfl (zaq revised (r1.getD s 0) (aH.app _) aI aY _ (H.gt 4)) ?_
   rintro vq bD ⟨r4,rfl,hvq,ae⟩
   subst vq;(try dsimp only at hM);replace H:=H.bk ae;clear ae;obtain ⟨ax,hM⟩:=M.e_grd hM
   replace ax:=M.imp_of ax
   simp only [Bool.and_eq_true,decide_eq_true_eq] at ax
   refine kg 5 ?_
   obtain ⟨az,aZ,aD⟩:=gd_ex (c:=!r4) fun hg=>Work_at0 aA (i:=r1.getD s 0) (by have ap:=ax.resolve_left (by rw [hg]; decide); first | exact ap | exact ap.1 | exact ap.2 | omega | (have ac:=hg; simp at ac; omega)) (by have ap:=ax.resolve_left (by rw [hg]; decide); first | exact ap | exact ap.1 | exact ap.2 | omega | (have ac:=hg; simp at ac; omega))
   replace aD:(!r4)=true->Sl _ az (w_.getD (Int.toNat (r1.getD s 0)) default).of:=aD
   refine g_val (!r4) (gy_f rfl) (fun hg=>x_ld (v:=az) (gd_of hg (fat (vat ab 3 (Int.toNat (r1.getD s 0))) 0)) (ld_sc Sc22 (At.mono (aZ hg) (ay.at H))))<|g_val (!r4) (gy_f rfl) (fun hg=>x_mf (fs:=[]) (cs:=[Pq aa]) rfl rfl) ?_;obtain ⟨r5,a0,hM⟩:=M.e_bind hM;refine t_gcall (!r4) (gy_f rfl) cf90 (B r5) (fun _=>[az,.func (.func 116) #[] #[Pq aa]]) (fun hg=>lst2 (gd_of hg (az)) (gd_of hg (.func (.func 116) #[] #[Pq aa]))) H (fun hg=>(zbM ((w_.getD (Int.toNat (r1.getD s 0)) default).of) (fun aE=>zd0 aE ar) (ay.app _) (aD hg) ⟨116,[Pq aa],rfl,cf116,fun aM bE bF a4 aE bG a5 bH a6 a7=>by obtain rfl:=Arg.int a6; exact (zgl aE ar am (Has.app (Has.here (k:=2) rfl) _) a7 aM (St.refl a5)).mono fun a4 aM ⟨bI,a8,a9,ba⟩=>by subst a8; exact ⟨a9,ba⟩⟩ (M.e_opt a0 hg) _ (H.give (A:=[]) rfl)).mono fun v_ w_ ⟨y_,ak,bb,H_⟩=>by subst ak; exact ⟨bb,H.via H_⟩) ?_;intro bJ H;refine s_val (x_por (b:=r4) (r:=r5) rfl rfl (fun hb=>gd_of (c:=!r4) (by first | exact hb | (rw [hb]; rfl) | simp_all) (B r5))) ?_;obtain ⟨bK,hM⟩:=M.e_gd hM;refine s_val (x_ix (v:=.pointer (some ⟨aa,0+Int.toNat (r1.getD s 0),none⟩)) rfl rfl (run_indexArr Tryz.underlying119 Sz4 (by omega) (by omega))) ?_;refine t_stArr (k:=2) (b:=aa) (l:=ar) (l':=ar.set (Int.toNat (r1.getD s 0)) (r4||r5)) (i:=r1.getD s 0) (v:=(r4||r5)) (L':=[cBlk ah [ab] 97,cOwn (α:=Int) 3 ag r1,cBlk aa (encB (ar.set (Int.toNat (r1.getD s 0)) (r4||r5))) 119,cBlk ai (encB (List.replicate 30 false)) 119]) H rfl rfl rfl Sz4 (by omega) (by have bL:=am; omega) rfl rfl ?_;intro bM H
   have bc:(ar.set (Int.toNat (r1.getD s 0)) (r4||r5)).length=30:=List.length_set.trans am
   refine kg 5 ?_
   exact ⟨aW,aX,ar.set (Int.toNat (r1.getD s 0)) (r4||r5),s+1,_,upds_of _ _ ⟨rfl,rfl,rfl,rfl,rfl,rfl,rfl,rfl,rfl,trivial⟩,M.e_inl hM aL,H,bc⟩
  replace hM:=M.e_f hM ao
  replace ao:=dI ao
  refine W.exit ?_
  have bf:=M.e_inr hM aL
  subst bf;replace hM:=aV;(try dsimp only at hM);refine W.seq ?_;refine W.draw (fun W=>St w W [cBlk ah [ab] 97,cOwn (α:=Int) 3 ag r1,cBlk aa (encB ar) 119] R) [(0,true),(1,true),(2,true),(3,true),(4,true),(5,false),(6,true)] mixed (by decide +kernel) rfl ?_;intro bN ac;replace H:=H.ext ac;clear ac
  refine ⟨(H.pk [0,1,2]),?_⟩
  refine kg 2 ?_;refine d_q rfl (fun w' H=>x_ld (v:=.agg (encB ar).toArray) rfl (ldArrA Ag119 Sz119 am (H.bl 2))) ?_;refine kg 2 ?_;refine d_l rfl ?_;refine t_stArrA (k:=3) (b:=ai) (l:=List.replicate 30 false) (l':=ar) (L':=[cBlk ah [ab] 97,cOwn (α:=Int) 3 ag r1,cBlk aa (encB ar) 119,cBlk ai (encB ar) 119]) H rfl rfl rfl Sz119 aB am rfl ?_;intro bO H
  refine s_nil ⟨(H.pk [0,1,2]),?_⟩
  refine kg 2 ?_;refine W.ret ?_
  have bg:=(H.bl 3)
  have ak:=M.e_pure hM
  exact ⟨_,(resE_ofn (vs:=[Pq ah,ag,.agg (encB ar).toArray,I 0]) rfl rfl (.tmp (v:=Pq ah) rfl<|.tmp (v:=ag) rfl<|.cell (v:=.agg (encB ar).toArray) rfl (run_loadVar_arr Ag119 Sz119 am bg)<|.tmp (v:=I 0) rfl<|.nil)),.inr (⟨r1,ar,0,ah,ag,ak,rfl,(H.pk [0,1]),am⟩)⟩
 replace hM:=M.e_f hM aw
 exact (M.e_fail hM).elim

def zef (w_:List Work) (r2:List Bool) (r3:Int):(Nat × (List Int))->M ((Nat × (List Int)) ⊕ ((List Int) × (List Int))):=fun (s,l) =>
  bif decide ((s:Int)<(w_.length:Int)) then (
  M.grd ((!(r3==0)||(decide ((0:Int)<=(s:Int))&&decide ((s:Int)<(30:Int))))) <|
  bif ((r3==0)&&(r2.getD s false)) then (
  M.grd (decide ((l.length+([(s:Int)]).length)*8<=140737488355328)) <|
  M.pure (.inl (s+1,l++([(s:Int)]))))
  else (
  M.pure (.inl (s+1,l))))
  else (
  M.pure (.inr (l,l)))
def zcU (w_:List Work) (ab:List Bool) (aa:Int):(Nat × (List Int))->M ((Nat × (List Int)) ⊕ ((List Int) × (List Int))):=fun (s,l) =>
  bif decide ((s:Int)<(w_.length:Int)) then (
  M.grd ((!(aa==0)||(decide ((0:Int)<=(s:Int))&&decide ((s:Int)<(30:Int))))) <|
  bif ((aa==0)&&(ab.getD s false)) then (
  M.grd (decide ((l.length+([(s:Int)]).length)*8<=140737488355328)) <|
  M.pure (.inl (s+1,l++([(s:Int)]))))
  else (
  M.pure (.inl (s+1,l))))
  else (
  M.pure (.inr (l,l)))
def zcu (w_:List Work) (revised:List Int):M ((List Int) × Int) :=
  M.bind (zaG w_ revised) fun x_=>match x_ with
  | (.inl (r2,r3))=>(
  M.bind (M.iter (zef w_ r2 r3) (0,[])) fun (l2,l3) =>
  M.pure (l3,r3))
  | (.inr (r1,ab,aa))=>(
  M.bind (M.iter (zcU w_ ab aa) (0,[])) fun (l2,l3) =>
  M.pure (l3,aa))
theorem ze1 {R:List Chunk} {aC:Cells} {ao:Value} {aD:Cells} {ap:Value} (w_:List Work) (revised:List Int) (aK:Reads R aC) (aq:Sl aC ao w_) (aL:Reads R aD) (aM:Sl aD ap revised) {r:((List Int) × Int)} (hM:(zcu w_ revised).Ends r) (w:World) (H:St w w [] R):Ret Tryz.prog 35 #[ao,ap] w fun v w'=>∃ (y0:List Int) (y1:Int) (u0:Value),(y0,y1)=r/\v = .tuple #[u0,I y1]/\St w w' [cOwn (α:=Int) 3 u0 y0] R:=by
 refine ret_of_W Tryz.func35 rfl rfl rfl ?_;refine kg 9 ?_;obtain ⟨a8,aN,hM⟩:=M.e_bind hM;refine s_call cf80 [ao,ap] rfl (za0 w_ revised (aK.app _) aq (aL.app _) aM aN _ (H.gt 0)) ?_
 rintro vq a9 (⟨r2,r3,aO,hvq,am,aP⟩ | ⟨r1,ag,ah,aQ,aR,aS,hvq,am,aT⟩)
 ·subst aO;subst vq;(try dsimp only at hM);replace H:=H.bk am;clear am;refine kg 5 ?_;refine t_alloc (cs:=encB (List.replicate 30 false)) H Al119 rfl ?_;intro ac ba H
  have au:(List.replicate 30 false).length=30:=by simp
  refine kg 2 ?_;refine t_stArrA (k:=0) (b:=ac) (l:=List.replicate 30 false) (l':=r2) (L':=[cBlk ac (encB r2) 119]) H rfl rfl rfl Sz119 au aP rfl ?_;intro bb H
  have bc:=(aq).len_le
  refine kg 14 ?_
  replace H:=H.nilOwn (α:=Int) 3
  obtain ⟨aU,av,aV⟩:=M.e_bind hM
  obtain ⟨aW,av⟩:=M.e_iter av
  refine W.loop (fun m σ W=>∃ (s:Nat) (l:List Int) (ae:Value) (ρ:Env),σ=upds ρ [(8,Pq ac),(9,I r3),(10,ae),(21,I (w_.length:Int)),(22,I (s:Int))]/\M.iterN (zef w_ r2 r3) m (s,l)=some aU/\St w W [cOwn (α:=Int) 3 ae l,cBlk ac (encB r2) 119] R) ?_ ?_
  ·exact ⟨_,0,[],(.slice none 0 0),_,upds_of _ _ ⟨rfl,rfl,rfl,rfl,rfl,trivial⟩,av,H⟩
  rintro bf σ bg ⟨s,l,ae,ρ,rfl,aE,H⟩
  obtain ⟨aF,aG,bh,hM,aw⟩:=M.e_iterN aE
  simp only [zef] at hM
  clear aE;refine kg 5 ?_
  refine W.cond (decide ((s:Int)<(w_.length:Int))) rfl (fun ai=>?_) (fun ai=>?_)
  ·replace hM:=M.e_t hM ai
   replace ai:=dI ai
   obtain ⟨aj,hM⟩:=M.e_grd hM
   replace aj:=M.imp_of aj
   simp only [Bool.and_eq_true,decide_eq_true_eq] at aj
   refine kg 14 ?_;refine g_val (r3==0) (gy_t rfl) (fun hg=>x_ix (v:=.pointer (some ⟨ac,0+Int.toNat (s:Int),none⟩)) rfl (gd_of hg (I (s:Int))) (run_indexArr Tryz.underlying119 Sz4 (by have aa:=aj.resolve_left (by rw [hg]; decide); first | exact aa | exact aa.1 | exact aa.2 | omega | (have ab:=hg; simp at ab; omega)) (by have aa:=aj.resolve_left (by rw [hg]; decide); first | exact aa | exact aa.1 | exact aa.2 | omega | (have ab:=hg; simp at ab; omega))))<|g_val (r3==0) (gy_t rfl) (fun hg=>x_ld (v:=B (r2.getD s false)) (gd_of hg (.pointer (some ⟨ac,0+Int.toNat (s:Int),none⟩))) (ldArr Sc4 (H.bl 1) (by have aa:=aj.resolve_left (by rw [hg]; decide); first | exact aa | exact aa.1 | exact aa.2 | omega | (have ab:=hg; simp at ab; omega)) (by have aa:=aj.resolve_left (by rw [hg]; decide); first | exact aa | exact aa.1 | exact aa.2 | omega | (have ab:=hg; simp at ab; omega))))<|s_val (x_pand (b:=r3==0) (r:=r2.getD s false) rfl (fun hb=>gd_of (c:=r3==0) (by first | exact hb | (rw [hb]; rfl) | simp_all) (B (r2.getD s false))) rfl)<|s_nil ?_
   refine W.cond ((r3==0)&&(r2.getD s false)) rfl (fun ax=>?_) (fun ax=>?_)
   ·replace hM:=M.e_t hM ax;refine kg 3 ?_;refine t_bs (α:=Int) T22 [I (s:Int)] [(s:Int)] H rfl (.cons rfl (Flat.rep_enc _ (s:Int))<|.nil) rfl rfl rfl ?_;intro aX bi H;obtain ⟨bj,hM⟩:=M.e_gd hM;refine t_app (α:=Int) (k:=1) (l:=l) (l2:=[(s:Int)]) (l':=l++([(s:Int)])) (vy:=aX) T22 rfl H rfl rfl rfl (H.os 0) (H.ol 0) (rfl) (by first | omega | (simp only [List.length_nil] at *; omega)) ?_;intro aY bm H;replace H:=H.nf;refine kg 6 ?_
    exact ⟨aF,aG,s+1,l++([(s:Int)]),aY,_,upds_of _ _ ⟨rfl,rfl,rfl,rfl,rfl,trivial⟩,M.e_inl hM aw,(H.pk [1,2])⟩
   replace hM:=M.e_f hM ax;refine kg 5 ?_
   exact ⟨aF,aG,s+1,l,ae,_,upds_of _ _ ⟨rfl,rfl,rfl,rfl,rfl,trivial⟩,M.e_inl hM aw,H⟩
  replace hM:=M.e_f hM ai
  replace ai:=dI ai
  refine W.exit ?_
  have aZ:=M.e_inr hM aw
  subst aZ;replace hM:=aV;(try dsimp only at hM);refine kg 7 ?_;refine W.ret ?_
  have ay:=M.e_pure hM
  exact ⟨_,resE_tmp2 rfl,⟨l,r3,ae,ay,rfl,(H.pk [0])⟩⟩
 subst aS;subst vq;(try dsimp only at hM);replace H:=H.bk am;clear am;refine kg 5 ?_;refine t_alloc (cs:=encB (List.replicate 30 false)) H Al119 rfl ?_;intro ac bn H
 have au:(List.replicate 30 false).length=30:=by simp
 refine kg 2 ?_;refine t_stArrA (k:=0) (b:=ac) (l:=List.replicate 30 false) (l':=ag) (L':=[cBlk ac (encB ag) 119,cBlk aQ [ao] 97,cOwn (α:=Int) 3 aR r1]) H rfl rfl rfl Sz119 au aT rfl ?_;intro bo H;refine kg 2 ?_;replace H:=H.pk [0]
 have bp:=(aq).len_le
 refine kg 12 ?_
 replace H:=H.nilOwn (α:=Int) 3
 obtain ⟨a0,az,a4⟩:=M.e_bind hM
 obtain ⟨aW,az⟩:=M.e_iter az
 refine W.loop (fun m σ W=>∃ (s:Nat) (l:List Int) (ae:Value) (ρ:Env),σ=upds ρ [(8,Pq ac),(9,I ah),(10,ae),(21,I (w_.length:Int)),(22,I (s:Int))]/\M.iterN (zcU w_ ag ah) m (s,l)=some a0/\St w W [cOwn (α:=Int) 3 ae l,cBlk ac (encB ag) 119] R) ?_ ?_
 ·exact ⟨_,0,[],(.slice none 0 0),_,upds_of _ _ ⟨rfl,rfl,rfl,rfl,rfl,trivial⟩,az,H⟩
 rintro br σ bt ⟨s,l,ae,ρ,rfl,aH,H⟩
 obtain ⟨aI,aJ,bu,hM,aA⟩:=M.e_iterN aH
 simp only [zcU] at hM
 clear aH;refine kg 5 ?_
 refine W.cond (decide ((s:Int)<(w_.length:Int))) rfl (fun ak=>?_) (fun ak=>?_)
 ·replace hM:=M.e_t hM ak
  replace ak:=dI ak
  obtain ⟨al,hM⟩:=M.e_grd hM
  replace al:=M.imp_of al
  simp only [Bool.and_eq_true,decide_eq_true_eq] at al
  refine kg 14 ?_;refine g_val (ah==0) (gy_t rfl) (fun hg=>x_ix (v:=.pointer (some ⟨ac,0+Int.toNat (s:Int),none⟩)) rfl (gd_of hg (I (s:Int))) (run_indexArr Tryz.underlying119 Sz4 (by have aa:=al.resolve_left (by rw [hg]; decide); first | exact aa | exact aa.1 | exact aa.2 | omega | (have ab:=hg; simp at ab; omega)) (by have aa:=al.resolve_left (by rw [hg]; decide); first | exact aa | exact aa.1 | exact aa.2 | omega | (have ab:=hg; simp at ab; omega))))<|g_val (ah==0) (gy_t rfl) (fun hg=>x_ld (v:=B (ag.getD s false)) (gd_of hg (.pointer (some ⟨ac,0+Int.toNat (s:Int),none⟩))) (ldArr Sc4 (H.bl 1) (by have aa:=al.resolve_left (by rw [hg]; decide); first | exact aa | exact aa.1 | exact aa.2 | omega | (have ab:=hg; simp at ab; omega)) (by have aa:=al.resolve_left (by rw [hg]; decide); first | exact aa | exact aa.1 | exact aa.2 | omega | (have ab:=hg; simp at ab; omega))))<|s_val (x_pand (b:=ah==0) (r:=ag.getD s false) rfl (fun hb=>gd_of (c:=ah==0) (by first | exact hb | (rw [hb]; rfl) | simp_all) (B (ag.getD s false))) rfl)<|s_nil ?_
  refine W.cond ((ah==0)&&(ag.getD s false)) rfl (fun aB=>?_) (fun aB=>?_)
  ·replace hM:=M.e_t hM aB;refine kg 3 ?_;refine t_bs (α:=Int) T22 [I (s:Int)] [(s:Int)] H rfl (.cons rfl (Flat.rep_enc _ (s:Int))<|.nil) rfl rfl rfl ?_;intro a5 bv H;obtain ⟨bw,hM⟩:=M.e_gd hM;refine t_app (α:=Int) (k:=1) (l:=l) (l2:=[(s:Int)]) (l':=l++([(s:Int)])) (vy:=a5) T22 rfl H rfl rfl rfl (H.os 0) (H.ol 0) (rfl) (by first | omega | (simp only [List.length_nil] at *; omega)) ?_;intro a6 bx H;replace H:=H.nf;refine kg 6 ?_
   exact ⟨aI,aJ,s+1,l++([(s:Int)]),a6,_,upds_of _ _ ⟨rfl,rfl,rfl,rfl,rfl,trivial⟩,M.e_inl hM aA,(H.pk [1,2])⟩
  replace hM:=M.e_f hM aB;refine kg 5 ?_
  exact ⟨aI,aJ,s+1,l,ae,_,upds_of _ _ ⟨rfl,rfl,rfl,rfl,rfl,trivial⟩,M.e_inl hM aA,H⟩
 replace hM:=M.e_f hM ak
 replace ak:=dI ak
 refine W.exit ?_
 have a7:=M.e_inr hM aA
 subst a7;replace hM:=a4;(try dsimp only at hM);refine kg 7 ?_;refine W.ret ?_
 have ay:=M.e_pure hM
 exact ⟨_,resE_tmp2 rfl,⟨l,ah,ae,ay,rfl,(H.pk [0])⟩⟩

def zc5 (w_:List Work) (order:List Int) (s2:Nat) (l:List Int):(Int × Nat)->M ((Int × Nat) ⊕ Int):=fun (begin,s) =>
  bif decide ((s:Int)<(((w_.getD (Int.toNat (order.getD s2 0)) default).of).length:Int)) then (
  M.grd (decide ((s:Int)<(((w_.getD (Int.toNat (order.getD s2 0)) default).of).length:Int))) <|
  M.grd (decide ((0:Int)<=(((w_.getD (Int.toNat (order.getD s2 0)) default).of).getD s 0))&&decide ((((w_.getD (Int.toNat (order.getD s2 0)) default).of).getD s 0)<(l.length:Int))) <|
  M.pure (.inl (max begin (l.getD (Int.toNat (((w_.getD (Int.toNat (order.getD s2 0)) default).of).getD s 0)) 0),s+1)))
  else (
  M.pure (.inr begin))
def zcL (w_:List Work) (order:List Int) (stale:List Bool):(Nat × (List Int))->M ((Nat × (List Int)) ⊕ ((List Int) × (List Int))):=fun (s2,l) =>
  bif decide ((s2:Int)<(order.length:Int)) then (
  M.grd (decide ((s2:Int)<(order.length:Int))) <|
  M.grd (decide ((0:Int)<=(order.getD s2 0))&&decide ((order.getD s2 0)<(30:Int))) <|
  bif !(stale.getD (Int.toNat (order.getD s2 0)) false) then (
  M.pure (.inl (s2+1,l)))
  else (
  M.grd (decide ((0:Int)<=(order.getD s2 0))&&decide ((order.getD s2 0)<(w_.length:Int))) <|
  M.bind (M.iter (zc5 w_ order s2 l) (0,0)) fun begin2 =>
  M.grd (decide ((-9223372036854775808:Int)<=(begin2+((w_.getD (Int.toNat (order.getD s2 0)) default).minutes)))&&decide ((begin2+((w_.getD (Int.toNat (order.getD s2 0)) default).minutes))<=(9223372036854775807:Int))) <|
  M.grd (decide ((0:Int)<=(order.getD s2 0))&&decide ((order.getD s2 0)<(l.length:Int))) <|
  M.pure (.inl (s2+1,l.set (Int.toNat (order.getD s2 0)) (begin2+((w_.getD (Int.toNat (order.getD s2 0)) default).minutes):Int)))))
  else (
  M.pure (.inr (l,l)))
def zcf (w_:List Work) (order:List Int) (stale:List Bool):M (List Int) :=
  M.grd (decide (1<=(w_.length:Int))&&decide ((w_.length:Int)<=1000)) <|
  M.bind (M.iter (zcL w_ order stale) (0,List.replicate (w_.length) (-1:Int))) fun (l2,l3) =>
  M.pure l3
theorem zeP {R:List Chunk} {au:Cells} {ah:Value} {av:Cells} {ai:Value} (w_:List Work) (order:List Int) (stale:List Bool) (aw:Reads R au) (ak:Sl au ah w_) (aT:Reads R av) (aF:Sl av ai order) (aG:stale.length=30) {r:(List Int)} (hM:(zcf w_ order stale).Ends r) (w:World) (H:St w w [] R):Ret Tryz.prog 85 #[ah,ai,.agg (encB stale).toArray] w fun v w'=>∃ (y0:List Int) (u0:Value),y0=r/\v=u0/\St w w' [cOwn (α:=Int) 3 u0 y0] R:=by
 refine ret_of_W Tryz.func85 rfl rfl rfl ?_;refine kg 2 ?_;refine t_box (v:=.agg (encB stale).toArray) (cs:=encB stale) H rfl rfl ?_;intro ab aU H;refine kg 4 ?_;refine t_bs (α:=Int) T22 [I (-1)] [(-1:Int)] H rfl (.cons rfl (Flat.rep_enc _ (-1:Int))<|.nil) rfl rfl rfl ?_;intro ag aV H
 have aW:=(ak).len_le
 obtain ⟨aX,hM⟩:=M.e_gd hM;refine kg 2 ?_;refine s_call cf76 [ag,I (w_.length:Int)] rfl (repeat_int _ ((H.os 0).mono (H.ol 0)) (by omega) (by omega)) ?_
 rintro ax aH ⟨ay,az⟩
 replace H:St w aH [cOwn (α:=Int) 3 ax (List.replicate (w_.length) (-1:Int)),cOwn (α:=Int) 3 ag ([(-1:Int)]),cBlk ab (encB stale) 119] R:=H.ownOf az ay
 clear az ay
 have aY:=(aF).len_le
 refine kg 10 ?_;obtain ⟨aI,al,aJ⟩:=M.e_bind hM
 obtain ⟨aK,al⟩:=M.e_iter al
 refine W.loop (fun m σ W=>∃ (s2:Nat) (l:List Int) (aa:Value) (ρ:Env),σ=upds ρ [(0,ah),(5,Pq ab),(7,aa),(17,ai),(18,I (order.length:Int)),(19,I (s2:Int))]/\M.iterN (zcL w_ order stale) m (s2,l)=some aI/\St w W [cOwn (α:=Int) 3 aa l,cOwn (α:=Int) 3 ag ([(-1:Int)]),cBlk ab (encB stale) 119] R) ?_ ?_
 ·exact ⟨_,0,List.replicate (w_.length) (-1:Int),ax,_,upds_of _ _ ⟨rfl,rfl,rfl,rfl,rfl,rfl,trivial⟩,al,H⟩
 rintro aZ σ a0 ⟨s2,l,aa,ρ,rfl,aA,H⟩
 obtain ⟨aB,aC,a4,hM,am⟩:=M.e_iterN aA
 simp only [zcL] at hM
 clear aA;refine kg 5 ?_
 refine W.cond (decide ((s2:Int)<(order.length:Int))) rfl (fun ac=>?_) (fun ac=>?_)
 ·replace hM:=M.e_t hM ac
  replace ac:=dI ac
  obtain ⟨a5,hM⟩:=M.e_gd hM;obtain ⟨a6,hM⟩:=M.e_gd hM;refine kg 13 ?_;refine s_val (x_ix (v:=.pointer (some ⟨ab,0+Int.toNat (order.getD s2 0),none⟩)) rfl rfl (run_indexArr Tryz.underlying119 Sz4 (by omega) (by omega)))<|s_val (x_ld (v:=B (stale.getD (Int.toNat (order.getD s2 0)) false)) rfl (ldArr Sc4 (H.bl 2) (by omega) (by have a7:=aG; omega))) ?_;refine kg 2 ?_
  refine W.cond (!(stale.getD (Int.toNat (order.getD s2 0)) false)) rfl (fun ao=>?_) (fun ao=>?_)
  ·replace hM:=M.e_t hM ao;refine W.exit ?_;refine kg 4 ?_
   exact ⟨aB,aC,s2+1,l,aa,_,upds_of _ _ ⟨rfl,rfl,rfl,rfl,rfl,rfl,trivial⟩,M.e_inl hM am,H⟩
  replace hM:=M.e_f hM ao;obtain ⟨a8,hM⟩:=M.e_gd hM;refine kg 12 ?_
  obtain ⟨ap,aL,aj⟩:=Work_at0 ak (i:=order.getD s2 0) (by omega) (by omega)
  replace aj:Sl _ ap (w_.getD (Int.toNat (order.getD s2 0)) default).of:=aj
  have a9:=aj.len_le
  refine s_val (x_ld (v:=ap) rfl (ld_sc Sc22 (At.mono (aL) (aw.at H)))) ?_
  have ba:=(aj).len_le
  refine kg 4 ?_;obtain ⟨aM,aq,aN⟩:=M.e_bind hM
  obtain ⟨aK,aq⟩:=M.e_iter aq
  refine W.loop (fun m σ W=>∃ (begin:Int) (s:Nat) (ρ:Env),σ=upds ρ [(0,ah),(5,Pq ab),(7,aa),(9,I (order.getD s2 0)),(10,I begin),(17,ai),(18,I (order.length:Int)),(19,I (s2:Int)),(31,ap),(32,I (((w_.getD (Int.toNat (order.getD s2 0)) default).of).length:Int)),(33,I (s:Int))]/\M.iterN (zc5 w_ order s2 l) m (begin,s)=some aM/\St w W [cOwn (α:=Int) 3 aa l,cOwn (α:=Int) 3 ag ([(-1:Int)]),cBlk ab (encB stale) 119] R) ?_ ?_
  ·exact ⟨_,0,0,_,upds_of _ _ ⟨rfl,rfl,rfl,rfl,rfl,rfl,rfl,rfl,rfl,rfl,rfl,trivial⟩,aq,H⟩
  rintro bb σ bc ⟨begin,s,ρ,rfl,aD,H⟩
  obtain ⟨aO,aP,bf,hM,aE⟩:=M.e_iterN aD
  simp only [zc5] at hM
  clear aD;refine kg 5 ?_
  refine W.cond (decide ((s:Int)<(((w_.getD (Int.toNat (order.getD s2 0)) default).of).length:Int))) rfl (fun ae=>?_) (fun ae=>?_)
  ·replace hM:=M.e_t hM ae
   replace ae:=dI ae
   obtain ⟨bg,hM⟩:=M.e_gd hM;obtain ⟨bh,hM⟩:=M.e_gd hM;refine kg 22 ?_
   exact ⟨aO,aP,max begin (l.getD (Int.toNat (((w_.getD (Int.toNat (order.getD s2 0)) default).of).getD s 0)) 0),s+1,_,upds_of _ _ ⟨rfl,rfl,rfl,rfl,rfl,rfl,rfl,rfl,rfl,rfl,rfl,trivial⟩,M.e_inl hM aE,H⟩
  replace hM:=M.e_f hM ae
  replace ae:=dI ae
  refine W.exit ?_
  have aQ:=M.e_inr hM aE
  subst aQ;replace hM:=aN;(try dsimp only at hM);refine kg 8 ?_;refine s_val (x_ld (v:=I ((w_.getD (Int.toNat (order.getD s2 0)) default).minutes)) rfl (ld_sc Sc3 (At.mono (Work_at2 ak (i:=order.getD s2 0) (by omega) (by omega)) (aw.at H)))) ?_;obtain ⟨bi,hM⟩:=M.e_gd hM;obtain ⟨bj,hM⟩:=M.e_gd hM;refine kg 2 ?_;refine t_ost (k:=0) (i:=order.getD s2 0) (l:=l) (l':=l.set (Int.toNat (order.getD s2 0)) (begin+((w_.getD (Int.toNat (order.getD s2 0)) default).minutes):Int)) (val:=I (begin+((w_.getD (Int.toNat (order.getD s2 0)) default).minutes))) (L':=[cOwn (α:=Int) 3 aa (l.set (Int.toNat (order.getD s2 0)) (begin+((w_.getD (Int.toNat (order.getD s2 0)) default).minutes):Int)),cOwn (α:=Int) 3 ag ([(-1:Int)]),cBlk ab (encB stale) 119]) H rfl Sz3 (by omega) (by omega) (begin+((w_.getD (Int.toNat (order.getD s2 0)) default).minutes):Int) rfl rfl rfl rfl rfl ?_;intro bm H;refine kg 5 ?_
  exact ⟨aB,aC,s2+1,l.set (Int.toNat (order.getD s2 0)) (begin+((w_.getD (Int.toNat (order.getD s2 0)) default).minutes):Int),aa,_,upds_of _ _ ⟨rfl,rfl,rfl,rfl,rfl,rfl,trivial⟩,M.e_inl hM am,H⟩
 replace hM:=M.e_f hM ac
 replace ac:=dI ac
 refine W.exit ?_
 have aR:=M.e_inr hM am
 subst aR;replace hM:=aJ;(try dsimp only at hM);replace H:=H.pk [0];refine kg 5 ?_;refine W.ret ?_
 have aS:=M.e_pure hM
 exact ⟨_,resE_tmp rfl,⟨l,aa,aS,rfl,H⟩⟩

def zb7 (w_:List Work) (revised:List Int):M ((List Int) × Int) :=
  M.bind (zaG w_ revised) fun x_=>match x_ with
  | (.inl (r2,r3))=>(
  bif r3 != 0 then (
  M.pure (([]),r3))
  else (
  M.fail))
  | (.inr (r1,aa,ab))=>(
  bif ab != 0 then (
  M.fail)
  else (
  M.bind (zcf w_ r1 aa) fun r4 =>
  M.pure (r4,0)))
theorem zfh {R:List Chunk} {am:Cells} {ab:Value} {ao:Cells} {ai:Value} (w_:List Work) (revised:List Int) (ap:Reads R am) (aq:Sl am ab w_) (av:Reads R ao) (aw:Sl ao ai revised) {r:((List Int) × Int)} (hM:(zb7 w_ revised).Ends r) (w:World) (H:St w w [] R):Ret Tryz.prog 39 #[ab,ai] w fun v w'=>∃ (y0:List Int) (y1:Int) (u0:Value),(y0,y1)=r/\v = .tuple #[u0,I y1]/\St w w' [cOwn (α:=Int) 3 u0 y0] R:=by
 refine ret_of_W Tryz.func39 rfl rfl rfl ?_;refine kg 9 ?_;obtain ⟨aF,ax,hM⟩:=M.e_bind hM;refine s_call cf80 [ab,ai] rfl (za0 w_ revised (ap.app _) aq (av.app _) aw ax _ (H.gt 0)) ?_
 rintro vq aG (⟨r2,r3,ay,hvq,aa,az⟩ | ⟨r1,ac,aA,aB,au,aC,hvq,aa,aj⟩)
 ·subst ay;subst vq;(try dsimp only at hM);replace H:=H.bk aa;clear aa;refine kg 5 ?_;refine t_alloc (cs:=encB (List.replicate 30 false)) H Al119 rfl ?_;intro ae aH H
  have ak:(List.replicate 30 false).length=30:=by simp
  refine kg 2 ?_;refine t_stArrA (k:=0) (b:=ae) (l:=List.replicate 30 false) (l':=r2) (L':=[cBlk ae (encB r2) 119]) H rfl rfl rfl Sz119 ak az rfl ?_;intro aI H;refine kg 8 ?_
  refine W.cond (r3 != 0) rfl (fun ag=>?_) (fun ag=>?_)
  ·replace hM:=M.e_t hM ag
   replace ag:=dI ag
   refine kg 6 ?_;refine W.ret ?_
   have al:=M.e_pure hM
   replace H:=H.nilOwn (α:=Int) 3
   exact ⟨_,resE_tmp2 rfl,⟨([]),r3,(.slice none 0 0),al,rfl,(H.pk [0])⟩⟩
  replace hM:=M.e_f hM ag
  exact (M.e_fail hM).elim
 subst aC;subst vq;(try dsimp only at hM);replace H:=H.bk aa;clear aa;refine kg 5 ?_;refine t_alloc (cs:=encB (List.replicate 30 false)) H Al119 rfl ?_;intro ae aJ H
 have ak:(List.replicate 30 false).length=30:=by simp
 refine kg 2 ?_;refine t_stArrA (k:=0) (b:=ae) (l:=List.replicate 30 false) (l':=ac) (L':=[cBlk ae (encB ac) 119,cBlk aB [ab] 97,cOwn (α:=Int) 3 au r1]) H rfl rfl rfl Sz119 ak aj rfl ?_;intro aK H;refine kg 8 ?_
 refine W.cond (aA != 0) rfl (fun ah=>?_) (fun ah=>?_)
 ·replace hM:=M.e_t hM ah
  exact (M.e_fail hM).elim
 replace hM:=M.e_f hM ah
 replace ah:=dI ah
 refine kg 5 ?_;refine s_val (x_ld (v:=.agg (encB ac).toArray) rfl (ldArrA Ag119 Sz119 aj (H.bl 0))) ?_;obtain ⟨aL,aD,hM⟩:=M.e_bind hM;refine s_call cf85 [ab,au,.agg (encB ac).toArray] rfl (zeP w_ r1 ac (ap.app _) aq (rdo 2) (H.os 2) aj aD _ (H.gt 3)) ?_
 rintro vq aM ⟨r4,aE,rfl,hvq,aa⟩
 subst vq;(try dsimp only at hM);replace H:=H.bk aa;clear aa;refine kg 3 ?_;replace H:=H.pk [0];refine W.ret ?_
 have al:=M.e_pure hM
 exact ⟨_,resE_tmp2 rfl,⟨r4,0,aE,al,rfl,H⟩⟩

def zcG (x:List Int):(Int × Nat)->M ((Int × Nat) ⊕ Int):=fun (m2,i) =>
  bif decide ((i:Int)<(x.length:Int)) then (
  M.grd (decide ((i:Int)<(x.length:Int))) <|
  M.pure (.inl (max m2 (x.getD i 0),i+1)))
  else (
  M.pure (.inr m2))
def zfa (x:List Int):M Int :=
  bif decide ((x.length:Int)<1) then (
  M.fail)
  else (
  M.grd (decide (0<(x.length:Int))) <|
  M.bind (M.iter (zcG x) (x.getD 0 0,1)) fun m3 =>
  M.pure m3)
theorem zeU {R:List Chunk} {ag:Cells} {ac:Value} (x:List Int) (au:Reads R ag) (ah:Sl ag ac x) {r:Int} (hM:(zfa x).Ends r) (w:World) (H:St w w [] R):Ret Tryz.prog 86 #[ac] w fun v w'=>∃ (y0:Int),y0=r/\v=I y0/\St w w' [] R:=by
 refine ret_of_W Tryz.func86 rfl rfl rfl ?_
 have av:=(ah).len_le
 refine kg 11 ?_
 refine W.cond (decide ((x.length:Int)<1)) rfl (fun aa=>?_) (fun aa=>?_)
 ·replace hM:=M.e_t hM aa
  replace aa:=dI aa
  refine W.region rfl ?_
  exact (M.e_fail hM).elim
 replace hM:=M.e_f hM aa
 replace aa:=dI aa
 obtain ⟨aw,hM⟩:=M.e_gd hM;refine kg 14 ?_;obtain ⟨ak,ae,al⟩:=M.e_bind hM
 obtain ⟨ax,ae⟩:=M.e_iter ae
 refine W.loop (fun m σ W=>∃ (m2:Int) (i:Nat) (ρ:Env),σ=upds ρ [(0,ac),(3,I m2),(4,I (i:Int))]/\M.iterN (zcG x) m (m2,i)=some ak/\St w W [] R) ?_ ?_
 ·exact ⟨_,x.getD 0 0,1,_,upds_of _ _ ⟨rfl,rfl,rfl,trivial⟩,ae,H⟩
 rintro ay σ az ⟨m2,i,ρ,rfl,ai,H⟩
 obtain ⟨am,ao,aA,hM,aj⟩:=M.e_iterN ai
 simp only [zcG] at hM
 clear ai
 have aB:=(ah).len_le
 refine kg 8 ?_
 refine W.cond (decide ((i:Int)<(x.length:Int))) rfl (fun ab=>?_) (fun ab=>?_)
 ·replace hM:=M.e_t hM ab
  replace ab:=dI ab
  obtain ⟨aC,hM⟩:=M.e_gd hM;refine kg 17 ?_
  exact ⟨am,ao,max m2 (x.getD i 0),i+1,_,upds_of _ _ ⟨rfl,rfl,rfl,trivial⟩,M.e_inl hM aj,H⟩
 replace hM:=M.e_f hM ab
 replace ab:=dI ab
 refine W.exit ?_
 have ap:=M.e_inr hM aj
 subst ap;replace hM:=al;(try dsimp only at hM);refine kg 5 ?_;refine W.ret ?_
 have aq:=M.e_pure hM
 exact ⟨_,resE_tmp rfl,⟨m2,aq,rfl,H⟩⟩

end Go.Proofs.YtkclldpnmolljaaGreat
end
section
set_option maxRecDepth 100000
set_option maxHeartbeats 16000000
namespace Go.Proofs.YtkclldpnmolljaaGreat
open Go Go.Nm
attribute [local irreducible] gd execOp SL SLD SLT WR
def zdm (k:Int) (ab:List Int) (aa:Int) (ac:List Work):M Bool :=
  M.grd (decide ((0:Int)<=k)&&decide (k<(ab.length:Int))) <|
  M.grd (decide ((0:Int)<=aa)&&decide (aa<(ab.length:Int))) <|
  M.grd (decide ((0:Int)<=aa)&&decide (aa<(ac.length:Int))) <|
  M.grd (decide ((-9223372036854775808:Int)<=((ab.getD (Int.toNat aa) 0)-((ac.getD (Int.toNat aa) default).minutes)))&&decide (((ab.getD (Int.toNat aa) 0)-((ac.getD (Int.toNat aa) default).minutes))<=(9223372036854775807:Int))) <|
  M.pure ((ab.getD (Int.toNat k) 0)==((ab.getD (Int.toNat aa) 0)-((ac.getD (Int.toNat aa) default).minutes)))
theorem zfZ {R:List Chunk} {ae:Nat} {ag:Cells} {ah:Value} {ai:Nat} {aj:Nat} {ak:Cells} {al:Value} (k:Int) (ab:List Int) (aa:Int) (ac:List Work) (au:Reads R ag) (av:Sl ag ah ab) (aw:Has R (cBlk ae [ah] 22)) (ax:Has R (cBlk ai [I aa] 3)) (ao:Reads R ak) (ap:Sl ak al ac) (ay:Has R (cBlk aj [al] 23)) {r:Bool} (hM:(zdm k ab aa ac).Ends r) (w:World) (H:St w w [] R):Ret Tryz.prog 87 #[I k,Pq ae,Pq ai,Pq aj] w fun v w'=>∃ (y0:Bool),y0=r/\v=B y0/\St w w' [] R:=by
 refine ret_of_W Tryz.func87 rfl rfl rfl ?_;refine kg 5 ?_;refine W.draw (fun W=>St w W [] R) [(0,true),(1,true),(2,true),(3,true),(4,true),(5,true),(6,true),(7,true),(8,true),(9,true),(10,true),(11,true),(12,true),(13,true),(14,true),(15,true)] mixed (by decide +kernel) rfl ?_;intro az am;replace H:=H.ext am;clear am
 refine ⟨(H.pk []),?_⟩
 obtain ⟨aA,hM⟩:=M.e_gd hM;obtain ⟨aB,hM⟩:=M.e_gd hM;obtain ⟨aC,hM⟩:=M.e_gd hM;refine kg 12 ?_;refine d_q rfl (fun w' H=>x_ld (v:=I ((ac.getD (Int.toNat aa) default).minutes)) rfl (ld_sc Sc3 (At.mono (Work_at2 ap (i:=aa) (by omega) (by omega)) (ao.at H)))) ?_;obtain ⟨aD,hM⟩:=M.e_gd hM;refine kg 4 ?_;refine W.ret ?_
 have aq:=M.e_pure hM
 exact ⟨_,resE_tmp rfl,⟨((ab.getD (Int.toNat k) 0)==((ab.getD (Int.toNat aa) 0)-((ac.getD (Int.toNat aa) default).minutes))),aq,rfl,H⟩⟩

def zdw  : ((List Int) × Nat × Int)->M (((List Int) × Nat × Int) ⊕ (List Int)):=fun (l,i,j) =>
  bif decide ((i:Int)<j) then (
  M.grd (decide ((0:Int)<=j)&&decide (j<(l.length:Int))) <|
  M.grd (decide ((i:Int)<(l.length:Int))) <|
  M.grd (decide ((0:Int)<=j)&&decide (j<((l.set i (l.getD (Int.toNat j) 0:Int)).length:Int))) <|
  M.grd (decide ((-9223372036854775808:Int)<=((i:Int)+1))&&decide (((i:Int)+1)<=(9223372036854775807:Int))) <|
  M.grd (decide ((-9223372036854775808:Int)<=(j-1))&&decide ((j-1)<=(9223372036854775807:Int))) <|
  M.pure (.inl ((l.set i (l.getD (Int.toNat j) 0:Int)).set (Int.toNat j) (l.getD i 0:Int),i+1,j-1)))
  else (
  M.pure (.inr l))
def ze0 (s:List Int):M (List Int) :=
  M.bind (M.iter (zdw) (s,0,(s.length:Int)-1)) fun l2 =>
  M.pure l2
theorem zgo {R:List Chunk} {aa:Value} (s:List Int)  {r:(List Int)} (hM:(ze0 s).Ends r) (w:World) (H:St w w [cOwn (α:=Int) 3 aa s] R):Ret Tryz.prog 88 #[aa] w fun v w'=>∃ (y0:List Int),y0=r/\v = .tuple #[]/\St w w' [cOwn (α:=Int) 3 aa y0] R:=by
 refine ret_of_W Tryz.func88 rfl rfl rfl ?_
 have ap:=((H.os 0)).len_le
 refine kg 9 ?_;obtain ⟨ak,ah,al⟩:=M.e_bind hM
 obtain ⟨aq,ah⟩:=M.e_iter ah
 refine W.loop (fun m σ W=>∃ (l:List Int) (i:Nat) (j:Int) (ρ:Env),σ=upds ρ [(0,aa),(2,I (i:Int)),(3,I j)]/\M.iterN (zdw) m (l,i,j)=some ak/\St w W [cOwn (α:=Int) 3 aa l] R) ?_ ?_
 ·exact ⟨_,s,0,(s.length:Int)-1,_,upds_of _ _ ⟨rfl,rfl,rfl,trivial⟩,ah,H⟩
 rintro au σ av ⟨l,i,j,ρ,rfl,ai,H⟩
 obtain ⟨ae,ag,aw,hM,ab⟩:=M.e_iterN ai
 simp only [zdw] at hM
 clear ai;refine kg 7 ?_
 refine W.cond (decide ((i:Int)<j)) rfl (fun ac=>?_) (fun ac=>?_)
 ·replace hM:=M.e_t hM ac
  replace ac:=dI ac
  refine kg 3 ?_;refine W.drawT (fun W=>St w W [] R) (.q 0 (.q 1 (.q 2 (.q 3 (.q 4 (.q 5 (.q 8 (.q 9 (.l2 6 (.l2 7 (.l 10 (.l 11 (.l 12 (.l 13 (.l 14 (.l 15 .nil)))))) 10 (.l2 7 (.l 11 (.l 12 (.l 13 (.l 14 (.l 15 .nil))))) 11 (.l 7 (.l 12 (.l 13 (.l 14 (.l 15 .nil))))))) 10 (.l2 6 (.l2 7 (.l 11 (.l 12 (.l 13 (.l 14 (.l 15 .nil))))) 11 (.l 7 (.l 12 (.l 13 (.l 14 (.l 15 .nil)))))) 11 (.l 6 (.l 7 (.l 12 (.l 13 (.l 14 (.l 15 .nil)))))))))))))))) mixed (by decide +kernel) rfl ?_;intro ax aj;replace H:=H.ext aj;clear aj
  refine ⟨(H.pk []),?_⟩
  obtain ⟨ay,hM⟩:=M.e_gd hM;obtain ⟨az,hM⟩:=M.e_gd hM;obtain ⟨aA,hM⟩:=M.e_gd hM;refine kg 8 ?_;refine t_l2 rfl rfl ?_ ?_
  ·skip
   refine kg 1 ?_
   have aB:=Sl.cells (H.os 0)
   have aC:=Sl.oc (H.os 0)
   refine s_nil ⟨(H.pk []),?_⟩
   refine t_l2 rfl rfl ?_ ?_
   ·skip
    refine kg 1 ?_
    refine s_nil ⟨(H.pk []),?_⟩
    refine t_l rfl ?_;refine kg 1 ?_
    refine s_nil ⟨(H.pk []),?_⟩
    refine t_l rfl ?_;refine kg 1 ?_
    refine s_nil ⟨(H.pk []),?_⟩
    refine t_l rfl ?_;refine kg 1 ?_
    refine s_nil ⟨(H.pk []),?_⟩
    refine t_l rfl ?_;refine t_ost (k:=0) (i:=(i:Int)) (l:=l) (l':=l.set i (l.getD (Int.toNat j) 0:Int)) (val:=I (l.getD (Int.toNat j) 0)) (L':=[cOwn (α:=Int) 3 aa (l.set i (l.getD (Int.toNat j) 0:Int))]) H rfl Sz3 (by omega) (by omega) (l.getD (Int.toNat j) 0:Int) rfl rfl rfl rfl rfl ?_;intro aD H
    refine s_nil ⟨(H.pk []),?_⟩
    refine t_l rfl ?_;refine kg 1 ?_
    refine s_nil ⟨(H.pk []),?_⟩
    refine t_l rfl ?_;refine t_ost (k:=0) (i:=j) (l:=l.set i (l.getD (Int.toNat j) 0:Int)) (l':=(l.set i (l.getD (Int.toNat j) 0:Int)).set (Int.toNat j) (l.getD i 0:Int)) (val:=I (l.getD i 0)) (L':=[cOwn (α:=Int) 3 aa ((l.set i (l.getD (Int.toNat j) 0:Int)).set (Int.toNat j) (l.getD i 0:Int))]) H rfl Sz3 (by omega) (by omega) (l.getD i 0:Int) rfl rfl rfl rfl rfl ?_;intro aE H
    refine s_nil ⟨(H.pk []),?_⟩
    obtain ⟨aF,hM⟩:=M.e_gd hM;obtain ⟨aG,hM⟩:=M.e_gd hM;refine kg 9 ?_
    exact ⟨ae,ag,(l.set i (l.getD (Int.toNat j) 0:Int)).set (Int.toNat j) (l.getD i 0:Int),i+1,j-1,_,upds_of _ _ ⟨rfl,rfl,rfl,trivial⟩,M.e_inl hM ab,H⟩
   skip
   refine kg 1 ?_
   refine s_nil ⟨(H.pk []),?_⟩
   refine t_l2 rfl rfl ?_ ?_
   ·skip
    refine kg 1 ?_
    refine s_nil ⟨(H.pk []),?_⟩
    refine t_l rfl ?_;refine kg 1 ?_
    refine s_nil ⟨(H.pk []),?_⟩
    refine t_l rfl ?_;refine kg 1 ?_
    refine s_nil ⟨(H.pk []),?_⟩
    refine t_l rfl ?_;refine t_ost (k:=0) (i:=(i:Int)) (l:=l) (l':=l.set i (l.getD (Int.toNat j) 0:Int)) (val:=I (l.getD (Int.toNat j) 0)) (L':=[cOwn (α:=Int) 3 aa (l.set i (l.getD (Int.toNat j) 0:Int))]) H rfl Sz3 (by omega) (by omega) (l.getD (Int.toNat j) 0:Int) rfl rfl rfl rfl rfl ?_;intro aH H
    refine s_nil ⟨(H.pk []),?_⟩
    refine t_l rfl ?_;refine kg 1 ?_
    refine s_nil ⟨(H.pk []),?_⟩
    refine t_l rfl ?_;refine t_ost (k:=0) (i:=j) (l:=l.set i (l.getD (Int.toNat j) 0:Int)) (l':=(l.set i (l.getD (Int.toNat j) 0:Int)).set (Int.toNat j) (l.getD i 0:Int)) (val:=I (l.getD i 0)) (L':=[cOwn (α:=Int) 3 aa ((l.set i (l.getD (Int.toNat j) 0:Int)).set (Int.toNat j) (l.getD i 0:Int))]) H rfl Sz3 (by omega) (by omega) (l.getD i 0:Int) rfl rfl rfl rfl rfl ?_;intro aI H
    refine s_nil ⟨(H.pk []),?_⟩
    obtain ⟨aJ,hM⟩:=M.e_gd hM;obtain ⟨aK,hM⟩:=M.e_gd hM;refine kg 9 ?_
    exact ⟨ae,ag,(l.set i (l.getD (Int.toNat j) 0:Int)).set (Int.toNat j) (l.getD i 0:Int),i+1,j-1,_,upds_of _ _ ⟨rfl,rfl,rfl,trivial⟩,M.e_inl hM ab,H⟩
   skip
   refine kg 1 ?_
   refine s_nil ⟨(H.pk []),?_⟩
   refine t_l rfl ?_;refine kg 1 ?_
   refine s_nil ⟨(H.pk []),?_⟩
   refine t_l rfl ?_;refine kg 1 ?_
   refine s_nil ⟨(H.pk []),?_⟩
   refine t_l rfl ?_;refine t_ost (k:=0) (i:=(i:Int)) (l:=l) (l':=l.set i (l.getD (Int.toNat j) 0:Int)) (val:=I (l.getD (Int.toNat j) 0)) (L':=[cOwn (α:=Int) 3 aa (l.set i (l.getD (Int.toNat j) 0:Int))]) H rfl Sz3 (by omega) (by omega) (l.getD (Int.toNat j) 0:Int) rfl rfl rfl rfl rfl ?_;intro aL H
   refine s_nil ⟨(H.pk []),?_⟩
   refine t_l rfl ?_;refine kg 1 ?_
   refine s_nil ⟨(H.pk []),?_⟩
   refine t_l rfl ?_;refine t_ost (k:=0) (i:=j) (l:=l.set i (l.getD (Int.toNat j) 0:Int)) (l':=(l.set i (l.getD (Int.toNat j) 0:Int)).set (Int.toNat j) (l.getD i 0:Int)) (val:=I (l.getD i 0)) (L':=[cOwn (α:=Int) 3 aa ((l.set i (l.getD (Int.toNat j) 0:Int)).set (Int.toNat j) (l.getD i 0:Int))]) H rfl Sz3 (by omega) (by omega) (l.getD i 0:Int) rfl rfl rfl rfl rfl ?_;intro aM H
   refine s_nil ⟨(H.pk []),?_⟩
   obtain ⟨aN,hM⟩:=M.e_gd hM;obtain ⟨aO,hM⟩:=M.e_gd hM;refine kg 9 ?_
   exact ⟨ae,ag,(l.set i (l.getD (Int.toNat j) 0:Int)).set (Int.toNat j) (l.getD i 0:Int),i+1,j-1,_,upds_of _ _ ⟨rfl,rfl,rfl,trivial⟩,M.e_inl hM ab,H⟩
  skip
  refine kg 1 ?_
  have aP:=Sl.cells (H.os 0)
  have aQ:=Sl.oc (H.os 0)
  refine s_nil ⟨(H.pk []),?_⟩
  refine t_l2 rfl rfl ?_ ?_
  ·skip
   refine kg 1 ?_
   refine s_nil ⟨(H.pk []),?_⟩
   refine t_l2 rfl rfl ?_ ?_
   ·skip
    refine kg 1 ?_
    refine s_nil ⟨(H.pk []),?_⟩
    refine t_l rfl ?_;refine kg 1 ?_
    refine s_nil ⟨(H.pk []),?_⟩
    refine t_l rfl ?_;refine kg 1 ?_
    refine s_nil ⟨(H.pk []),?_⟩
    refine t_l rfl ?_;refine t_ost (k:=0) (i:=(i:Int)) (l:=l) (l':=l.set i (l.getD (Int.toNat j) 0:Int)) (val:=I (l.getD (Int.toNat j) 0)) (L':=[cOwn (α:=Int) 3 aa (l.set i (l.getD (Int.toNat j) 0:Int))]) H rfl Sz3 (by omega) (by omega) (l.getD (Int.toNat j) 0:Int) rfl rfl rfl rfl rfl ?_;intro aR H
    refine s_nil ⟨(H.pk []),?_⟩
    refine t_l rfl ?_;refine kg 1 ?_
    refine s_nil ⟨(H.pk []),?_⟩
    refine t_l rfl ?_;refine t_ost (k:=0) (i:=j) (l:=l.set i (l.getD (Int.toNat j) 0:Int)) (l':=(l.set i (l.getD (Int.toNat j) 0:Int)).set (Int.toNat j) (l.getD i 0:Int)) (val:=I (l.getD i 0)) (L':=[cOwn (α:=Int) 3 aa ((l.set i (l.getD (Int.toNat j) 0:Int)).set (Int.toNat j) (l.getD i 0:Int))]) H rfl Sz3 (by omega) (by omega) (l.getD i 0:Int) rfl rfl rfl rfl rfl ?_;intro aS H
    refine s_nil ⟨(H.pk []),?_⟩
    obtain ⟨aT,hM⟩:=M.e_gd hM;obtain ⟨aU,hM⟩:=M.e_gd hM;refine kg 9 ?_
    exact ⟨ae,ag,(l.set i (l.getD (Int.toNat j) 0:Int)).set (Int.toNat j) (l.getD i 0:Int),i+1,j-1,_,upds_of _ _ ⟨rfl,rfl,rfl,trivial⟩,M.e_inl hM ab,H⟩
   skip
   refine kg 1 ?_
   refine s_nil ⟨(H.pk []),?_⟩
   refine t_l rfl ?_;refine kg 1 ?_
   refine s_nil ⟨(H.pk []),?_⟩
   refine t_l rfl ?_;refine kg 1 ?_
   refine s_nil ⟨(H.pk []),?_⟩
   refine t_l rfl ?_;refine t_ost (k:=0) (i:=(i:Int)) (l:=l) (l':=l.set i (l.getD (Int.toNat j) 0:Int)) (val:=I (l.getD (Int.toNat j) 0)) (L':=[cOwn (α:=Int) 3 aa (l.set i (l.getD (Int.toNat j) 0:Int))]) H rfl Sz3 (by omega) (by omega) (l.getD (Int.toNat j) 0:Int) rfl rfl rfl rfl rfl ?_;intro aV H
   refine s_nil ⟨(H.pk []),?_⟩
   refine t_l rfl ?_;refine kg 1 ?_
   refine s_nil ⟨(H.pk []),?_⟩
   refine t_l rfl ?_;refine t_ost (k:=0) (i:=j) (l:=l.set i (l.getD (Int.toNat j) 0:Int)) (l':=(l.set i (l.getD (Int.toNat j) 0:Int)).set (Int.toNat j) (l.getD i 0:Int)) (val:=I (l.getD i 0)) (L':=[cOwn (α:=Int) 3 aa ((l.set i (l.getD (Int.toNat j) 0:Int)).set (Int.toNat j) (l.getD i 0:Int))]) H rfl Sz3 (by omega) (by omega) (l.getD i 0:Int) rfl rfl rfl rfl rfl ?_;intro aW H
   refine s_nil ⟨(H.pk []),?_⟩
   obtain ⟨aX,hM⟩:=M.e_gd hM;obtain ⟨aY,hM⟩:=M.e_gd hM;refine kg 9 ?_
   exact ⟨ae,ag,(l.set i (l.getD (Int.toNat j) 0:Int)).set (Int.toNat j) (l.getD i 0:Int),i+1,j-1,_,upds_of _ _ ⟨rfl,rfl,rfl,trivial⟩,M.e_inl hM ab,H⟩
  skip
  refine kg 1 ?_
  refine s_nil ⟨(H.pk []),?_⟩
  refine t_l rfl ?_;refine kg 1 ?_
  refine s_nil ⟨(H.pk []),?_⟩
  refine t_l rfl ?_;refine kg 1 ?_
  refine s_nil ⟨(H.pk []),?_⟩
  refine t_l rfl ?_;refine kg 1 ?_
  refine s_nil ⟨(H.pk []),?_⟩
  refine t_l rfl ?_;refine t_ost (k:=0) (i:=(i:Int)) (l:=l) (l':=l.set i (l.getD (Int.toNat j) 0:Int)) (val:=I (l.getD (Int.toNat j) 0)) (L':=[cOwn (α:=Int) 3 aa (l.set i (l.getD (Int.toNat j) 0:Int))]) H rfl Sz3 (by omega) (by omega) (l.getD (Int.toNat j) 0:Int) rfl rfl rfl rfl rfl ?_;intro aZ H
  refine s_nil ⟨(H.pk []),?_⟩
  refine t_l rfl ?_;refine kg 1 ?_
  refine s_nil ⟨(H.pk []),?_⟩
  refine t_l rfl ?_;refine t_ost (k:=0) (i:=j) (l:=l.set i (l.getD (Int.toNat j) 0:Int)) (l':=(l.set i (l.getD (Int.toNat j) 0:Int)).set (Int.toNat j) (l.getD i 0:Int)) (val:=I (l.getD i 0)) (L':=[cOwn (α:=Int) 3 aa ((l.set i (l.getD (Int.toNat j) 0:Int)).set (Int.toNat j) (l.getD i 0:Int))]) H rfl Sz3 (by omega) (by omega) (l.getD i 0:Int) rfl rfl rfl rfl rfl ?_;intro a0 H
  refine s_nil ⟨(H.pk []),?_⟩
  obtain ⟨a4,hM⟩:=M.e_gd hM;obtain ⟨a5,hM⟩:=M.e_gd hM;refine kg 9 ?_
  exact ⟨ae,ag,(l.set i (l.getD (Int.toNat j) 0:Int)).set (Int.toNat j) (l.getD i 0:Int),i+1,j-1,_,upds_of _ _ ⟨rfl,rfl,rfl,trivial⟩,M.e_inl hM ab,H⟩
 replace hM:=M.e_f hM ac
 replace ac:=dI ac
 refine W.exit ?_
 have am:=M.e_inr hM ab
 subst am;replace hM:=al;(try dsimp only at hM)
 have ao:=M.e_pure hM
 exact ⟨_,resE_tmp0 rfl,⟨l,ao,rfl,H⟩⟩

def zcM (w_:List Work) (r4:List Int):(Int × (List Int))->M ((Int × (List Int)) ⊕ ((List Int) × (List Int) × Int)):=fun (s,l) =>
  M.grd (decide ((0:Int)<=s)&&decide (s<(r4.length:Int))) <|
  M.grd (decide ((0:Int)<=s)&&decide (s<(w_.length:Int))) <|
  bif decide (((w_.getD (Int.toNat s) default).minutes)<(r4.getD (Int.toNat s) 0)) then (
  M.bind (zaR ((w_.getD (Int.toNat s) default).of) (fun aa=>zdm aa r4 s w_)) fun r7 =>
  M.grd (decide ((0:Int)<=r7)&&decide (r7<(((w_.getD (Int.toNat s) default).of).length:Int))) <|
  M.grd (decide ((l.length+([(((w_.getD (Int.toNat s) default).of).getD (Int.toNat r7) 0:Int)]).length)*8<=140737488355328)) <|
  M.pure (.inl (((w_.getD (Int.toNat s) default).of).getD (Int.toNat r7) 0,l++([(((w_.getD (Int.toNat s) default).of).getD (Int.toNat r7) 0:Int)]))))
  else (
  M.pure (.inr (l,l,s)))
def zcw (w_:List Work) (r4:List Int) (r6:Int):M ((List Int) × Int) :=
  M.bind (M.iter (zcM w_ r4) (r6,[(r6:Int)])) fun (l2,l3,s2) =>
  M.bind (ze0 l3) fun l_s =>
  M.pure (l_s,0)
def zck (w_:List Work) (revised:List Int):M ((List Int) × Int) :=
  M.bind (zaG w_ revised) fun x_=>match x_ with
  | (.inl (r2,r3))=>(
  bif r3 != 0 then (
  M.pure (([]),r3))
  else (
  M.fail))
  | (.inr (r1,aa,ab))=>(
  bif ab != 0 then (
  M.fail)
  else (
  bif (revised.length:Int)==0 then (
  M.pure (([]),5))
  else (
  M.bind (zcf w_ r1 aa) fun r4 =>
  M.bind (zfa r4) fun r5 =>
  M.bind (zbK r4 r5) fun r6 =>
  zcw w_ r4 r6)))
theorem ze9 {R:List Chunk} {aF:Cells} {ae:Value} {aG:Cells} {ay:Value} (w_:List Work) (revised:List Int) (ai:Reads R aF) (aj:Sl aF ae w_) (aN:Reads R aG) (aH:Sl aG ay revised) {r:((List Int) × Int)} (hM:(zck w_ revised).Ends r) (w:World) (H:St w w [] R):Ret Tryz.prog 41 #[ae,ay] w fun v w'=>∃ (y0:List Int) (y1:Int) (u0:Value),(y0,y1)=r/\v = .tuple #[u0,I y1]/\St w w' [cOwn (α:=Int) 3 u0 y0] R:=by
 refine ret_of_W Tryz.func41 rfl rfl rfl ?_;refine kg 2 ?_;refine t_box (v:=ae) (cs:=[ae]) H rfl (Sl.cells aj) ?_;intro ag br H;refine kg 7 ?_;obtain ⟨bt,aO,hM⟩:=M.e_bind hM;refine s_call cf80 [ae,ay] rfl (za0 w_ revised (ai.app _) aj (aN.app _) aH aO _ (H.gt 1)) ?_
 rintro vq bu (⟨r2,r3,aP,hvq,aa,aQ⟩ | ⟨r1,ao,aR,aS,aI,aT,hvq,aa,az⟩)
 ·subst aP;subst vq;(try dsimp only at hM);replace H:=H.bk aa;clear aa;refine kg 5 ?_;refine t_alloc (cs:=encB (List.replicate 30 false)) H Al119 rfl ?_;intro ap bv H
  have aA:(List.replicate 30 false).length=30:=by simp
  refine kg 2 ?_;refine t_stArrA (k:=0) (b:=ap) (l:=List.replicate 30 false) (l':=r2) (L':=[cBlk ap (encB r2) 119,cBlk ag [ae] 23]) H rfl rfl rfl Sz119 aA aQ rfl ?_;intro bw H;refine kg 10 ?_
  refine W.cond (r3 != 0) rfl (fun aq=>?_) (fun aq=>?_)
  ·replace hM:=M.e_t hM aq
   replace aq:=dI aq
   refine kg 6 ?_;replace H:=H.pk [];refine W.ret ?_
   have au:=M.e_pure hM
   replace H:=H.nilOwn (α:=Int) 3
   exact ⟨_,resE_tmp2 rfl,⟨([]),r3,(.slice none 0 0),au,rfl,H⟩⟩
  replace hM:=M.e_f hM aq
  exact (M.e_fail hM).elim
 subst aT;subst vq;(try dsimp only at hM);replace H:=H.bk aa;clear aa;refine kg 5 ?_;refine t_alloc (cs:=encB (List.replicate 30 false)) H Al119 rfl ?_;intro ap bx H
 have aA:(List.replicate 30 false).length=30:=by simp
 refine kg 2 ?_;refine t_stArrA (k:=0) (b:=ap) (l:=List.replicate 30 false) (l':=ao) (L':=[cBlk ap (encB ao) 119,cBlk aS [ae] 97,cOwn (α:=Int) 3 aI r1,cBlk ag [ae] 23]) H rfl rfl rfl Sz119 aA az rfl ?_;intro bz H;refine kg 10 ?_
 refine W.cond (aR != 0) rfl (fun av=>?_) (fun av=>?_)
 ·replace hM:=M.e_t hM av
  exact (M.e_fail hM).elim
 replace hM:=M.e_f hM av
 replace av:=dI av
 have bA:=(aH).len_le
 refine kg 7 ?_
 refine W.cond ((revised.length:Int)==0) rfl (fun ak=>?_) (fun ak=>?_)
 ·replace hM:=M.e_t hM ak
  replace ak:=dI ak
  refine kg 5 ?_;replace H:=H.pk [];refine W.ret ?_
  have au:=M.e_pure hM
  replace H:=H.nilOwn (α:=Int) 3
  exact ⟨_,resE_tmp2 rfl,⟨([]),5,(.slice none 0 0),au,rfl,H⟩⟩
 replace hM:=M.e_f hM ak
 replace ak:=dI ak
 refine kg 5 ?_;refine s_val (x_ld (v:=.agg (encB ao).toArray) rfl (ldArrA Ag119 Sz119 az (H.bl 0))) ?_;obtain ⟨bB,aU,hM⟩:=M.e_bind hM;refine s_call cf85 [ae,aI,.agg (encB ao).toArray] rfl (zeP w_ r1 ao (ai.app _) aj (rdo 2) (H.os 2) az aU _ (H.gt 4)) ?_
 rintro vq bC ⟨r4,ab,rfl,hvq,aa⟩
 subst vq;(try dsimp only at hM);replace H:=H.bk aa;clear aa;refine t_alloc (cs:=[.slice none 0 0]) H Al22 rfl ?_;intro ah bD H;refine t_sw 0 0 [ab] ab H rfl rfl Sz22 (Sl.cells (H.os 1)) rfl rfl (by simp only [List.all_cons,List.all_nil,Bool.true_and,Bool.and_true,Sl.oc (H.os 1)]; try rfl) ?_;intro bE H;refine s_nil ?_;replace H:=H.pk [0,1,5];refine W.seqJ (fun σ W=>∃ (ac:Nat) (r6:Int) (ρ:Env),σ=upds ρ [(2,Pq ag),(10,Pq ah),(11,Pq ac)]/\(zcw w_ r4 r6).Ends r/\St w W [cBlk ac [I r6] 3,cBlk ah [ab] 22,cOwn (α:=Int) 3 ab r4,cBlk ag [ae] 23] R) ?_ ?_
 ·skip
  refine W.drawT (fun W=>St w W [cBlk ah [ab] 22,cOwn (α:=Int) 3 ab r4,cBlk ag [ae] 23] R) (.q 0 (.q 1 (.l2 2 (.l2 3 (.l 4 (.l 5 .nil)) 4 (.l 3 (.l 5 .nil))) 4 (.l 2 (.l 3 (.l 5 .nil)))))) mixed (by decide +kernel) rfl ?_;intro bF aw;replace H:=H.ext aw;clear aw
  refine ⟨(H.pk [0,1,2]),?_⟩
  refine kg 2 ?_;refine t_l2 rfl rfl ?_ ?_
  ·skip
   obtain ⟨bG,aV,hM⟩:=M.e_bind hM;refine s_call cf86 [ab] rfl (zeU r4 (rdo 1) (H.os 1) aV _ (H.gt 3)) ?_
   rintro vq bH ⟨r5,rfl,hvq,aa⟩
   subst vq;(try dsimp only at hM);replace H:=H.bk aa;clear aa
   refine s_nil ⟨(H.pk [0,1,2]),?_⟩
   refine t_l2 rfl rfl ?_ ?_
   ·skip
    obtain ⟨bI,aW,hM⟩:=M.e_bind hM;refine s_call cf58 [ab,I r5] rfl (zaP r4 r5 (rdo 1) (H.os 1) aW _ (H.gt 3)) ?_
    rintro vq bJ ⟨r6,rfl,hvq,aa⟩
    subst vq;(try dsimp only at hM);replace H:=H.bk aa;clear aa
    refine s_nil ⟨(H.pk [0,1,2]),?_⟩
    refine t_l rfl ?_;refine t_alloc (cs:=[I 0]) H Al3 rfl ?_;intro ac bK H
    refine s_nil ⟨(H.pk [1,2,3]),?_⟩
    refine t_l rfl ?_;refine t_sw 0 0 [I r6] (I r6) H rfl rfl Sz3 rfl rfl rfl rfl ?_;intro bL H
    refine s_nil ⟨(H.pk [1,2,3]),?_⟩
    refine t_nil ?_
    exact ⟨ac,r6,_,upds_of _ _ ⟨rfl,rfl,rfl,trivial⟩,hM,H⟩
   skip
   refine t_alloc (cs:=[I 0]) H Al3 rfl ?_;intro ac bM H
   refine s_nil ⟨(H.pk [1,2,3]),?_⟩
   refine t_l rfl ?_;obtain ⟨bN,aX,hM⟩:=M.e_bind hM;refine s_call cf58 [ab,I r5] rfl (zaP r4 r5 (rdo 2) (H.os 2) aX _ (H.gt 4)) ?_
   rintro vq bO ⟨r6,rfl,hvq,aa⟩
   subst vq;(try dsimp only at hM);replace H:=H.bk aa;clear aa
   refine s_nil ⟨(H.pk [1,2,3]),?_⟩
   refine t_l rfl ?_;refine t_sw 0 0 [I r6] (I r6) H rfl rfl Sz3 rfl rfl rfl rfl ?_;intro bP H
   refine s_nil ⟨(H.pk [1,2,3]),?_⟩
   refine t_nil ?_
   exact ⟨ac,r6,_,upds_of _ _ ⟨rfl,rfl,rfl,trivial⟩,hM,H⟩
  skip
  refine t_alloc (cs:=[I 0]) H Al3 rfl ?_;intro ac bQ H
  refine s_nil ⟨(H.pk [1,2,3]),?_⟩
  refine t_l rfl ?_;obtain ⟨bR,aY,hM⟩:=M.e_bind hM;refine s_call cf86 [ab] rfl (zeU r4 (rdo 2) (H.os 2) aY _ (H.gt 4)) ?_
  rintro vq bS ⟨r5,rfl,hvq,aa⟩
  subst vq;(try dsimp only at hM);replace H:=H.bk aa;clear aa
  refine s_nil ⟨(H.pk [1,2,3]),?_⟩
  refine t_l rfl ?_;obtain ⟨bT,aZ,hM⟩:=M.e_bind hM;refine s_call cf58 [ab,I r5] rfl (zaP r4 r5 (rdo 2) (H.os 2) aZ _ (H.gt 4)) ?_
  rintro vq bU ⟨r6,rfl,hvq,aa⟩
  subst vq;(try dsimp only at hM);replace H:=H.bk aa;clear aa
  refine s_nil ⟨(H.pk [1,2,3]),?_⟩
  refine t_l rfl ?_;refine t_sw 0 0 [I r6] (I r6) H rfl rfl Sz3 rfl rfl rfl rfl ?_;intro bV H
  refine s_nil ⟨(H.pk [1,2,3]),?_⟩
  refine t_nil ?_
  exact ⟨ac,r6,_,upds_of _ _ ⟨rfl,rfl,rfl,trivial⟩,hM,H⟩
 rintro _ bW ⟨ac,r6,ρ,rfl,hM,H⟩
 unfold zcw at hM
 refine kg 3 ?_;refine t_bs (α:=Int) T22 [I r6] [(r6:Int)] H rfl (.cons rfl (Flat.rep_enc _ (r6:Int))<|.nil) rfl rfl rfl ?_;intro a0 bX H;refine kg 4 ?_;obtain ⟨a4,aB,a5⟩:=M.e_bind hM
 obtain ⟨bY,aB⟩:=M.e_iter aB
 refine W.loop (fun m σ W=>∃ (s:Int) (l:List Int) (am:Value) (ρ:Env),σ=upds ρ [(2,Pq ag),(10,Pq ah),(11,Pq ac),(12,am)]/\M.iterN (zcM w_ r4) m (s,l)=some a4/\St w W [cOwn (α:=Int) 3 am l,cBlk ac [I s] 3,cBlk ah [ab] 22,cOwn (α:=Int) 3 ab r4,cBlk ag [ae] 23] R) ?_ ?_
 ·exact ⟨_,r6,[(r6:Int)],a0,_,upds_of _ _ ⟨rfl,rfl,rfl,rfl,trivial⟩,aB,H⟩
 rintro bZ σ b0 ⟨s,l,am,ρ,rfl,aJ,H⟩
 obtain ⟨a6,a7,b4,hM,aK⟩:=M.e_iterN aJ
 simp only [zcM] at hM
 clear aJ;refine kg 2 ?_;refine W.draw (fun W=>St w W [cOwn (α:=Int) 3 am l,cBlk ac [I s] 3,cBlk ah [ab] 22,cOwn (α:=Int) 3 ab r4,cBlk ag [ae] 23] R) [(0,true),(1,true),(2,true),(3,true),(4,true),(5,true),(6,true),(7,true),(8,true),(9,true)] mixed (by decide +kernel) rfl ?_;intro b5 aw;replace H:=H.ext aw;clear aw
 refine ⟨(H.pk [0,1,2,3,4]),?_⟩
 obtain ⟨b6,hM⟩:=M.e_gd hM;obtain ⟨b7,hM⟩:=M.e_gd hM;refine kg 8 ?_;refine d_q rfl (fun w' H=>x_ld (v:=I ((w_.getD (Int.toNat s) default).minutes)) rfl (ld_sc Sc3 (At.mono (Work_at2 aj (i:=s) (by omega) (by omega)) (ai.at H)))) ?_;refine kg 2 ?_
 refine W.cond (decide (((w_.getD (Int.toNat s) default).minutes)<(r4.getD (Int.toNat s) 0))) rfl (fun al=>?_) (fun al=>?_)
 ·replace hM:=M.e_t hM al
  replace al:=dI al
  refine kg 8 ?_
  obtain ⟨aC,a8,ax⟩:=Work_at0 aj (i:=s) (by omega) (by omega)
  replace ax:Sl _ aC (w_.getD (Int.toNat s) default).of:=ax
  have b8:=ax.len_le
  refine s_val (x_ld (v:=aC) rfl (ld_sc Sc22 (At.mono (a8) (ai.at H))))<|s_val (x_mf (fs:=[]) (cs:=[Pq ah,Pq ac,Pq ag]) rfl rfl) ?_;obtain ⟨b9,a9,hM⟩:=M.e_bind hM;refine s_call cf60 [aC,.func (.func 87) #[] #[Pq ah,Pq ac,Pq ag]] rfl (zbo ((w_.getD (Int.toNat s) default).of) (fun aD=>zdm aD r4 s w_) (ai.app _) ax ⟨87,[Pq ah,Pq ac,Pq ag],rfl,cf87,fun aL ca cb ba aD cc bb cd bc bf=>by obtain rfl:=Arg.int bc; exact (zfZ aD r4 s w_ (Reads.app (rdo 3) _) (H.os 3) (Has.app (Has.here (k:=2) rfl) _) (Has.app (Has.here (k:=1) rfl) _) (Reads.app (ai.app _) _) aj (Has.app (Has.here (k:=4) rfl) _) bf aL (St.refl bb)).mono fun ba aL ⟨ce,bg,bh,bi⟩=>by subst bg; exact ⟨bh,bi⟩⟩ a9 _ (H.gt 5)) ?_
  rintro vq cf ⟨r7,rfl,hvq,aa⟩
  subst vq;(try dsimp only at hM);replace H:=H.bk aa;clear aa;refine kg 8 ?_
  obtain ⟨aM,bj,aE⟩:=Work_at0 aj (i:=s) (by omega) (by omega)
  replace aE:Sl _ aM (w_.getD (Int.toNat s) default).of:=aE
  have cg:=aE.len_le
  refine s_val (x_ld (v:=aM) rfl (ld_sc Sc22 (At.mono (bj) (ai.at H)))) ?_;obtain ⟨ch,hM⟩:=M.e_gd hM;refine kg 3 ?_;refine t_sw 1 0 [I (((w_.getD (Int.toNat s) default).of).getD (Int.toNat r7) 0)] (I (((w_.getD (Int.toNat s) default).of).getD (Int.toNat r7) 0)) H rfl rfl Sz3 rfl rfl rfl rfl ?_;intro ci H;refine kg 4 ?_;refine t_bs (α:=Int) T22 [I (((w_.getD (Int.toNat s) default).of).getD (Int.toNat r7) 0)] [(((w_.getD (Int.toNat s) default).of).getD (Int.toNat r7) 0:Int)] H rfl (.cons rfl (Flat.rep_enc _ (((w_.getD (Int.toNat s) default).of).getD (Int.toNat r7) 0:Int))<|.nil) rfl rfl rfl ?_;intro bm cj H;obtain ⟨ck,hM⟩:=M.e_gd hM;refine t_app (α:=Int) (k:=1) (l:=l) (l2:=[(((w_.getD (Int.toNat s) default).of).getD (Int.toNat r7) 0:Int)]) (l':=l++([(((w_.getD (Int.toNat s) default).of).getD (Int.toNat r7) 0:Int)])) (vy:=bm) T22 rfl H rfl rfl rfl (H.os 0) (H.ol 0) (rfl) (by first | omega | (simp only [List.length_nil] at *; omega)) ?_;intro bn cl H;replace H:=H.nf;refine kg 2 ?_
  exact ⟨a6,a7,((w_.getD (Int.toNat s) default).of).getD (Int.toNat r7) 0,l++([(((w_.getD (Int.toNat s) default).of).getD (Int.toNat r7) 0:Int)]),bn,_,upds_of _ _ ⟨rfl,rfl,rfl,rfl,trivial⟩,M.e_inl hM aK,(H.pk [1,2,3,4,5])⟩
 replace hM:=M.e_f hM al
 replace al:=dI al
 refine W.exit ?_
 have bo:=M.e_inr hM aK
 subst bo;replace hM:=a5;(try dsimp only at hM);replace H:=H.pk [0];refine kg 3 ?_;obtain ⟨cm,bp,hM⟩:=M.e_bind hM;refine s_call cf88 [am] rfl (zgo l bp _ (H.gt 0)) ?_
 rintro vq cn ⟨l_s,rfl,hvq,aa⟩
 subst vq;(try dsimp only at hM);replace H:=H.bk aa;clear aa;refine kg 7 ?_;refine W.ret ?_
 have au:=M.e_pure hM
 exact ⟨_,resE_tmp2 rfl,⟨l_s,0,am,au,rfl,H⟩⟩

def zbk (a b:List Int):Nat->M (Nat ⊕ (Unit ⊕ Unit)):=fun i =>
  bif decide ((i:Int)<(a.length:Int)) then (
  M.grd (decide ((i:Int)<(a.length:Int))) <|
  M.grd (decide ((i:Int)<(b.length:Int))) <|
  bif (a.getD i 0) != (b.getD i 0) then (
  M.pure (.inr (.inl ())))
  else (
  M.pure (.inl (i+1))))
  else (
  M.pure (.inr (.inr ())))
def zab (a b:List Int):M Bool :=
  bif (a.length:Int) != (b.length:Int) then (
  M.pure false)
  else (
  M.bind (M.iter (zbk a b) 0) fun x_=>match x_ with
  | (.inl (_:Unit))=>(
  M.pure false)
  | (.inr (_:Unit))=>(
  M.pure true))
theorem zac {R:List Chunk} {ak:Cells} {ag:Value} {al:Cells} {ah:Value} (a:List Int) (b:List Int) (aA:Reads R ak) (am:Sl ak ag a) (aB:Reads R al) (au:Sl al ah b) {r:Bool} (hM:(zab a b).Ends r) (w:World) (H:St w w [] R):Ret Tryz.prog 20 #[ag,ah] w fun v w'=>∃ (y0:Bool),y0=r/\v=B y0/\St w w' [] R:=by
 refine ret_of_W Tryz.func20 rfl rfl rfl ?_
 have aC:=(am).len_le
 have aD:=(au).len_le
 refine kg 13 ?_
 refine W.cond ((a.length:Int) != (b.length:Int)) rfl (fun aa=>?_) (fun aa=>?_)
 ·replace hM:=M.e_t hM aa
  replace aa:=dI aa
  refine kg 4 ?_;refine W.ret ?_
  have ae:=M.e_pure hM
  exact ⟨_,resE_tmp rfl,⟨false,ae,rfl,H⟩⟩
 replace hM:=M.e_f hM aa
 replace aa:=dI aa
 refine kg 7 ?_;obtain ⟨av,ai,ao⟩:=M.e_bind hM
 obtain ⟨aE,ai⟩:=M.e_iter ai
 refine W.loop (fun m σ W=>∃ (i:Nat) (ρ:Env),σ=upds ρ [(0,ag),(1,ah),(5,I (i:Int))]/\M.iterN (zbk a b) m i=some av/\St w W [] R) ?_ ?_
 ·exact ⟨_,0,_,upds_of _ _ ⟨rfl,rfl,rfl,trivial⟩,ai,H⟩
 rintro aF σ aG ⟨i,ρ,rfl,ap,H⟩
 obtain ⟨aw,ax,aH,hM,aj⟩:=M.e_iterN ap
 simp only [zbk] at hM
 clear ap
 have aI:=(am).len_le
 refine kg 8 ?_
 refine W.cond (decide ((i:Int)<(a.length:Int))) rfl (fun ab=>?_) (fun ab=>?_)
 ·replace hM:=M.e_t hM ab
  replace ab:=dI ab
  refine kg 4 ?_;refine W.draw (fun W=>St w W [] R) [(0,true),(1,true),(2,true),(3,true),(4,true),(5,true),(6,true),(7,true),(8,true)] mixed (by decide +kernel) rfl ?_;intro aJ aq;replace H:=H.ext aq;clear aq
  refine ⟨(H.pk []),?_⟩
  obtain ⟨aK,hM⟩:=M.e_gd hM;obtain ⟨aL,hM⟩:=M.e_gd hM;refine kg 10 ?_
  refine W.cond ((a.getD i 0) != (b.getD i 0)) rfl (fun ac=>?_) (fun ac=>?_)
  ·replace hM:=M.e_t hM ac
   replace ac:=dI ac
   refine kg 4 ?_;refine W.ret ?_
   have ay:=M.e_inr hM aj
   subst ay;replace hM:=ao;(try dsimp only at hM)
   have ae:=M.e_pure hM
   exact ⟨_,resE_tmp rfl,⟨false,ae,rfl,H⟩⟩
  replace hM:=M.e_f hM ac
  replace ac:=dI ac
  refine kg 6 ?_
  exact ⟨aw,ax,i+1,_,upds_of _ _ ⟨rfl,rfl,rfl,trivial⟩,M.e_inl hM aj,H⟩
 replace hM:=M.e_f hM ab
 replace ab:=dI ab
 refine W.exit ?_
 have az:=M.e_inr hM aj
 subst az;replace hM:=ao;(try dsimp only at hM);refine kg 4 ?_;refine W.ret ?_
 have ae:=M.e_pure hM
 exact ⟨_,resE_tmp rfl,⟨true,ae,rfl,H⟩⟩

def zdv (aa:List Work) (one:Int):M Int :=
  M.pure one
theorem zeG {R:List Chunk} {aa:Nat} {ab:Cells} {ac:Value} (ae:List Work) (one:Int) (al:Reads R ab) (am:Sl ab ac ae) (ao:Has R (cBlk aa [ac] 97)) {r:Int} (hM:(zdv ae one).Ends r) (w:World) (H:St w w [] R):Ret Tryz.prog 84 #[Pq aa,I one] w fun v w'=>∃ (y0:Int) (ag:Nat) (ah:Nat),y0=r/\v = .func (.func 118) #[] #[Pq ag,Pq ah]/\St w w' [cBlk ag [Pq aa] 87,cBlk ah [I y0] 3] R:=by
 refine ret_of_W Tryz.func84 rfl rfl rfl ?_;refine kg 2 ?_;refine t_b1 (Pq aa) H rfl rfl ?_;intro ai ap H;refine t_b1 (I one) H rfl rfl ?_;intro aj aq H;refine kg 4 ?_;refine s_val (x_mf (fs:=[]) (cs:=[Pq ai,Pq aj]) rfl rfl) ?_;refine kg 2 ?_;refine W.ret ?_
 have ak:=M.e_pure hM
 exact ⟨_,resE_tmp rfl,⟨one,ai,aj,ak,rfl,(H.pk [1,0])⟩⟩

def zbt (aa:List Work) (work other:Int):M Bool :=
  M.grd (decide ((0:Int)<=work)&&decide (work<(aa.length:Int))) <|
  M.bind (zak ((aa.getD (Int.toNat work) default).of) other) fun r2 =>
  M.pure r2
theorem zeh {R:List Chunk} {ae:Nat} {ag:Cells} {ah:Value} (aa:List Work) (work:Int) (other:Int) (ai:Reads R ag) (ak:Sl ag ah aa) (ap:Has R (cBlk ae [ah] 97)) {r:Bool} (hM:(zbt aa work other).Ends r) (w:World) (H:St w w [] R):Ret Tryz.prog 109 #[Pq ae,I work,I other] w fun v w'=>∃ (y0:Bool),y0=r/\v=B y0/\St w w' [] R:=by
 refine ret_of_W Tryz.func109 rfl rfl rfl ?_;obtain ⟨aq,hM⟩:=M.e_gd hM;refine kg 14 ?_
 obtain ⟨ac,al,ab⟩:=Work_at0 ak (i:=work) (by omega) (by omega)
 replace ab:Sl _ ac (aa.getD (Int.toNat work) default).of:=ab
 have au:=ab.len_le
 refine s_val (x_ld (v:=ac) rfl (ld_sc Sc22 (At.mono (al) (ai.at H)))) ?_;refine kg 1 ?_;obtain ⟨av,am,hM⟩:=M.e_bind hM;refine s_call cf62 [ac,I other] rfl (zaq ((aa.getD (Int.toNat work) default).of) other (ai.app _) ab am _ (H.gt 0)) ?_
 rintro vq aw ⟨r2,rfl,hvq,aj⟩
 subst vq;(try dsimp only at hM);replace H:=H.bk aj;clear aj;refine kg 2 ?_;refine W.ret ?_
 have ao:=M.e_pure hM
 exact ⟨_,resE_tmp rfl,⟨r2,ao,rfl,H⟩⟩

def zbs {T_:Type} (ab:T_->Int->M (Bool × T_)) (aa:List Work) (ac:Int):(Nat × T_)->M ((Nat × T_) ⊕ (T_ ⊕ T_)):=fun (s,t2) =>
  bif decide ((s:Int)<(aa.length:Int)) then (
  M.bind (zbt aa (s:Int) ac) fun r2 =>
  M.bind (M.opt r2 (ab t2 (s:Int)) (false,t2)) fun (go,t) =>
  bif (r2&&(!go)) then (
  M.pure (.inr (.inl t)))
  else (
  M.pure (.inl (s+1,t))))
  else (
  M.pure (.inr (.inr t2)))
def zaH {T_:Type} (aa:T_->Int->M (Bool × T_)) (t_:T_) (ab:List Work) (ac:Int):M T_ :=
  M.bind (M.iter (zbs aa ab ac) (0,t_)) fun x_=>match x_ with
  | (.inl t3)=>(
  M.pure t3)
  | (.inr t4)=>(
  M.pure t4)
theorem zex {R:List Chunk} {T_:Type} {Y_:T_->List Chunk->Prop} {ae:Value} {ag:List Chunk} {ah:Nat} {ai:Nat} {aq:Cells} {au:Value} {aj:Nat} (ak:T_->Int->M (Bool × T_)) (t_:T_) (ab:List Work) (ac:Int) (aB:YieldC Tryz.prog R arI Y_ ae ak) (aC:Y_ t_ ag) (aD:Reads R aq) (av:Sl aq au ab) (aE:Has R (cBlk ai [au] 97)) (aM:Has R (cBlk ah [Pq ai] 87)) (aN:Has R (cBlk aj [I ac] 3)) {r:T_} (hM:(zaH ak t_ ab ac).Ends r) (w:World) (H:St w w [cAll ag] R):Ret Tryz.prog 118 #[ae,Pq ah,Pq aj] w fun v w'=>∃ (y0:T_) (Ls0:List Chunk),y0=r/\v = .tuple #[]/\St w w' [cAll Ls0] R/\Y_ y0 Ls0:=by
 refine ret_of_W Tryz.func118 rfl rfl rfl ?_
 have aO:=(av).len_le
 refine kg 11 ?_;obtain ⟨aF,al,aw⟩:=M.e_bind hM
 obtain ⟨aP,al⟩:=M.e_iter al
 refine W.loop (fun m σ W=>∃ (s:Nat) (t2:T_) (Ls_t2:List Chunk) (ρ:Env),σ=upds ρ [(0,ae),(1,Pq ah),(2,Pq aj),(10,I (ab.length:Int)),(11,I (s:Int))]/\M.iterN (zbs ak ab ac) m (s,t2)=some aF/\St w W [cAll Ls_t2] R/\Y_ t2 Ls_t2) ?_ ?_
 ·exact ⟨_,0,t_,ag,_,upds_of _ _ ⟨rfl,rfl,rfl,rfl,rfl,trivial⟩,al,H,aC⟩
 rintro aQ σ aR ⟨s,t2,Ls_t2,ρ,rfl,ax,H,hY_t2⟩
 obtain ⟨aG,aH,aS,hM,am⟩:=M.e_iterN ax
 simp only [zbs] at hM
 clear ax;refine kg 5 ?_
 refine W.cond (decide ((s:Int)<(ab.length:Int))) rfl (fun aa=>?_) (fun aa=>?_)
 ·replace hM:=M.e_t hM aa
  replace aa:=dI aa
  refine kg 13 ?_;obtain ⟨aT,aI,hM⟩:=M.e_bind hM;refine s_call cf109 [Pq ai,I (s:Int),I ac] rfl (zeh ab (s:Int) ac (aD.app _) av (aE.app _) aI _ (H.gt 1)) ?_
  rintro vq aU ⟨r2,rfl,hvq,ay⟩
  subst vq;(try dsimp only at hM);replace H:=H.bk ay;clear ay;refine kg 3 ?_
  obtain ⟨⟨go,t⟩,aJ,hM⟩:=M.e_bind hM
  (try dsimp only at hM);refine t_gyield (L:=[]) r2 (gy_t rfl) H aB hY_t2 (fun hg=>(gd_of hg (ae))) [I (s:Int)] (fun hg=>lst1 (gd_of hg (I (s:Int)))) (s:Int) Reads.none rfl aJ ?_;intro az aV aA H;replace H:=H.nf;refine kg 1 ?_;refine s_val (x_pand (b:=r2) (r:=!go) rfl (fun hb=>gd_of (c:=r2) (by first | exact hb | (rw [hb]; rfl) | simp_all) (B (!go))) rfl)<|s_nil ?_
  refine W.cond (r2&&(!go)) rfl (fun ao=>?_) (fun ao=>?_)
  ·replace hM:=M.e_t hM ao;refine W.ret ?_
   have aK:=M.e_inr hM am
   subst aK;replace hM:=aw;(try dsimp only at hM)
   have ap:=M.e_pure hM
   exact ⟨_,resE_tmp0 rfl,⟨t,az,ap,rfl,H,aA⟩⟩
  replace hM:=M.e_f hM ao;refine kg 5 ?_
  exact ⟨aG,aH,s+1,t,az,_,upds_of _ _ ⟨rfl,rfl,rfl,rfl,rfl,trivial⟩,M.e_inl hM am,H,aA⟩
 replace hM:=M.e_f hM aa
 replace aa:=dI aa
 refine W.exit ?_
 have aL:=M.e_inr hM am
 subst aL;replace hM:=aw;(try dsimp only at hM)
 have ap:=M.e_pure hM
 exact ⟨_,resE_tmp0 rfl,⟨t2,Ls_t2,ap,rfl,H,hY_t2⟩⟩
theorem zbS {T_:Type} {n_:Nat} {y y':T_->Int->M (Bool × T_)} (h:∀ s a,M.LeN n_ (y s a) (y' s a)) (t_:T_) (aa:List Work) (ab:Int):M.LeN n_ (zaH y t_ aa ab) (zaH y' t_ aa ab):=by
  simp only [zaH,zbs]
  repeat' (first | exact M.le_same _ _ | exact h _ _ | refine M.le_grd ?_ | refine M.le_if ?_ ?_ | refine M.le_bind ?_ (fun x=>?_) | refine M.le_opt ?_ | refine M.le_iter (fun x=>?_) _ | (rename_i x; cases x) | (rename_i x; obtain ⟨_,_⟩:=x))

def zbI (i:Int) (aa:List Int):M Bool :=
  M.bind (zak aa i) fun r2 =>
  M.pure r2
theorem zeL {R:List Chunk} {ac:Nat} {ae:Cells} {aa:Value} (i:Int) (ab:List Int) (ah:Reads R ae) (ai:Sl ae aa ab) (al:Has R (cBlk ac [aa] 22)) {r:Bool} (hM:(zbI i ab).Ends r) (w:World) (H:St w w [] R):Ret Tryz.prog 83 #[I i,Pq ac] w fun v w'=>∃ (y0:Bool),y0=r/\v=B y0/\St w w' [] R:=by
 refine ret_of_W Tryz.func83 rfl rfl rfl ?_;refine kg 8 ?_;obtain ⟨am,aj,hM⟩:=M.e_bind hM;refine s_call cf62 [aa,I i] rfl (zaq ab i (ah.app _) ai aj _ (H.gt 0)) ?_
 rintro vq ao ⟨r2,rfl,hvq,ag⟩
 subst vq;(try dsimp only at hM);replace H:=H.bk ag;clear ag;refine kg 2 ?_;refine W.ret ?_
 have ak:=M.e_pure hM
 exact ⟨_,resE_tmp rfl,⟨r2,ak,rfl,H⟩⟩

def zaN (fence:List Int):Unit->Int->M (Unit ⊕ Unit):=fun (_:Unit) x =>
  M.bind (zbI x fence) fun r5 =>
  bif !r5 then (
  M.pure (.inr ()))
  else (
  M.pure (.inl ()))
def zcB (w_:List Work) (fence:List Int):Nat->M (Nat ⊕ (Unit ⊕ Unit)):=fun s =>
  bif decide ((s:Int)<(fence.length:Int)) then (
  M.grd (decide ((s:Int)<(fence.length:Int))) <|
  M.bind (zdv w_ (fence.getD s 0)) fun aa =>
  M.bind (zaH (M.yl (zaN fence)) (.inl ()) w_ aa) fun x_=>match x_ with
  | .inl _=>(
  M.pure (.inl (s+1)))
  | .inr _=>(
  M.pure (.inr (.inl ()))))
  else (
  M.pure (.inr (.inr ())))
def zaU (w_:List Work) (revised fence:List Int):M (Bool × Int) :=
  M.bind (zaG w_ revised) fun x_=>match x_ with
  | (.inl (r2,r3))=>(
  bif r3==0 then (
  M.fail)
  else (
  bif r3 != 0 then (
  M.pure (false,r3))
  else (
  M.fail)))
  | (.inr (r1,ac,aa))=>(
  bif aa==0 then (
  M.bind (zbF w_ fence) fun r4 =>
  bif r4 != 0 then (
  M.pure (false,r4))
  else (
  M.bind (M.iter (zcB w_ fence) 0) fun x_=>match x_ with
  | (.inl (_:Unit))=>(
  M.pure (false,0))
  | (.inr (_:Unit))=>(
  M.bind (zaC (fun ab=>zbI ab fence) revised) fun r6 =>
  M.pure (r6,0))))
  else (
  M.fail))
theorem zcD {R:List Chunk} {aR:Cells} {ai:Value} {aS:Cells} {ax:Value} {aT:Cells} {ae:Value} (w_:List Work) (revised:List Int) (fence:List Int) (av:Reads R aR) (ay:Sl aR ai w_) (aF:Reads R aS) (aH:Sl aS ax revised) (az:Reads R aT) (aw:Sl aT ae fence) {r:(Bool × Int)} (hM:(zaU w_ revised fence).Ends r) (w:World) (H:St w w [] R):Ret Tryz.prog 37 #[ai,ax,ae] w fun v w'=>∃ (y0:Bool) (y1:Int),(y0,y1)=r/\v = .tuple #[B y0,I y1]/\St w w' [] R:=by
 refine ret_of_WD Tryz.func37 rfl rfl rfl ?_
 replace H:St w w [cMk ([])] R:=H.mk0
 have bK:=ay.len_le
 have bL:=aH.len_le
 have bM:=aw.len_le
 unfold zaU at hM
 refine WD.seq<|WD.of<|W.region rfl ?_;refine t_box (v:=ae) (cs:=[ae]) H rfl (Sl.cells aw) ?_;intro aa bN H;refine t_alloc (cs:=[B false]) H Al4 rfl ?_;intro ag bO H;refine t_alloc (cs:=[I 0]) H Al40 rfl ?_;intro ah bP H;refine s_nil<|WD.seq<|WD.of ?_;refine kg 3 ?_;obtain ⟨bQ,aZ,hM⟩:=M.e_bind hM;refine s_call cf80 [ai,ax] rfl (za0 w_ revised (av.app _) ay (aF.app _) aH aZ _ (H.gt 4)) ?_
 rintro vq bR (⟨r2,r3,a0,hvq,ab,a4⟩ | ⟨r1,aU,a5,ac,a6,a7,hvq,ab,a8⟩)
 ·subst a0;subst vq;(try dsimp only at hM);replace H:=H.bk ab;clear ab;refine kg 5 ?_;refine t_alloc (cs:=encB (List.replicate 30 false)) H Al119 rfl ?_;intro aA bS H
  have aI:(List.replicate 30 false).length=30:=by simp
  refine kg 2 ?_;refine t_stArrA (k:=0) (b:=aA) (l:=List.replicate 30 false) (l':=r2) (L':=[cBlk aA (encB r2) 119,cBlk ah [I 0] 40,cBlk ag [B false] 4,cBlk aa [ae] 22,cMk ([])]) H rfl rfl rfl Sz119 aI a4 rfl ?_;intro bT H;refine kg 2 ?_;refine WD.seq<|WD.seq<|WD.of ?_;refine kg 4 ?_
  refine WD.cond (r3==0) rfl (fun aB=>?_) (fun aB=>?_)
  ·replace hM:=M.e_t hM aB
   exact (M.e_fail hM).elim
  replace hM:=M.e_f hM aB
  replace aB:=dI aB
  refine WD.of<|W.skip<|WD.seq<|WD.seq<|WD.of ?_;refine kg 4 ?_
  refine WD.cond (r3 != 0) rfl (fun aC=>?_) (fun aC=>?_)
  ·replace hM:=M.e_t hM aC
   replace aC:=dI aC
   refine WD.seq<|WD.of ?_;refine kg 2 ?_;refine t_sw 2 0 [B false] (B false) H rfl rfl Sz4 rfl rfl rfl rfl ?_;intro bU H;refine t_sw 1 0 [I r3] (I r3) H rfl rfl Sz40 rfl rfl rfl rfl ?_;intro bV H;refine s_nil ?_;replace H:=H.pk [1,2,4];refine WD.of ?_;refine W.ret ?_;refine bodyD_r (H.pk [2,0,1]) ?_;intro bW H;replace H:=H.nf
   have a9:=(H.bl 1)
   have ba:=(H.bl 0)
   have al:=M.e_pure hM
   exact ⟨_,(resE_ofn (vs:=[B false,I r3]) rfl rfl (.cell (v:=B false) rfl (run_loadVar_sc Sc4 a9 rfl)<|.cell (v:=I r3) rfl (run_loadVar_sc Sc40 ba rfl)<|.nil)),⟨false,r3,al,rfl,(H.pk [])⟩⟩
  replace hM:=M.e_f hM aC
  exact (M.e_fail hM).elim
 subst a7;subst vq;(try dsimp only at hM);replace H:=H.bk ab;clear ab;refine kg 5 ?_;refine t_alloc (cs:=encB (List.replicate 30 false)) H Al119 rfl ?_;intro aA bX H
 have aI:(List.replicate 30 false).length=30:=by simp
 refine kg 2 ?_;refine t_stArrA (k:=0) (b:=aA) (l:=List.replicate 30 false) (l':=aU) (L':=[cBlk aA (encB aU) 119,cBlk ac [ai] 97,cOwn (α:=Int) 3 a6 r1,cBlk ah [I 0] 40,cBlk ag [B false] 4,cBlk aa [ae] 22,cMk ([])]) H rfl rfl rfl Sz119 aI a8 rfl ?_;intro bY H;refine kg 2 ?_;replace H:=H.pk [1,3,4,5,6];refine WD.seq<|WD.seq<|WD.of ?_;refine kg 4 ?_
 refine WD.cond (a5==0) rfl (fun aD=>?_) (fun aD=>?_)
 ·replace hM:=M.e_t hM aD
  replace aD:=dI aD
  refine WD.of ?_;refine kg 3 ?_;obtain ⟨bZ,bb,hM⟩:=M.e_bind hM;refine s_call cf82 [ai,ae] rfl (zc6 w_ fence (av.app _) ay (az.app _) aw bb _ (H.gt 5)) ?_
  rintro vq b0 ⟨r4,rfl,hvq,ab⟩
  subst vq;(try dsimp only at hM);replace H:=H.bk ab;clear ab;refine kg 2 ?_;refine WD.seq<|WD.seq<|WD.of ?_;refine kg 4 ?_
  refine WD.cond (r4 != 0) rfl (fun am=>?_) (fun am=>?_)
  ·replace hM:=M.e_t hM am
   replace am:=dI am
   refine WD.seq<|WD.of ?_;refine kg 2 ?_;refine t_sw 2 0 [B false] (B false) H rfl rfl Sz4 rfl rfl rfl rfl ?_;intro b4 H;refine t_sw 1 0 [I r4] (I r4) H rfl rfl Sz40 rfl rfl rfl rfl ?_;intro b5 H;refine s_nil ?_;replace H:=H.pk [1,2,4];refine WD.of ?_;refine W.ret ?_;refine bodyD_r (H.pk [2,0,1]) ?_;intro b6 H;replace H:=H.nf
   have bc:=(H.bl 1)
   have bf:=(H.bl 0)
   have al:=M.e_pure hM
   exact ⟨_,(resE_ofn (vs:=[B false,I r4]) rfl rfl (.cell (v:=B false) rfl (run_loadVar_sc Sc4 bc rfl)<|.cell (v:=I r4) rfl (run_loadVar_sc Sc40 bf rfl)<|.nil)),⟨false,r4,al,rfl,(H.pk [])⟩⟩
  replace hM:=M.e_f hM am
  replace am:=dI am
  refine WD.of<|W.skip<|WD.seq<|WD.of<|W.region rfl<|s_val (x_mf (fs:=[]) (cs:=[Pq aa]) rfl rfl) ?_;refine t_alloc (cs:=[.nilFunc]) H Al103 rfl ?_;intro aj b7 H;refine t_sw 0 0 [.func (.func 83) #[] #[Pq aa]] (.func (.func 83) #[] #[Pq aa]) H rfl rfl Sz103 rfl rfl rfl rfl ?_;intro b8 H;refine s_nil<|WD.seq<|WD.seq<|WD.of ?_
  have b9:=(aw).len_le
  refine kg 5 ?_;refine WD.block ?_;obtain ⟨bg,aJ,aV⟩:=M.e_bind hM
  obtain ⟨ca,aJ⟩:=M.e_iter aJ
  refine WD.loop (fun m aE σ W=>∃ (s:Nat) (ρ:Env),σ=upds ρ [(1,ax),(6,Pq ag),(7,Pq ah),(8,Pq ac),(12,Pq aj),(33,ae),(34,I (fence.length:Int)),(35,I (s:Int))]/\M.iterN (zcB w_ fence) m s=some bg/\St w W [cBlk aj [.func (.func 83) #[] #[Pq aa]] 103,cBlk ac [ai] 97,cBlk ah [I 0] 40,cBlk ag [B false] 4,cBlk aa [ae] 22,cMk aE] R) ?_ ?_
  ·exact ⟨_,0,_,upds_of _ _ ⟨rfl,rfl,rfl,rfl,rfl,rfl,rfl,rfl,trivial⟩,aJ,H⟩
  rintro cb aE σ cc ⟨s,ρ,rfl,aW,H⟩
  obtain ⟨bh,bi,cd,hM,aK⟩:=M.e_iterN aW
  simp only [zcB] at hM
  clear aW;refine WD.seq<|WD.of ?_;refine kg 3 ?_;refine WD.seq ?_
  refine WD.cond (decide ((s:Int)<(fence.length:Int))) rfl (fun ao=>?_) (fun ao=>?_)
  ·replace hM:=M.e_t hM ao
   replace ao:=dI ao
   refine WD.of<|W.skip<|WD.seq<|WD.block<|WD.seq<|WD.of ?_;obtain ⟨ce,hM⟩:=M.e_gd hM;refine kg 5 ?_;refine WD.seq<|WD.of ?_;refine kg 3 ?_;obtain ⟨cf,bj,hM⟩:=M.e_bind hM;refine s_call cf84 [Pq ac,I (fence.getD s 0)] rfl (zeG w_ (fence.getD s 0) (av.app _) ay (Has.here (k:=1) rfl) bj _ (H.gt 6)) ?_
   rintro vq cg ⟨ap,aq,au,rfl,hvq,ab⟩
   subst vq;(try dsimp only at hM);replace H:=H.bk ab;clear ab;refine s_nil<|WD.block ?_;obtain ⟨ch,bm,hM⟩:=M.e_bind hM;refine WD.range (L:=[cBlk ah [I 0] 40,cBlk ag [B false] 4,cBlk aq [Pq ac] 87,cBlk au [I ap] 3,cBlk aj [.func (.func 83) #[] #[Pq aa]] 103,cBlk ac [ai] 97,cBlk aa [ae] 22]) [Pq aq,Pq au] (H.pk [7,4,5,0,1,2,3,6]) rfl cf118 ?_;intro aG aL aM bn aN H
   have hYC:YieldC Tryz.prog ([cMk (aL :: aE),cBlk aq [Pq ac] 87,cBlk au [I ap] 3,cBlk aj [.func (.func 83) #[] #[Pq aa]] 103,cBlk ac [ai] 97,cBlk aa [ae] 22]++R) arI (yJ aG aM (fun _ ak=>ak=[cBlk ah [I 0] 40,cBlk ag [B false] 4]) (fun _ ak=>ak=[cBlk ah [I 0] 40,cBlk ag [B false] 4]) (fun _=>.ret)) (.func (.yield aG) #[] #[]) (M.yl (zaN fence)):=by
    refine YieldC.mk aN (fun _ ak=>ak=[cBlk ah [I 0] 40,cBlk ag [B false] 4]) (fun _ ak=>ak=[cBlk ah [I 0] 40,cBlk ag [B false] 4]) (fun _=>.ret) (zaN fence) (by rintro _ _ h_; obtain ⟨rfl⟩:=h_; rfl) (by rintro _ _ h_; (obtain ⟨rfl⟩:=h_; rfl)) rfl (arI_len rfl) ?_;intro C_ ci x W_ bo
    obtain rfl:=bo
    refine kg 3 ?_
    refine ⟨rfl,rfl,?_⟩
    intro w R aO ak s_ r bp hM H
    skip
    obtain ⟨rfl⟩:=bp
    replace av:=av.sub aO
    replace aF:=aF.sub aO
    replace az:=az.sub aO
    replace hM:(zaN fence () x).Ends r:=hM
    simp only [zaN] at hM
    replace H:=H.pk [0,1,3,4,5,6,7,2];refine kg 5 ?_;obtain ⟨cj,br,hM⟩:=M.e_bind hM;refine s_callv (f:=83) rfl cf83 [I x] rfl (zeL x fence (az.app _) aw (Has.here (k:=6) rfl) br _ (H.gt 8)) ?_
    rintro vq ck ⟨r5,rfl,hvq,ab⟩
    subst vq;(try dsimp only at hM);replace H:=H.bk ab;clear ab;refine kg 2 ?_
    refine W.cond (!r5) rfl (fun aP=>?_) (fun aP=>?_)
    ·replace hM:=M.e_t hM aP;refine kg 2 ?_;refine t_sw 1 0 [B false] (B false) H rfl rfl Sz4 rfl rfl rfl rfl ?_;intro cl H;refine t_sw 0 0 [I 0] (I 0) H rfl rfl Sz40 rfl rfl rfl rfl ?_;intro cm H;refine s_nil ?_;refine W.ret ?_
     exact ⟨(),[cBlk ah [I 0] 40,cBlk ag [B false] 4],(M.e_pure hM).symm,rfl,H.pick [0,1,7,2,3,4,5,6] (by decide) rfl,rfl⟩
    replace hM:=M.e_f hM aP;refine W.skip ?_
    exact ⟨(),[cBlk ah [I 0] 40,cBlk ag [B false] 4],(M.e_pure hM).symm,rfl,H.pick [0,1,7,2,3,4,5,6] (by decide) rfl⟩
   replace H:St w bn (cAll (cObj aG (.loop aM) :: [cBlk ah [I 0] 40,cBlk ag [B false] 4]) :: [cMk (aL :: aE),cBlk aq [Pq ac] 87,cBlk au [I ap] 3,cBlk aj [.func (.func 83) #[] #[Pq aa]] 103,cBlk ac [ai] 97,cBlk aa [ae] 22]) R:=St.bundleB (A:=cObj aG (.loop aM) :: [cBlk ah [I 0] 40,cBlk ag [B false] 4]) (T:=[cMk (aL :: aE),cBlk aq [Pq ac] 87,cBlk au [I ap] 3,cBlk aj [.func (.func 83) #[] #[Pq aa]] 103,cBlk ac [ai] 97,cBlk aa [ae] 22]) rfl (H.pk [0,2,3,1,4,5,6,7,8])
   refine (zex (M.yl (zaN fence)) (.inl ()) w_ ap hYC ⟨_,rfl,rfl⟩ (av.app _) ay (Has.here (k:=4) rfl) (Has.here (k:=1) rfl) (Has.here (k:=2) rfl) bm _ (H.gt 6)).mono ?_
   rintro vq cn ⟨bt,co,rfl,hvq,ab,aX⟩
   replace H:=H.back ab rfl
   clear ab hYC
   rcases bt with _ | _
   ·(try dsimp only at hM)
    obtain ⟨_,rfl,rfl⟩:=aX
    refine ⟨_,[cBlk ah [I 0] 40,cBlk ag [B false] 4,cBlk aq [Pq ac] 87,cBlk au [I ap] 3,cBlk aj [.func (.func 83) #[] #[Pq aa]] 103,cBlk ac [ai] 97,cBlk aa [ae] 22],H.unbundle.pick [0,3,1,2,4,5,6,7,8] (by decide) rfl,aN.nb,?_⟩
    intro bu H
    rw [aN.pd]
    replace H:=H.nf
    try simp only []
    replace H:=H.pk [0,1,2,5,6,7];refine WD.of ?_;refine kg 4 ?_
    exact ⟨bh,bi,s+1,_,upds_of _ _ ⟨rfl,rfl,rfl,rfl,rfl,rfl,rfl,rfl,trivial⟩,M.e_inl hM aK,(H.pk [3,4,1,2,5,0])⟩
   (try dsimp only at hM)
   obtain ⟨_,rfl,rfl⟩:=aX
   refine ⟨_,[cBlk ah [I 0] 40,cBlk ag [B false] 4,cBlk aq [Pq ac] 87,cBlk au [I ap] 3,cBlk aj [.func (.func 83) #[] #[Pq aa]] 103,cBlk ac [ai] 97,cBlk aa [ae] 22],H.unbundle.pick [0,3,1,2,4,5,6,7,8] (by decide) rfl,nofun,?_⟩
   intro bu H
   show WD _ _ _ (.ret) _ _ _
   refine WD.of ?_;refine W.ret ?_;replace H:=H.nf
   have bv:=M.e_inr hM aK
   subst bv;replace hM:=aV;(try dsimp only at hM);refine bodyD_r (H.pk [0,1,2,3,4,5,6,7]) ?_;intro cp H;replace H:=H.nf
   have bw:=(H.bl 1)
   have bx:=(H.bl 0)
   have al:=M.e_pure hM
   exact ⟨_,(resE_ofn (vs:=[B false,I 0]) rfl rfl (.cell (v:=B false) rfl (run_loadVar_sc Sc4 bw rfl)<|.cell (v:=I 0) rfl (run_loadVar_sc Sc40 bx rfl)<|.nil)),⟨false,0,al,rfl,(H.pk [])⟩⟩
  replace hM:=M.e_f hM ao
  replace ao:=dI ao
  refine WD.of ?_;refine W.exit ?_
  have bz:=M.e_inr hM aK
  subst bz;replace hM:=aV;(try dsimp only at hM);refine WD.seq<|WD.of ?_;refine kg 3 ?_;obtain ⟨cq,bA,hM⟩:=M.e_bind hM;refine s_call cf64 [.func (.func 83) #[] #[Pq aa],ax] rfl (zaE (fun aQ=>zbI aQ fence) revised ⟨83,[Pq aa],rfl,cf83,fun aY cr ct bB aQ cu bC cv bD bE=>by obtain rfl:=Arg.int bD; exact (zeL aQ fence (Reads.app (az.app _) _) aw (Has.app (Has.here (k:=4) rfl) _) bE aY (St.refl bC)).mono fun bB aY ⟨cw,bF,bG,bH⟩=>by subst bF; exact ⟨bG,bH⟩⟩ (aF.app _) aH bA _ (H.gt 6)) ?_
  rintro vq cx ⟨r6,rfl,hvq,ab⟩
  subst vq;(try dsimp only at hM);replace H:=H.bk ab;clear ab;refine t_sw 3 0 [B r6] (B r6) H rfl rfl Sz4 rfl rfl rfl rfl ?_;intro cy H;refine t_sw 2 0 [I 0] (I 0) H rfl rfl Sz40 rfl rfl rfl rfl ?_;intro cz H;refine s_nil ?_;replace H:=H.pk [2,3,5];refine WD.of ?_;refine W.ret ?_;refine bodyD_r (H.pk [2,0,1]) ?_;intro cA H;replace H:=H.nf
  have bI:=(H.bl 1)
  have bJ:=(H.bl 0)
  have al:=M.e_pure hM
  exact ⟨_,(resE_ofn (vs:=[B r6,I 0]) rfl rfl (.cell (v:=B r6) rfl (run_loadVar_sc Sc4 bI rfl)<|.cell (v:=I 0) rfl (run_loadVar_sc Sc40 bJ rfl)<|.nil)),⟨r6,0,al,rfl,(H.pk [])⟩⟩
 replace hM:=M.e_f hM aD
 exact (M.e_fail hM).elim

def zby (w_:List Work) (revised:List Int) (work:Int):M (Int ⊕ Int) :=
  M.bind (zaG w_ revised) fun x_=>match x_ with
  | (.inl (r2,r3))=>(
  bif r3 != 0 then (
  M.pure (.inl r3))
  else (
  M.fail))
  | (.inr (r1,ab,aa))=>(
  bif aa != 0 then (
  M.fail)
  else (
  M.bind (zal work 0 ((w_.length:Int)-1)) fun r4 =>
  bif !r4 then (
  M.pure (.inl 2))
  else (
  M.bind (zak revised work) fun r5 =>
  bif r5 then (
  M.pure (.inl 8))
  else (
  M.pure (.inr 0)))))
theorem zca {R:List Chunk} {am:Cells} {ac:Value} {ao:Cells} {ai:Value} (w_:List Work) (revised:List Int) (work:Int) (ay:Reads R am) (ap:Sl am ac w_) (aq:Reads R ao) (au:Sl ao ai revised) {r:(Int ⊕ Int)} (hM:(zby w_ revised work).Ends r) (w:World) (H:St w w [] R):Ret Tryz.prog 89 #[ac,ai,I work] w fun v w'=>(∃ (y0:Int),(.inl y0)=r/\v = .tuple #[.pointer none,I y0]/\St w w' [] R)∨(∃ (y0:Int) (av:Nat),(.inr y0)=r/\v = .tuple #[Pq av,I y0]/\St w w' [cBlk av [ac] 97] R):=by
 refine ret_of_W Tryz.func89 rfl rfl rfl ?_;refine kg 9 ?_;obtain ⟨aI,az,hM⟩:=M.e_bind hM;refine s_call cf80 [ac,ai] rfl (za0 w_ revised (ay.app _) ap (aq.app _) au az _ (H.gt 0)) ?_
 rintro vq aJ (⟨r2,r3,aA,hvq,aa,aB⟩ | ⟨r1,aw,aC,ax,aD,aE,hvq,aa,aF⟩)
 ·subst aA;subst vq;(try dsimp only at hM);replace H:=H.bk aa;clear aa;refine kg 5 ?_;refine t_alloc (cs:=encB (List.replicate 30 false)) H Al119 rfl ?_;intro ae aK H
  have aj:(List.replicate 30 false).length=30:=by simp
  refine kg 2 ?_;refine t_stArrA (k:=0) (b:=ae) (l:=List.replicate 30 false) (l':=r2) (L':=[cBlk ae (encB r2) 119]) H rfl rfl rfl Sz119 aj aB rfl ?_;intro aL H;refine kg 10 ?_
  refine W.cond (r3 != 0) rfl (fun ag=>?_) (fun ag=>?_)
  ·replace hM:=M.e_t hM ag
   replace ag:=dI ag
   refine kg 6 ?_;refine W.ret ?_
   have ab:=M.e_pure hM
   exact ⟨_,resE_tmp2 rfl,.inl (⟨r3,ab,rfl,(H.pk [])⟩)⟩
  replace hM:=M.e_f hM ag
  exact (M.e_fail hM).elim
 subst aE;subst vq;(try dsimp only at hM);replace H:=H.bk aa;clear aa;refine kg 5 ?_;refine t_alloc (cs:=encB (List.replicate 30 false)) H Al119 rfl ?_;intro ae aM H
 have aj:(List.replicate 30 false).length=30:=by simp
 refine kg 2 ?_;refine t_stArrA (k:=0) (b:=ae) (l:=List.replicate 30 false) (l':=aw) (L':=[cBlk ae (encB aw) 119,cBlk ax [ac] 97,cOwn (α:=Int) 3 aD r1]) H rfl rfl rfl Sz119 aj aF rfl ?_;intro aN H;refine kg 2 ?_;replace H:=H.pk [1];refine kg 8 ?_
 refine W.cond (aC != 0) rfl (fun ah=>?_) (fun ah=>?_)
 ·replace hM:=M.e_t hM ah
  exact (M.e_fail hM).elim
 replace hM:=M.e_f hM ah
 replace ah:=dI ah
 have aO:=(ap).len_le
 refine kg 6 ?_;obtain ⟨aP,aG,hM⟩:=M.e_bind hM;refine s_call cf66 [I work,I 0,I ((w_.length:Int)-1)] rfl (zap work 0 ((w_.length:Int)-1) aG _ (H.gt 1)) ?_
 rintro vq aQ ⟨r4,rfl,hvq,aa⟩
 subst vq;(try dsimp only at hM);replace H:=H.bk aa;clear aa;refine kg 3 ?_
 refine W.cond (!r4) rfl (fun ak=>?_) (fun ak=>?_)
 ·replace hM:=M.e_t hM ak;refine kg 5 ?_;refine W.ret ?_
  have ab:=M.e_pure hM
  exact ⟨_,resE_tmp2 rfl,.inl (⟨2,ab,rfl,(H.pk [])⟩)⟩
 replace hM:=M.e_f hM ak;refine kg 4 ?_;obtain ⟨aR,aH,hM⟩:=M.e_bind hM;refine s_call cf62 [ai,I work] rfl (zaq revised work (aq.app _) au aH _ (H.gt 1)) ?_
 rintro vq aS ⟨r5,rfl,hvq,aa⟩
 subst vq;(try dsimp only at hM);replace H:=H.bk aa;clear aa;refine kg 2 ?_
 refine W.cond r5 rfl (fun al=>?_) (fun al=>?_)
 ·replace hM:=M.e_t hM al;refine kg 5 ?_;refine W.ret ?_
  have ab:=M.e_pure hM
  exact ⟨_,resE_tmp2 rfl,.inl (⟨8,ab,rfl,(H.pk [])⟩)⟩
 replace hM:=M.e_f hM al;refine kg 7 ?_;refine W.ret ?_
 have ab:=M.e_pure hM
 exact ⟨_,resE_tmp2 rfl,.inr (⟨0,ax,ab,rfl,H⟩)⟩

def zei (i:Int) (aa:List Work) (ab:Int):M Bool :=
  M.bind (zbt aa ab i) fun r2 =>
  M.pure r2
theorem zf8 {R:List Chunk} {ae:Nat} {ab:Nat} {ag:Cells} {ah:Value} {ai:Nat} (i:Int) (ac:List Work) (aa:Int) (ak:Reads R ag) (al:Sl ag ah ac) (am:Has R (cBlk ab [ah] 97)) (aq:Has R (cBlk ae [Pq ab] 87)) (au:Has R (cBlk ai [I aa] 3)) {r:Bool} (hM:(zei i ac aa).Ends r) (w:World) (H:St w w [] R):Ret Tryz.prog 121 #[I i,Pq ae,Pq ai] w fun v w'=>∃ (y0:Bool),y0=r/\v=B y0/\St w w' [] R:=by
 refine ret_of_W Tryz.func121 rfl rfl rfl ?_;refine kg 9 ?_;obtain ⟨av,ao,hM⟩:=M.e_bind hM;refine s_call cf109 [Pq ab,I aa,I i] rfl (zeh ac aa i (ak.app _) al (am.app _) ao _ (H.gt 0)) ?_
 rintro vq aw ⟨r2,rfl,hvq,aj⟩
 subst vq;(try dsimp only at hM);replace H:=H.bk aj;clear aj;refine kg 2 ?_;refine W.ret ?_
 have ap:=M.e_pure hM
 exact ⟨_,resE_tmp rfl,⟨r2,ap,rfl,H⟩⟩

def zbi (ab:List Work) (aa:List Int) (n_work:Int) (ac:Gate->Option Int) (ae:Int->Option Bool) (i:Int):M Bool :=
  M.bind (M.opt (i != n_work) (zak aa i) false) fun r2 =>
  M.pure ((i != n_work)&&(!r2))
theorem zbR {R:List Chunk} {ae:Nat} {ag:Nat} {ah:Cells} {ai:Value} {aj:Cells} {aa:Value} {ak:Nat} {al:Nat} (am:List Work) (ab:List Int) (n_work:Int) (ao:Gate->Option Int) (ap:Int->Option Bool) (i:Int) (ax:Reads R ah) (ay:Sl ah ai am) (az:Has R (cBlk ag [ai] 97)) (aq:Reads R aj) (au:Sl aj aa ab) (aA:Has R (cMap encG I ak ao)) (aB:Has R (cMap I B al ap)) (aC:Has R (cBlk ae [Pq ag,aa,I n_work,.map (some ak),.map (some al)] 142)) {r:Bool} (hM:(zbi am ab n_work ao ap i).Ends r) (w:World) (H:St w w [] R):Ret Tryz.prog 101 #[Pq ae,I i] w fun v w'=>∃ (y0:Bool),y0=r/\v=B y0/\St w w' [] R:=by
 refine ret_of_W Tryz.func101 rfl rfl rfl ?_;refine kg 18 ?_;obtain ⟨r2,av,hM⟩:=M.e_bind hM;refine t_gcall (i != n_work) (gy_t rfl) cf62 (B r2) (fun _=>[aa,I i]) (fun hg=>lst2 (gd_of hg (aa)) (gd_of hg (I i))) H (fun hg=>(zaq ab i (aq.app _) au (M.e_opt av hg) _ (H.give (A:=[]) rfl)).mono fun v_ w_ ⟨y_,ac,aw,H_⟩=>by subst ac; exact ⟨aw,H.via H_⟩) ?_;intro aD H;refine kg 1 ?_;refine s_val (x_pand (b:=i != n_work) (r:=!r2) rfl (fun hb=>gd_of (c:=i != n_work) (by first | exact hb | (rw [hb]; rfl) | simp_all) (B (!r2))) rfl) ?_;refine kg 2 ?_;refine W.ret ?_
 have ac:=M.e_pure hM
 exact ⟨_,resE_tmp rfl,⟨((i != n_work)&&(!r2)),ac,rfl,H⟩⟩

end Go.Proofs.YtkclldpnmolljaaGreat
end
section
set_option maxRecDepth 100000
set_option maxHeartbeats 16000000
namespace Go.Proofs.YtkclldpnmolljaaGreat
open Go Go.Nm
attribute [local irreducible] gd execOp SL SLD SLT WR
def zbj (ae:List Work) (ah:List Int) (n_work aa:Int) (ai:((List Work) × (List Int) × Int × (Gate->Option Int) × (Int->Option Bool) × Int)->M (Bool × (Gate->Option Int) × (Int->Option Bool))):((Gate->Option Int) × (Int->Option Bool) × Nat)->M (((Gate->Option Int) × (Int->Option Bool) × Nat) ⊕ (((Gate->Option Int) × (Int->Option Bool)) ⊕ ((Gate->Option Int) × (Int->Option Bool)))):=fun (mp,ac,s) =>
  bif decide ((s:Int)<(2*(ae.length:Int))) then (
  bif ((decide (0<((mp (⟨(aa:Int),(s:Int)⟩:Gate)).getD 0)))&&(!((ac (s:Int)).getD false))) then (
  M.bind (ai (ae,ah,n_work,mp,ac,(s:Int))) fun (r2,ab,ag) =>
  bif (((decide (0<((mp (⟨(aa:Int),(s:Int)⟩:Gate)).getD 0)))&&(!((ac (s:Int)).getD false)))&&r2) then (
  M.grd (decide ((-9223372036854775808:Int)<=(((ab (⟨(aa:Int),(s:Int)⟩:Gate)).getD 0)-1))&&decide ((((ab (⟨(aa:Int),(s:Int)⟩:Gate)).getD 0)-1)<=(9223372036854775807:Int))) <|
  M.grd (decide ((-9223372036854775808:Int)<=((((updF ab (⟨(aa:Int),(s:Int)⟩:Gate) (((ab (⟨(aa:Int),(s:Int)⟩:Gate)).getD 0)-1:Int)) (⟨(s:Int),(aa:Int)⟩:Gate)).getD 0)+1))&&decide (((((updF ab (⟨(aa:Int),(s:Int)⟩:Gate) (((ab (⟨(aa:Int),(s:Int)⟩:Gate)).getD 0)-1:Int)) (⟨(s:Int),(aa:Int)⟩:Gate)).getD 0)+1)<=(9223372036854775807:Int))) <|
  M.pure (.inr (.inl (updF (updF ab (⟨(aa:Int),(s:Int)⟩:Gate) (((ab (⟨(aa:Int),(s:Int)⟩:Gate)).getD 0)-1:Int)) (⟨(s:Int),(aa:Int)⟩:Gate) ((((updF ab (⟨(aa:Int),(s:Int)⟩:Gate) (((ab (⟨(aa:Int),(s:Int)⟩:Gate)).getD 0)-1:Int)) (⟨(s:Int),(aa:Int)⟩:Gate)).getD 0)+1:Int),ag))))
  else (
  M.grd (decide ((-9223372036854775808:Int)<=((s:Int)+1))&&decide (((s:Int)+1)<=(9223372036854775807:Int))) <|
  M.pure (.inl (ab,ag,s+1))))
  else (
  M.grd (decide ((-9223372036854775808:Int)<=((s:Int)+1))&&decide (((s:Int)+1)<=(9223372036854775807:Int))) <|
  M.pure (.inl (mp,ac,s+1))))
  else (
  M.pure (.inr (.inr (mp,ac))))
def za6 (ag:((List Work) × (List Int) × Int × (Gate->Option Int) × (Int->Option Bool) × Int)->M (Bool × (Gate->Option Int) × (Int->Option Bool))):((List Work) × (List Int) × Int × (Gate->Option Int) × (Int->Option Bool) × Int)->M (Bool × (Gate->Option Int) × (Int->Option Bool)):=fun (aa,ah,n_work,ac,ae,ab) =>
  M.grd (decide ((-9223372036854775808:Int)<=(2*n_work))&&decide ((2*n_work)<=(9223372036854775807:Int))) <|
  bif ab==(2*n_work) then (
  M.pure (true,ac,ae))
  else (
  M.grd (decide ((-9223372036854775808:Int)<=(2*(aa.length:Int)))&&decide ((2*(aa.length:Int))<=(9223372036854775807:Int))) <|
  M.bind (M.iter (zbj aa ah n_work ab ag) (ac,updF ae (ab:Int) true,0)) fun x_=>match x_ with
  | (.inl (ai,aj))=>(
  M.pure (true,ai,aj))
  | (.inr (ak,al))=>(
  M.pure (false,ak,al)))
theorem zfK  : M.Mon za6:=by
  intro n f g h a
  obtain ⟨aa,ab,n_work,ac,ae,ag⟩:=a
  simp only [za6,zbj]
  repeat' (first | (with_reducible refine M.le_iter ?_ _; simp only [Prod.forall,zbj]; intros) | with_reducible exact M.le_same _ _ | with_reducible exact h _ | with_reducible refine M.le_grd ?_ | with_reducible refine M.le_if ?_ ?_ | with_reducible refine M.le_bind ?_ (fun x=>?_) | with_reducible refine M.le_opt ?_ | with_reducible refine M.le_iter (fun x=>?_) _ | with_reducible refine zbS (M.le_yl (fun s_ a_=>?_)) _ _ _ | (rename_i x; cases x) | (rename_i x; obtain ⟨_,_⟩:=x) | refine M.le_grd ?_ | refine M.le_if ?_ ?_ | refine M.le_bind ?_ (fun x=>?_) | refine M.le_opt ?_ | refine M.le_iter (fun x=>?_) _ | refine zbS (M.le_yl (fun s_ a_=>?_)) _ _ _ | (rename_i x; cases x) | (rename_i x; obtain ⟨_,_⟩:=x))
def zch (aa:List Work) (ab:List Int) (n_work:Int) (ac:Gate->Option Int) (ae:Int->Option Bool) (ag:Int):M (Bool × (Gate->Option Int) × (Int->Option Bool)):=M.fix za6 zfK (aa,ab,n_work,ac,ae,ag)
theorem zfo (n_:Nat):∀ {R:List Chunk} {am:Nat} {ay:Nat} {az:Cells} {aA:Value} {aB:Cells} {aC:Value} {ah:Nat} {ac:Nat} (aj:List Work) (av:List Int) (n_work:Int) (ao:Gate->Option Int) (ak:Int->Option Bool) (aa:Int) (aE:Reads R az) (aD:Sl az aA aj) (aF:Has R (cBlk ay [aA] 97)) (aG:Reads R aB) (aH:Sl aB aC av) (aI:Has R (cBlk am [Pq ay,aC,I n_work,.map (some ah),.map (some ac)] 142)) {r:(Bool × (Gate->Option Int) × (Int->Option Bool))} (hM:(M.fixN za6 n_ (aj,av,n_work,ao,ak,aa)).Ends r) (w:World) (H:St w w [cMap encG I ah ao,cMap I B ac ak] R),Ret Tryz.prog 100 #[Pq am,I aa] w fun v w'=>∃ (y0:Bool) (y1:Gate->Option Int) (y2:Int->Option Bool),(y0,y1,y2)=r/\v=B y0/\St w w' [cMap encG I ah y1,cMap I B ac y2] R:=by
  induction n_ with
  | zero=>intro R am ay az aA aB aC ah ac aj av n_work ao ak aa aE aD aF aG aH aI r hM w H; exact (M.e_fail hM).elim
  | succ n_ ih =>
    intro R am ay az aA aB aC ah ac aj av n_work ao ak aa aE aD aF aG aH aI r hM w H;refine ret_of_W Tryz.func100 rfl rfl rfl ?_;obtain ⟨aX,hM⟩:=M.e_gd hM;refine kg 15 ?_
    refine W.cond (aa==(2*n_work)) rfl (fun ap=>?_) (fun ap=>?_)
    ·replace hM:=M.e_t hM ap
     replace ap:=dI ap
     refine kg 4 ?_;refine W.ret ?_
     have ai:=M.e_pure hM
     exact ⟨_,resE_tmp rfl,⟨true,ao,ak,ai,rfl,H⟩⟩
    replace hM:=M.e_f hM ap
    replace ap:=dI ap
    refine kg 8 ?_;refine t_mapu (i:=1) (kenc:=I) (venc:=B) (f:=ak) (k:=(aa:Int)) (v:=true) (L':=[cMap encG I ah ao,cMap I B ac (updF ak (aa:Int) true)]) keyIntB Tryz.underlying140 H rfl rfl rfl rfl rfl ?_;intro aY H
    have aZ:=(aD).len_le
    obtain ⟨a0,hM⟩:=M.e_gd hM;refine kg 17 ?_;obtain ⟨aQ,aJ,aw⟩:=M.e_bind hM
    obtain ⟨a4,aJ⟩:=M.e_iter aJ
    refine W.loop (fun m σ W=>∃ (mp:Gate->Option Int) (ae:Int->Option Bool) (s:Nat) (ρ:Env),σ=upds ρ [(0,Pq am),(1,I aa),(27,I (2*(aj.length:Int))),(28,I (s:Int))]/\M.iterN (zbj aj av n_work aa (M.fixN za6 n_)) m (mp,ae,s)=some aQ/\St w W [cMap encG I ah mp,cMap I B ac ae] R) ?_ ?_
    ·exact ⟨_,ao,updF ak (aa:Int) true,0,_,upds_of _ _ ⟨rfl,rfl,rfl,rfl,trivial⟩,aJ,H⟩
    rintro a5 σ a6 ⟨mp,ae,s,ρ,rfl,aL,H⟩
    obtain ⟨aM,aN,a7,hM,aq⟩:=M.e_iterN aL
    simp only [zbj] at hM
    clear aL;refine kg 5 ?_
    refine W.cond (decide ((s:Int)<(2*(aj.length:Int)))) rfl (fun au=>?_) (fun au=>?_)
    ·replace hM:=M.e_t hM au
     replace au:=dI au
     refine kg 16 ?_;refine s_val (x_bld (ps:=[(0,I aa),(1,I (s:Int))]) (zs:=[I 0,I 0]) (L':=[I aa,I (s:Int)]) rfl Tryz.underlying144 Al144 rfl (Bd144 Tryz.underlying144) (.cons (cs:=[I aa]) rfl rfl rfl rfl rfl<|.cons (cs:=[I (s:Int)]) rfl rfl rfl rfl rfl<|.nil))<|s_val (q_look (kenc:=encG) (venc:=I) (f:=mp) (k:=(⟨(aa:Int),(s:Int)⟩:Gate)) (v:=I ((mp (⟨(aa:Int),(s:Int)⟩:Gate)).getD 0)) keyGate Tryz.underlying139 Al3 rfl rfl (H.get (k:=0) rfl) false (by rw [if_neg (by decide),int_val])) ?_;refine kg 7 ?_;refine g_val (decide (0<((mp (⟨(aa:Int),(s:Int)⟩:Gate)).getD 0))) (gy_t rfl) (fun hg=>q_look (kenc:=I) (venc:=B) (f:=ae) (k:=(s:Int)) (v:=B ((ae (s:Int)).getD false)) keyIntB Tryz.underlying140 Al4 (by exact (gd_of hg (.map (some ac)))) (by exact (gd_of hg (I (s:Int)))) (H.get (k:=1) rfl) false (by rw [if_neg (by decide),bool_val])) ?_;refine kg 1 ?_;refine s_val (x_pand (b:=decide (0<((mp (⟨(aa:Int),(s:Int)⟩:Gate)).getD 0))) (r:=!((ae (s:Int)).getD false)) rfl (fun hb=>gd_of (c:=decide (0<((mp (⟨(aa:Int),(s:Int)⟩:Gate)).getD 0))) (by first | exact hb | (rw [hb]; rfl) | simp_all) (B (!((ae (s:Int)).getD false)))) rfl) ?_;refine kg 3 ?_
     refine g_splitV ((decide (0<((mp (⟨(aa:Int),(s:Int)⟩:Gate)).getD 0)))&&(!((ae (s:Int)).getD false))) (B false) (gy_t rfl) (fun ax=>?_) (fun ax=>?_)
     ·replace hM:=M.e_t hM ax;obtain ⟨a8,aR,hM⟩:=M.e_bind hM;refine s_call cf100 [Pq am,I (s:Int)] (lst2 (gd_of (c:=((decide (0<((mp (⟨(aa:Int),(s:Int)⟩:Gate)).getD 0)))&&(!((ae (s:Int)).getD false)))) ax (Pq am)) (gd_of (c:=((decide (0<((mp (⟨(aa:Int),(s:Int)⟩:Gate)).getD 0)))&&(!((ae (s:Int)).getD false)))) ax (I (s:Int)))) (ih aj av n_work mp ae (s:Int) (aE.app _) aD (aF.app _) (aG.app _) aH (aI.app _) aR _ (H.gt 0)) ?_
      rintro vq a9 ⟨r2,ab,ag,rfl,hvq,aO⟩
      subst vq;(try dsimp only at hM);replace H:=H.bk aO;clear aO;refine s_val (x_pand (b:=((decide (0<((mp (⟨(aa:Int),(s:Int)⟩:Gate)).getD 0)))&&(!((ae (s:Int)).getD false)))) (r:=r2) rfl (fun _=>rfl) rfl)<|s_nil ?_
      refine W.cond (((decide (0<((mp (⟨(aa:Int),(s:Int)⟩:Gate)).getD 0)))&&(!((ae (s:Int)).getD false)))&&r2) rfl (fun aK=>?_) (fun aK=>?_)
      ·replace hM:=M.e_t hM aK;refine W.seq ?_;refine W.drawT (fun W=>St w W [cMap I B ac ag] R) (.q 0 (.q 1 (.q 2 (.q 3 (.q 4 (.q 5 (.q 6 (.l2 7 (.q 8 (.l 9 (.q 10 (.l 11 .nil)))) 9 (.q 10 (.l 7 (.q 8 (.l 11 .nil)))))))))))) mixed (by decide +kernel) rfl ?_;intro ba al;replace H:=H.ext al;clear al
       refine ⟨(H.pk [1]),?_⟩
       refine kg 6 ?_;refine t_q rfl (fun w' H=>x_bld (ps:=[(0,I aa),(1,I (s:Int))]) (zs:=[I 0,I 0]) (L':=[I aa,I (s:Int)]) rfl Tryz.underlying144 Al144 rfl (Bd144 Tryz.underlying144) (.cons (cs:=[I aa]) rfl rfl rfl rfl rfl<|.cons (cs:=[I (s:Int)]) rfl rfl rfl rfl rfl<|.nil)) ?_;obtain ⟨bb,hM⟩:=M.e_gd hM;refine t_l2 rfl rfl ?_ ?_
       ·skip
        refine s_val (q_look (kenc:=encG) (venc:=I) (f:=ab) (k:=(⟨(aa:Int),(s:Int)⟩:Gate)) (v:=I ((ab (⟨(aa:Int),(s:Int)⟩:Gate)).getD 0)) keyGate Tryz.underlying139 Al3 rfl rfl (H.get (k:=0) rfl) false (by rw [if_neg (by decide),int_val])) ?_
        refine s_nil ⟨(H.pk [1]),?_⟩
        refine kg 1 ?_;refine t_l rfl ?_;refine t_ment (i:=0) (kenc:=encG) (venc:=I) (f:=ab) (k:=(⟨(aa:Int),(s:Int)⟩:Gate)) (z:=0) keyGate Tryz.underlying139 Al3 H rfl rfl rfl ?_;intro bc bf H;replace H:=H.nf
        refine s_nil ⟨(H.pk [1]),?_⟩
        refine kg 1 ?_;refine t_l rfl ?_;refine t_enst (i:=0) (kenc:=encG) (venc:=I) (f0:=ab) (k:=(⟨(aa:Int),(s:Int)⟩:Gate)) (v:=(((ab (⟨(aa:Int),(s:Int)⟩:Gate)).getD 0)-1:Int)) (L':=[cMap encG I ah (updF ab (⟨(aa:Int),(s:Int)⟩:Gate) (((ab (⟨(aa:Int),(s:Int)⟩:Gate)).getD 0)-1:Int)),cMap I B ac ag]) H rfl rfl rfl rfl rfl ?_;intro bg H
        refine s_nil ⟨(H.pk [1]),?_⟩
        refine kg 2 ?_;refine W.drawT (fun W=>St w W [cMap I B ac ag] R) (.q 0 (.q 1 (.q 2 (.q 3 (.q 4 (.q 5 (.q 6 (.l2 7 (.q 8 (.l 9 (.q 10 (.l 11 .nil)))) 9 (.q 10 (.l 7 (.q 8 (.l 11 .nil)))))))))))) mixed (by decide +kernel) rfl ?_;intro bh al;replace H:=H.ext al;clear al
        refine ⟨(H.pk [1]),?_⟩
        refine kg 6 ?_;refine t_q rfl (fun w' H=>x_bld (ps:=[(0,I (s:Int)),(1,I aa)]) (zs:=[I 0,I 0]) (L':=[I (s:Int),I aa]) rfl Tryz.underlying144 Al144 rfl (Bd144 Tryz.underlying144) (.cons (cs:=[I (s:Int)]) rfl rfl rfl rfl rfl<|.cons (cs:=[I aa]) rfl rfl rfl rfl rfl<|.nil)) ?_;obtain ⟨bi,hM⟩:=M.e_gd hM;refine t_l2 rfl rfl ?_ ?_
        ·skip
         refine s_val (q_look (kenc:=encG) (venc:=I) (f:=updF ab (⟨(aa:Int),(s:Int)⟩:Gate) (((ab (⟨(aa:Int),(s:Int)⟩:Gate)).getD 0)-1:Int)) (k:=(⟨(s:Int),(aa:Int)⟩:Gate)) (v:=I (((updF ab (⟨(aa:Int),(s:Int)⟩:Gate) (((ab (⟨(aa:Int),(s:Int)⟩:Gate)).getD 0)-1:Int)) (⟨(s:Int),(aa:Int)⟩:Gate)).getD 0)) keyGate Tryz.underlying139 Al3 rfl rfl (H.get (k:=0) rfl) false (by rw [if_neg (by decide),int_val])) ?_
         refine s_nil ⟨(H.pk [1]),?_⟩
         refine kg 1 ?_;refine t_l rfl ?_;refine t_ment (i:=0) (kenc:=encG) (venc:=I) (f:=updF ab (⟨(aa:Int),(s:Int)⟩:Gate) (((ab (⟨(aa:Int),(s:Int)⟩:Gate)).getD 0)-1:Int)) (k:=(⟨(s:Int),(aa:Int)⟩:Gate)) (z:=0) keyGate Tryz.underlying139 Al3 H rfl rfl rfl ?_;intro bj bm H;replace H:=H.nf
         refine s_nil ⟨(H.pk [1]),?_⟩
         refine kg 1 ?_;refine t_l rfl ?_;refine t_enst (i:=0) (kenc:=encG) (venc:=I) (f0:=updF ab (⟨(aa:Int),(s:Int)⟩:Gate) (((ab (⟨(aa:Int),(s:Int)⟩:Gate)).getD 0)-1:Int)) (k:=(⟨(s:Int),(aa:Int)⟩:Gate)) (v:=((((updF ab (⟨(aa:Int),(s:Int)⟩:Gate) (((ab (⟨(aa:Int),(s:Int)⟩:Gate)).getD 0)-1:Int)) (⟨(s:Int),(aa:Int)⟩:Gate)).getD 0)+1:Int)) (L':=[cMap encG I ah (updF (updF ab (⟨(aa:Int),(s:Int)⟩:Gate) (((ab (⟨(aa:Int),(s:Int)⟩:Gate)).getD 0)-1:Int)) (⟨(s:Int),(aa:Int)⟩:Gate) ((((updF ab (⟨(aa:Int),(s:Int)⟩:Gate) (((ab (⟨(aa:Int),(s:Int)⟩:Gate)).getD 0)-1:Int)) (⟨(s:Int),(aa:Int)⟩:Gate)).getD 0)+1:Int)),cMap I B ac ag]) H rfl rfl rfl rfl rfl ?_;intro bn H
         refine s_nil ⟨(H.pk [1]),?_⟩
         refine kg 5 ?_;refine W.ret ?_
         have aS:=M.e_inr hM aq
         subst aS;replace hM:=aw;(try dsimp only at hM)
         have ai:=M.e_pure hM
         exact ⟨_,resE_tmp rfl,⟨true,(updF (updF ab (⟨(aa:Int),(s:Int)⟩:Gate) (((ab (⟨(aa:Int),(s:Int)⟩:Gate)).getD 0)-1:Int)) (⟨(s:Int),(aa:Int)⟩:Gate) ((((updF ab (⟨(aa:Int),(s:Int)⟩:Gate) (((ab (⟨(aa:Int),(s:Int)⟩:Gate)).getD 0)-1:Int)) (⟨(s:Int),(aa:Int)⟩:Gate)).getD 0)+1:Int)),ag,ai,rfl,H⟩⟩
        skip
        refine t_ment (i:=0) (kenc:=encG) (venc:=I) (f:=updF ab (⟨(aa:Int),(s:Int)⟩:Gate) (((ab (⟨(aa:Int),(s:Int)⟩:Gate)).getD 0)-1:Int)) (k:=(⟨(s:Int),(aa:Int)⟩:Gate)) (z:=0) keyGate Tryz.underlying139 Al3 H rfl rfl rfl ?_;intro bo bp H;replace H:=H.nf
        refine s_nil ⟨(H.pk [1]),?_⟩
        refine kg 1 ?_;refine t_l rfl<|s_val (q_look (kenc:=encG) (venc:=I) (f:=updF (updF ab (⟨(aa:Int),(s:Int)⟩:Gate) (((ab (⟨(aa:Int),(s:Int)⟩:Gate)).getD 0)-1:Int)) (⟨(s:Int),(aa:Int)⟩:Gate) (((updF ab (⟨(aa:Int),(s:Int)⟩:Gate) (((ab (⟨(aa:Int),(s:Int)⟩:Gate)).getD 0)-1:Int)) (⟨(s:Int),(aa:Int)⟩:Gate)).getD 0)) (k:=(⟨(s:Int),(aa:Int)⟩:Gate)) (v:=I (((updF ab (⟨(aa:Int),(s:Int)⟩:Gate) (((ab (⟨(aa:Int),(s:Int)⟩:Gate)).getD 0)-1:Int)) (⟨(s:Int),(aa:Int)⟩:Gate)).getD 0)) keyGate Tryz.underlying139 Al3 rfl rfl (entMap (H.get (k:=0) rfl)) false (by rw [if_neg (by decide),int_val,updF_same])) ?_
        refine s_nil ⟨(H.pk [1]),?_⟩
        refine kg 1 ?_;refine t_l rfl ?_;refine t_enst (i:=0) (kenc:=encG) (venc:=I) (f0:=updF ab (⟨(aa:Int),(s:Int)⟩:Gate) (((ab (⟨(aa:Int),(s:Int)⟩:Gate)).getD 0)-1:Int)) (k:=(⟨(s:Int),(aa:Int)⟩:Gate)) (v:=((((updF ab (⟨(aa:Int),(s:Int)⟩:Gate) (((ab (⟨(aa:Int),(s:Int)⟩:Gate)).getD 0)-1:Int)) (⟨(s:Int),(aa:Int)⟩:Gate)).getD 0)+1:Int)) (L':=[cMap encG I ah (updF (updF ab (⟨(aa:Int),(s:Int)⟩:Gate) (((ab (⟨(aa:Int),(s:Int)⟩:Gate)).getD 0)-1:Int)) (⟨(s:Int),(aa:Int)⟩:Gate) ((((updF ab (⟨(aa:Int),(s:Int)⟩:Gate) (((ab (⟨(aa:Int),(s:Int)⟩:Gate)).getD 0)-1:Int)) (⟨(s:Int),(aa:Int)⟩:Gate)).getD 0)+1:Int)),cMap I B ac ag]) H rfl rfl rfl rfl rfl ?_;intro br H
        refine s_nil ⟨(H.pk [1]),?_⟩
        refine kg 5 ?_;refine W.ret ?_
        have aT:=M.e_inr hM aq
        subst aT;replace hM:=aw;(try dsimp only at hM)
        have ai:=M.e_pure hM
        exact ⟨_,resE_tmp rfl,⟨true,(updF (updF ab (⟨(aa:Int),(s:Int)⟩:Gate) (((ab (⟨(aa:Int),(s:Int)⟩:Gate)).getD 0)-1:Int)) (⟨(s:Int),(aa:Int)⟩:Gate) ((((updF ab (⟨(aa:Int),(s:Int)⟩:Gate) (((ab (⟨(aa:Int),(s:Int)⟩:Gate)).getD 0)-1:Int)) (⟨(s:Int),(aa:Int)⟩:Gate)).getD 0)+1:Int)),ag,ai,rfl,H⟩⟩
       skip
       refine t_ment (i:=0) (kenc:=encG) (venc:=I) (f:=ab) (k:=(⟨(aa:Int),(s:Int)⟩:Gate)) (z:=0) keyGate Tryz.underlying139 Al3 H rfl rfl rfl ?_;intro bt bu H;replace H:=H.nf
       refine s_nil ⟨(H.pk [1]),?_⟩
       refine kg 1 ?_;refine t_l rfl<|s_val (q_look (kenc:=encG) (venc:=I) (f:=updF ab (⟨(aa:Int),(s:Int)⟩:Gate) ((ab (⟨(aa:Int),(s:Int)⟩:Gate)).getD 0)) (k:=(⟨(aa:Int),(s:Int)⟩:Gate)) (v:=I ((ab (⟨(aa:Int),(s:Int)⟩:Gate)).getD 0)) keyGate Tryz.underlying139 Al3 rfl rfl (entMap (H.get (k:=0) rfl)) false (by rw [if_neg (by decide),int_val,updF_same])) ?_
       refine s_nil ⟨(H.pk [1]),?_⟩
       refine kg 1 ?_;refine t_l rfl ?_;refine t_enst (i:=0) (kenc:=encG) (venc:=I) (f0:=ab) (k:=(⟨(aa:Int),(s:Int)⟩:Gate)) (v:=(((ab (⟨(aa:Int),(s:Int)⟩:Gate)).getD 0)-1:Int)) (L':=[cMap encG I ah (updF ab (⟨(aa:Int),(s:Int)⟩:Gate) (((ab (⟨(aa:Int),(s:Int)⟩:Gate)).getD 0)-1:Int)),cMap I B ac ag]) H rfl rfl rfl rfl rfl ?_;intro bv H
       refine s_nil ⟨(H.pk [1]),?_⟩
       refine kg 2 ?_;refine W.drawT (fun W=>St w W [cMap I B ac ag] R) (.q 0 (.q 1 (.q 2 (.q 3 (.q 4 (.q 5 (.q 6 (.l2 7 (.q 8 (.l 9 (.q 10 (.l 11 .nil)))) 9 (.q 10 (.l 7 (.q 8 (.l 11 .nil)))))))))))) mixed (by decide +kernel) rfl ?_;intro bw al;replace H:=H.ext al;clear al
       refine ⟨(H.pk [1]),?_⟩
       refine kg 6 ?_;refine t_q rfl (fun w' H=>x_bld (ps:=[(0,I (s:Int)),(1,I aa)]) (zs:=[I 0,I 0]) (L':=[I (s:Int),I aa]) rfl Tryz.underlying144 Al144 rfl (Bd144 Tryz.underlying144) (.cons (cs:=[I (s:Int)]) rfl rfl rfl rfl rfl<|.cons (cs:=[I aa]) rfl rfl rfl rfl rfl<|.nil)) ?_;obtain ⟨bx,hM⟩:=M.e_gd hM;refine t_l2 rfl rfl ?_ ?_
       ·skip
        refine s_val (q_look (kenc:=encG) (venc:=I) (f:=updF ab (⟨(aa:Int),(s:Int)⟩:Gate) (((ab (⟨(aa:Int),(s:Int)⟩:Gate)).getD 0)-1:Int)) (k:=(⟨(s:Int),(aa:Int)⟩:Gate)) (v:=I (((updF ab (⟨(aa:Int),(s:Int)⟩:Gate) (((ab (⟨(aa:Int),(s:Int)⟩:Gate)).getD 0)-1:Int)) (⟨(s:Int),(aa:Int)⟩:Gate)).getD 0)) keyGate Tryz.underlying139 Al3 rfl rfl (H.get (k:=0) rfl) false (by rw [if_neg (by decide),int_val])) ?_
        refine s_nil ⟨(H.pk [1]),?_⟩
        refine kg 1 ?_;refine t_l rfl ?_;refine t_ment (i:=0) (kenc:=encG) (venc:=I) (f:=updF ab (⟨(aa:Int),(s:Int)⟩:Gate) (((ab (⟨(aa:Int),(s:Int)⟩:Gate)).getD 0)-1:Int)) (k:=(⟨(s:Int),(aa:Int)⟩:Gate)) (z:=0) keyGate Tryz.underlying139 Al3 H rfl rfl rfl ?_;intro bz bA H;replace H:=H.nf
        refine s_nil ⟨(H.pk [1]),?_⟩
        refine kg 1 ?_;refine t_l rfl ?_;refine t_enst (i:=0) (kenc:=encG) (venc:=I) (f0:=updF ab (⟨(aa:Int),(s:Int)⟩:Gate) (((ab (⟨(aa:Int),(s:Int)⟩:Gate)).getD 0)-1:Int)) (k:=(⟨(s:Int),(aa:Int)⟩:Gate)) (v:=((((updF ab (⟨(aa:Int),(s:Int)⟩:Gate) (((ab (⟨(aa:Int),(s:Int)⟩:Gate)).getD 0)-1:Int)) (⟨(s:Int),(aa:Int)⟩:Gate)).getD 0)+1:Int)) (L':=[cMap encG I ah (updF (updF ab (⟨(aa:Int),(s:Int)⟩:Gate) (((ab (⟨(aa:Int),(s:Int)⟩:Gate)).getD 0)-1:Int)) (⟨(s:Int),(aa:Int)⟩:Gate) ((((updF ab (⟨(aa:Int),(s:Int)⟩:Gate) (((ab (⟨(aa:Int),(s:Int)⟩:Gate)).getD 0)-1:Int)) (⟨(s:Int),(aa:Int)⟩:Gate)).getD 0)+1:Int)),cMap I B ac ag]) H rfl rfl rfl rfl rfl ?_;intro bB H
        refine s_nil ⟨(H.pk [1]),?_⟩
        refine kg 5 ?_;refine W.ret ?_
        have aU:=M.e_inr hM aq
        subst aU;replace hM:=aw;(try dsimp only at hM)
        have ai:=M.e_pure hM
        exact ⟨_,resE_tmp rfl,⟨true,(updF (updF ab (⟨(aa:Int),(s:Int)⟩:Gate) (((ab (⟨(aa:Int),(s:Int)⟩:Gate)).getD 0)-1:Int)) (⟨(s:Int),(aa:Int)⟩:Gate) ((((updF ab (⟨(aa:Int),(s:Int)⟩:Gate) (((ab (⟨(aa:Int),(s:Int)⟩:Gate)).getD 0)-1:Int)) (⟨(s:Int),(aa:Int)⟩:Gate)).getD 0)+1:Int)),ag,ai,rfl,H⟩⟩
       skip
       refine t_ment (i:=0) (kenc:=encG) (venc:=I) (f:=updF ab (⟨(aa:Int),(s:Int)⟩:Gate) (((ab (⟨(aa:Int),(s:Int)⟩:Gate)).getD 0)-1:Int)) (k:=(⟨(s:Int),(aa:Int)⟩:Gate)) (z:=0) keyGate Tryz.underlying139 Al3 H rfl rfl rfl ?_;intro bC bD H;replace H:=H.nf
       refine s_nil ⟨(H.pk [1]),?_⟩
       refine kg 1 ?_;refine t_l rfl<|s_val (q_look (kenc:=encG) (venc:=I) (f:=updF (updF ab (⟨(aa:Int),(s:Int)⟩:Gate) (((ab (⟨(aa:Int),(s:Int)⟩:Gate)).getD 0)-1:Int)) (⟨(s:Int),(aa:Int)⟩:Gate) (((updF ab (⟨(aa:Int),(s:Int)⟩:Gate) (((ab (⟨(aa:Int),(s:Int)⟩:Gate)).getD 0)-1:Int)) (⟨(s:Int),(aa:Int)⟩:Gate)).getD 0)) (k:=(⟨(s:Int),(aa:Int)⟩:Gate)) (v:=I (((updF ab (⟨(aa:Int),(s:Int)⟩:Gate) (((ab (⟨(aa:Int),(s:Int)⟩:Gate)).getD 0)-1:Int)) (⟨(s:Int),(aa:Int)⟩:Gate)).getD 0)) keyGate Tryz.underlying139 Al3 rfl rfl (entMap (H.get (k:=0) rfl)) false (by rw [if_neg (by decide),int_val,updF_same])) ?_
       refine s_nil ⟨(H.pk [1]),?_⟩
       refine kg 1 ?_;refine t_l rfl ?_;refine t_enst (i:=0) (kenc:=encG) (venc:=I) (f0:=updF ab (⟨(aa:Int),(s:Int)⟩:Gate) (((ab (⟨(aa:Int),(s:Int)⟩:Gate)).getD 0)-1:Int)) (k:=(⟨(s:Int),(aa:Int)⟩:Gate)) (v:=((((updF ab (⟨(aa:Int),(s:Int)⟩:Gate) (((ab (⟨(aa:Int),(s:Int)⟩:Gate)).getD 0)-1:Int)) (⟨(s:Int),(aa:Int)⟩:Gate)).getD 0)+1:Int)) (L':=[cMap encG I ah (updF (updF ab (⟨(aa:Int),(s:Int)⟩:Gate) (((ab (⟨(aa:Int),(s:Int)⟩:Gate)).getD 0)-1:Int)) (⟨(s:Int),(aa:Int)⟩:Gate) ((((updF ab (⟨(aa:Int),(s:Int)⟩:Gate) (((ab (⟨(aa:Int),(s:Int)⟩:Gate)).getD 0)-1:Int)) (⟨(s:Int),(aa:Int)⟩:Gate)).getD 0)+1:Int)),cMap I B ac ag]) H rfl rfl rfl rfl rfl ?_;intro bE H
       refine s_nil ⟨(H.pk [1]),?_⟩
       refine kg 5 ?_;refine W.ret ?_
       have aV:=M.e_inr hM aq
       subst aV;replace hM:=aw;(try dsimp only at hM)
       have ai:=M.e_pure hM
       exact ⟨_,resE_tmp rfl,⟨true,(updF (updF ab (⟨(aa:Int),(s:Int)⟩:Gate) (((ab (⟨(aa:Int),(s:Int)⟩:Gate)).getD 0)-1:Int)) (⟨(s:Int),(aa:Int)⟩:Gate) ((((updF ab (⟨(aa:Int),(s:Int)⟩:Gate) (((ab (⟨(aa:Int),(s:Int)⟩:Gate)).getD 0)-1:Int)) (⟨(s:Int),(aa:Int)⟩:Gate)).getD 0)+1:Int)),ag,ai,rfl,H⟩⟩
      replace hM:=M.e_f hM aK;obtain ⟨bF,hM⟩:=M.e_gd hM;refine kg 5 ?_
      exact ⟨aM,aN,ab,ag,s+1,_,upds_of _ _ ⟨rfl,rfl,rfl,rfl,trivial⟩,M.e_inl hM aq,H⟩
     replace hM:=M.e_f hM ax;refine s_val (x_pand0 (b:=((decide (0<((mp (⟨(aa:Int),(s:Int)⟩:Gate)).getD 0)))&&(!((ae (s:Int)).getD false)))) rfl (fun hb=>gd_of (c:=((decide (0<((mp (⟨(aa:Int),(s:Int)⟩:Gate)).getD 0)))&&(!((ae (s:Int)).getD false)))) (by first | exact hb | (rw [hb]; rfl) | simp_all) (B false)) rfl)<|s_nil ?_
     refine W.cond false rfl (fun aP=>?_) (fun aP=>?_)
     ·skip
      exact absurd aP (by decide)
     skip
     obtain ⟨bG,hM⟩:=M.e_gd hM;refine kg 5 ?_
     exact ⟨aM,aN,mp,ae,s+1,_,upds_of _ _ ⟨rfl,rfl,rfl,rfl,trivial⟩,M.e_inl hM aq,H⟩
    replace hM:=M.e_f hM au
    replace au:=dI au
    refine W.exit ?_
    have aW:=M.e_inr hM aq
    subst aW;replace hM:=aw;(try dsimp only at hM);refine kg 4 ?_;refine W.ret ?_
    have ai:=M.e_pure hM
    exact ⟨_,resE_tmp rfl,⟨false,mp,ae,ai,rfl,H⟩⟩
theorem zeX {R:List Chunk} {aj:Nat} {ak:Nat} {al:Cells} {am:Value} {ao:Cells} {ap:Value} {aa:Nat} {ab:Nat} (ac:List Work) (ae:List Int) (n_work:Int) (ag:Gate->Option Int) (ah:Int->Option Bool) (ai:Int) (aq:Reads R al) (au:Sl al am ac) (av:Has R (cBlk ak [am] 97)) (aw:Reads R ao) (ax:Sl ao ap ae) (ay:Has R (cBlk aj [Pq ak,ap,I n_work,.map (some aa),.map (some ab)] 142)) {r:(Bool × (Gate->Option Int) × (Int->Option Bool))} (hM:(zch ac ae n_work ag ah ai).Ends r) (w:World) (H:St w w [cMap encG I aa ag,cMap I B ab ah] R):Ret Tryz.prog 100 #[Pq aj,I ai] w fun v w'=>∃ (y0:Bool) (y1:Gate->Option Int) (y2:Int->Option Bool),(y0,y1,y2)=r/\v=B y0/\St w w' [cMap encG I aa y1,cMap I B ab y2] R:=by
  obtain ⟨n_,hM⟩:=M.e_fix hM
  exact zfo n_ ac ae n_work ag ah ai aq au av aw ax ay hM w H

def zce (aa:List Work) (revised:List Int) (work:Int) (s2:Nat):((Gate->Option Int) × Nat)->M (((Gate->Option Int) × Nat) ⊕ (Gate->Option Int)):=fun (ab,s) =>
  bif decide ((s:Int)<(((aa.getD s2 default).of).length:Int)) then (
  M.grd (decide ((s:Int)<(((aa.getD s2 default).of).length:Int))) <|
  M.bind (M.opt (((((aa.getD s2 default).of).getD s 0) != work)&&!((s2:Int)==work)) (zbi aa revised work ab (fun _=>none) (s2:Int)) false) fun r3 =>
  bif (((((aa.getD s2 default).of).getD s 0) != work)&&(((s2:Int)==work)||r3)) then (
  M.grd (decide ((-9223372036854775808:Int)<=(2*(((aa.getD s2 default).of).getD s 0)))&&decide ((2*(((aa.getD s2 default).of).getD s 0))<=(9223372036854775807:Int))) <|
  M.grd (decide ((-9223372036854775808:Int)<=((2*(((aa.getD s2 default).of).getD s 0))+1))&&decide (((2*(((aa.getD s2 default).of).getD s 0))+1)<=(9223372036854775807:Int))) <|
  M.grd (decide ((-9223372036854775808:Int)<=(2*(s2:Int)))&&decide ((2*(s2:Int))<=(9223372036854775807:Int))) <|
  M.pure (.inl (updF ab (⟨((2*(((aa.getD s2 default).of).getD s 0))+1:Int),2*(s2:Int)⟩:Gate) (30:Int),s+1)))
  else (
  M.pure (.inl (ab,s+1))))
  else (
  M.pure (.inr ab))
def zbH (aa:List Work) (revised:List Int) (work:Int) (s2:Nat) (mp:Gate->Option Int):M (((Gate->Option Int) × Nat) ⊕ (Gate->Option Int)) :=
  M.bind (M.iter (zce aa revised work s2) (mp,0)) fun ab =>
  M.pure (.inl (ab,s2+1))
def zd2 (aa:List Work) (revised:List Int) (work:Int):((Gate->Option Int) × Nat)->M (((Gate->Option Int) × Nat) ⊕ (Gate->Option Int)):=fun (ab,s2) =>
  bif decide ((s2:Int)<(aa.length:Int)) then (
  M.grd (decide ((s2:Int)<(aa.length:Int))) <|
  M.bind (zbi aa revised work ab (fun _=>none) (s2:Int)) fun r2 =>
  bif r2 then (
  M.grd (decide ((-9223372036854775808:Int)<=(2*(s2:Int)))&&decide ((2*(s2:Int))<=(9223372036854775807:Int))) <|
  M.grd (decide ((-9223372036854775808:Int)<=((2*(s2:Int))+1))&&decide (((2*(s2:Int))+1)<=(9223372036854775807:Int))) <|
  zbH aa revised work s2 (updF ab (⟨2*(s2:Int),((2*(s2:Int))+1:Int)⟩:Gate) (1:Int)))
  else (
  zbH aa revised work s2 ab))
  else (
  M.pure (.inr ab))
def zb1 (ac:List Work) (revised:List Int) (work:Int) (s3:Nat):((Gate->Option Int) × (Int->Option Bool))->M (((Gate->Option Int) × (Int->Option Bool)) ⊕ ((Gate->Option Int) × (Int->Option Bool))):=fun (ae,ag) =>
  M.grd (decide ((-9223372036854775808:Int)<=(2*(revised.getD s3 0)))&&decide ((2*(revised.getD s3 0))<=(9223372036854775807:Int))) <|
  M.grd (decide ((-9223372036854775808:Int)<=((2*(revised.getD s3 0))+1))&&decide (((2*(revised.getD s3 0))+1)<=(9223372036854775807:Int))) <|
  M.bind (zch ac revised work ae (fun _=>none) ((2*(revised.getD s3 0))+1)) fun (r4,aa,ab) =>
  bif !r4 then (
  M.pure (.inr (aa,ab)))
  else (
  M.pure (.inl (aa,ab)))
def zdi (ac:List Work) (revised:List Int) (work:Int):((Gate->Option Int) × (Int->Option Bool) × Nat)->M (((Gate->Option Int) × (Int->Option Bool) × Nat) ⊕ ((Gate->Option Int) × (Int->Option Bool))):=fun (aa,ab,s3) =>
  bif decide ((s3:Int)<(revised.length:Int)) then (
  M.grd (decide ((s3:Int)<(revised.length:Int))) <|
  M.bind (M.iter (zb1 ac revised work s3) (aa,ab)) fun (ae,ag) =>
  M.pure (.inl (ae,ag,s3+1)))
  else (
  M.pure (.inr (aa,ab)))
def zeJ (aa:List Work) (revised:List Int) (work:Int):M (Int × (Gate->Option Int) × (Int->Option Bool)) :=
  M.bind (M.iter (zd2 aa revised work) ((fun _=>none),0)) fun ab =>
  M.bind (M.iter (zdi aa revised work) (ab,(fun _=>none),0)) fun (ac,ae) =>
  M.pure (work,ac,ae)
theorem zgs {R:List Chunk} {ah:Nat} {aP:Cells} {ap:Value} {aQ:Cells} {ae:Value} (aa:List Work) (revised:List Int) (work:Int) (aB:Reads R aP) (aq:Sl aP ap aa) (aD:Has R (cBlk ah [ap] 97)) (aE:Reads R aQ) (au:Sl aQ ae revised) {r:(Int × (Gate->Option Int) × (Int->Option Bool))} (hM:(zeJ aa revised work).Ends r) (w:World) (H:St w w [] R):Ret Tryz.prog 122 #[Pq ah,ae,I work] w fun v w'=>∃ (y0:Int) (y1:Gate->Option Int) (y2:Int->Option Bool) (aR:Nat) (aS:Nat) (aT:Nat),(y0,y1,y2)=r/\v=Pq aR/\St w w' [cBlk aR [Pq ah,ae,I y0,.map (some aS),.map (some aT)] 142,cMap encG I aS y1,cMap I B aT y2] R:=by
 refine ret_of_W Tryz.func122 rfl rfl rfl ?_;refine kg 9 ?_;refine t_mkmap (κ:=Gate) (ν:=Int) encG I H ?_;intro ab bD H;refine t_mkmap (κ:=Int) (ν:=Bool) I B H ?_;intro ac bE H;refine s_val (x_bld (ps:=[(0,Pq ah),(1,ae),(2,I work),(3,.map (some ab)),(4,.map (some ac))]) (zs:=[.pointer none,.slice none 0 0,I 0,.map none,.map none]) (L':=[Pq ah,ae,I work,.map (some ab),.map (some ac)]) rfl Tryz.underlying142 Al142 rfl (Bd142 Tryz.underlying142) (.cons (cs:=[Pq ah]) rfl rfl rfl rfl rfl<|.cons (cs:=[ae]) (Sl.cells au) rfl rfl rfl rfl<|.cons (cs:=[I work]) rfl rfl rfl rfl rfl<|.cons (cs:=[.map (some ab)]) rfl rfl rfl rfl rfl<|.cons (cs:=[.map (some ac)]) rfl rfl rfl rfl rfl<|.nil)) ?_;refine t_bx [Pq ah,ae,I work,.map (some ab),.map (some ac)] H rfl ?_;intro ag bF H
 have bG:=(aq).len_le
 refine kg 14 ?_;obtain ⟨a8,aF,a9⟩:=M.e_bind hM
 obtain ⟨aG,aF⟩:=M.e_iter aF
 refine W.loop (fun m σ W=>∃ (ai:Gate->Option Int) (s2:Nat) (ρ:Env),σ=upds ρ [(1,ae),(2,I work),(7,Pq ag),(25,ap),(26,I (aa.length:Int)),(27,I (s2:Int))]/\M.iterN (zd2 aa revised work) m (ai,s2)=some a8/\St w W [cBlk ag [Pq ah,ae,I work,.map (some ab),.map (some ac)] 142,cMap I B ac (fun _=>none),cMap encG I ab ai] R) ?_ ?_
 ·exact ⟨_,(fun _=>none),0,_,upds_of _ _ ⟨rfl,rfl,rfl,rfl,rfl,rfl,trivial⟩,aF,H⟩
 rintro bH σ bI ⟨ai,s2,ρ,rfl,aU,H⟩
 obtain ⟨ba,bb,bc,hM,aV⟩:=M.e_iterN aU
 simp only [zd2] at hM
 clear aU;refine kg 5 ?_
 refine W.cond (decide ((s2:Int)<(aa.length:Int))) rfl (fun al=>?_) (fun al=>?_)
 ·replace hM:=M.e_t hM al
  replace al:=dI al
  obtain ⟨bJ,hM⟩:=M.e_gd hM;refine kg 7 ?_
  obtain ⟨aj,bf,av⟩:=Work_atA aq (i:=(s2:Int)) (by omega) (by omega)
  replace av:Sl _ aj (aa.getD s2 default).of:=av
  have bK:=av.len_le
  refine s_val (x_ld (v:=.agg #[aj,I ((aa.getD s2 default).base),I ((aa.getD s2 default).minutes)]) rfl (ld_ag Ag34 Sz34 (At.mono bf (aB.at H)))) ?_;refine t_alloc (cs:=[.slice none 0 0,I 0,I 0]) H Al34 rfl ?_;intro aw bL H;refine kg 1 ?_;refine t_sw 0 0 [aj,I ((aa.getD s2 default).base),I ((aa.getD s2 default).minutes)] (.agg #[aj,I ((aa.getD s2 default).base),I ((aa.getD s2 default).minutes)]) H rfl rfl Sz34 rfl rfl rfl (by simp only [List.all_cons,List.all_nil,Bool.true_and,Bool.and_true,Sl.oc av]; try rfl) ?_;intro bM H;refine s_nil ?_;refine W.seqJ (fun σ W=>∃ (mp:Gate->Option Int) (ρ:Env),σ=upds ρ [(1,ae),(2,I work),(7,Pq ag),(8,I (s2:Int)),(9,Pq aw),(25,ap),(26,I (aa.length:Int)),(27,I (s2:Int))]/\(zbH aa revised work s2 mp).Ends bc/\St w W [cBlk aw [aj,I ((aa.getD s2 default).base),I ((aa.getD s2 default).minutes)] 34,cBlk ag [Pq ah,ae,I work,.map (some ab),.map (some ac)] 142,cMap I B ac (fun _=>none),cMap encG I ab mp] R) ?_ ?_
  ·skip
   refine kg 4 ?_;obtain ⟨bN,bg,hM⟩:=M.e_bind hM;refine s_call cf101 [Pq ag,I (s2:Int)] rfl (zbR aa revised work ai (fun _=>none) (s2:Int) (aB.app _) aq (aD.app _) (aE.app _) au (Has.here (k:=3) rfl) (Has.here (k:=2) rfl) (Has.here (k:=1) rfl) bg _ (H.gt 4)) ?_
   rintro vq bO ⟨r2,rfl,hvq,ax⟩
   subst vq;(try dsimp only at hM);replace H:=H.bk ax;clear ax;refine s_nil ?_
   refine W.cond r2 rfl (fun aH=>?_) (fun aH=>?_)
   ·replace hM:=M.e_t hM aH;obtain ⟨bP,hM⟩:=M.e_gd hM;obtain ⟨bQ,hM⟩:=M.e_gd hM;refine kg 10 ?_;refine s_val (x_bld (ps:=[(0,I (2*(s2:Int))),(1,I ((2*(s2:Int))+1))]) (zs:=[I 0,I 0]) (L':=[I (2*(s2:Int)),I ((2*(s2:Int))+1)]) rfl Tryz.underlying144 Al144 rfl (Bd144 Tryz.underlying144) (.cons (cs:=[I (2*(s2:Int))]) rfl rfl rfl rfl rfl<|.cons (cs:=[I ((2*(s2:Int))+1)]) rfl rfl rfl rfl rfl<|.nil)) ?_;refine t_mapu (i:=3) (kenc:=encG) (venc:=I) (f:=ai) (k:=(⟨2*(s2:Int),((2*(s2:Int))+1:Int)⟩:Gate)) (v:=(1:Int)) (L':=[cBlk aw [aj,I ((aa.getD s2 default).base),I ((aa.getD s2 default).minutes)] 34,cBlk ag [Pq ah,ae,I work,.map (some ab),.map (some ac)] 142,cMap I B ac (fun _=>none),cMap encG I ab (updF ai (⟨2*(s2:Int),((2*(s2:Int))+1:Int)⟩:Gate) (1:Int))]) keyGate Tryz.underlying139 H rfl rfl rfl rfl rfl ?_;intro bR H;refine s_nil ?_
    exact ⟨updF ai (⟨2*(s2:Int),((2*(s2:Int))+1:Int)⟩:Gate) (1:Int),_,upds_of _ _ ⟨rfl,rfl,rfl,rfl,rfl,rfl,rfl,rfl,trivial⟩,hM,H⟩
   replace hM:=M.e_f hM aH;refine W.skip ?_
   exact ⟨ai,_,upds_of _ _ ⟨rfl,rfl,rfl,rfl,rfl,rfl,rfl,rfl,trivial⟩,hM,H⟩
  rintro _ bS ⟨mp,ρ,rfl,hM,H⟩
  unfold zbH at hM
  have bT:=(av).len_le
  refine kg 8 ?_;obtain ⟨bh,aI,bi⟩:=M.e_bind hM
  obtain ⟨aG,aI⟩:=M.e_iter aI
  refine W.loop (fun m σ W=>∃ (ak:Gate->Option Int) (s:Nat) (ρ:Env),σ=upds ρ [(1,ae),(2,I work),(7,Pq ag),(8,I (s2:Int)),(25,ap),(26,I (aa.length:Int)),(27,I (s2:Int)),(46,aj),(47,I (((aa.getD s2 default).of).length:Int)),(48,I (s:Int))]/\M.iterN (zce aa revised work s2) m (ak,s)=some bh/\St w W [cBlk aw [aj,I ((aa.getD s2 default).base),I ((aa.getD s2 default).minutes)] 34,cBlk ag [Pq ah,ae,I work,.map (some ab),.map (some ac)] 142,cMap I B ac (fun _=>none),cMap encG I ab ak] R) ?_ ?_
  ·exact ⟨_,mp,0,_,upds_of _ _ ⟨rfl,rfl,rfl,rfl,rfl,rfl,rfl,rfl,rfl,rfl,trivial⟩,aI,H⟩
  rintro bU σ bV ⟨ak,s,ρ,rfl,aW,H⟩
  obtain ⟨aX,aY,bW,hM,aJ⟩:=M.e_iterN aW
  simp only [zce] at hM
  clear aW;refine kg 5 ?_
  refine W.cond (decide ((s:Int)<(((aa.getD s2 default).of).length:Int))) rfl (fun am=>?_) (fun am=>?_)
  ·replace hM:=M.e_t hM am
   replace am:=dI am
   obtain ⟨bX,hM⟩:=M.e_gd hM;refine kg 21 ?_;obtain ⟨r3,bj,hM⟩:=M.e_bind hM;refine t_gcall (((((aa.getD s2 default).of).getD s 0) != work)&&!((s2:Int)==work)) (gy_gf rfl rfl) cf101 (B r3) (fun _=>[Pq ag,I (s2:Int)]) (fun hg=>lst2 (gd_of hg (Pq ag)) (gd_of hg (I (s2:Int)))) H (fun hg=>(zbR aa revised work ak (fun _=>none) (s2:Int) (aB.app _) aq (aD.app _) (aE.app _) au (Has.here (k:=3) rfl) (Has.here (k:=2) rfl) (Has.here (k:=1) rfl) (M.e_opt bj hg) _ (H.give (A:=[]) rfl)).mono fun v_ w_ ⟨y_,aK,bm,H_⟩=>by subst aK; exact ⟨bm,H.via H_⟩) ?_;intro bY H;refine g_val ((((aa.getD s2 default).of).getD s 0) != work) (gy_t rfl) (fun hg=>x_por (b:=(s2:Int)==work) (r:=r3) (gd_of hg (B ((s2:Int)==work))) rfl (fun hb=>gd_of (c:=(((((aa.getD s2 default).of).getD s 0) != work)&&!((s2:Int)==work))) (by first | exact hb | (rw [hb]; rfl) | simp_all) (B r3)))<|s_val (x_pand (b:=(((aa.getD s2 default).of).getD s 0) != work) (r:=(((s2:Int)==work)||r3)) rfl (fun hb=>gd_of (c:=(((aa.getD s2 default).of).getD s 0) != work) (by first | exact hb | (rw [hb]; rfl) | simp_all) (B (((s2:Int)==work)||r3))) rfl)<|s_nil ?_
   refine W.cond (((((aa.getD s2 default).of).getD s 0) != work)&&(((s2:Int)==work)||r3)) rfl (fun aL=>?_) (fun aL=>?_)
   ·replace hM:=M.e_t hM aL;obtain ⟨bZ,hM⟩:=M.e_gd hM;obtain ⟨b0,hM⟩:=M.e_gd hM;obtain ⟨b4,hM⟩:=M.e_gd hM;refine kg 10 ?_;refine s_val (x_bld (ps:=[(0,I ((2*(((aa.getD s2 default).of).getD s 0))+1)),(1,I (2*(s2:Int)))]) (zs:=[I 0,I 0]) (L':=[I ((2*(((aa.getD s2 default).of).getD s 0))+1),I (2*(s2:Int))]) rfl Tryz.underlying144 Al144 rfl (Bd144 Tryz.underlying144) (.cons (cs:=[I ((2*(((aa.getD s2 default).of).getD s 0))+1)]) rfl rfl rfl rfl rfl<|.cons (cs:=[I (2*(s2:Int))]) rfl rfl rfl rfl rfl<|.nil)) ?_;refine t_mapu (i:=3) (kenc:=encG) (venc:=I) (f:=ak) (k:=(⟨((2*(((aa.getD s2 default).of).getD s 0))+1:Int),2*(s2:Int)⟩:Gate)) (v:=(30:Int)) (L':=[cBlk aw [aj,I ((aa.getD s2 default).base),I ((aa.getD s2 default).minutes)] 34,cBlk ag [Pq ah,ae,I work,.map (some ab),.map (some ac)] 142,cMap I B ac (fun _=>none),cMap encG I ab (updF ak (⟨((2*(((aa.getD s2 default).of).getD s 0))+1:Int),2*(s2:Int)⟩:Gate) (30:Int))]) keyGate Tryz.underlying139 H rfl rfl rfl rfl rfl ?_;intro b5 H;refine kg 5 ?_
    exact ⟨aX,aY,updF ak (⟨((2*(((aa.getD s2 default).of).getD s 0))+1:Int),2*(s2:Int)⟩:Gate) (30:Int),s+1,_,upds_of _ _ ⟨rfl,rfl,rfl,rfl,rfl,rfl,rfl,rfl,rfl,rfl,trivial⟩,M.e_inl hM aJ,H⟩
   replace hM:=M.e_f hM aL;refine kg 5 ?_
   exact ⟨aX,aY,ak,s+1,_,upds_of _ _ ⟨rfl,rfl,rfl,rfl,rfl,rfl,rfl,rfl,rfl,rfl,trivial⟩,M.e_inl hM aJ,H⟩
  replace hM:=M.e_f hM am
  replace am:=dI am
  refine W.exit ?_
  have bn:=M.e_inr hM aJ
  subst bn;replace hM:=bi;(try dsimp only at hM);refine kg 4 ?_
  exact ⟨ba,bb,ak,s2+1,_,upds_of _ _ ⟨rfl,rfl,rfl,rfl,rfl,rfl,trivial⟩,M.e_inl hM aV,(H.pk [1,2,3])⟩
 replace hM:=M.e_f hM al
 replace al:=dI al
 refine W.exit ?_
 have bo:=M.e_inr hM aV
 subst bo;replace hM:=a9;(try dsimp only at hM)
 have b6:=(au).len_le
 refine kg 8 ?_;obtain ⟨bp,aM,br⟩:=M.e_bind hM
 obtain ⟨aG,aM⟩:=M.e_iter aM
 refine W.loop (fun m σ W=>∃ (ay:Gate->Option Int) (az:Int->Option Bool) (s3:Nat) (ρ:Env),σ=upds ρ [(7,Pq ag),(77,ae),(78,I (revised.length:Int)),(79,I (s3:Int))]/\M.iterN (zdi aa revised work) m (ay,az,s3)=some bp/\St w W [cBlk ag [Pq ah,ae,I work,.map (some ab),.map (some ac)] 142,cMap I B ac az,cMap encG I ab ay] R) ?_ ?_
 ·exact ⟨_,ai,(fun _=>none),0,_,upds_of _ _ ⟨rfl,rfl,rfl,rfl,trivial⟩,aM,H⟩
 rintro b7 σ b8 ⟨ay,az,s3,ρ,rfl,aZ,H⟩
 obtain ⟨bt,bu,b9,hM,a0⟩:=M.e_iterN aZ
 simp only [zdi] at hM
 clear aZ;refine kg 5 ?_
 refine W.cond (decide ((s3:Int)<(revised.length:Int))) rfl (fun ao=>?_) (fun ao=>?_)
 ·replace hM:=M.e_t hM ao
  replace ao:=dI ao
  obtain ⟨ca,hM⟩:=M.e_gd hM;refine kg 9 ?_;refine W.scope<|W.seq ?_;refine W.label<|W.block ?_;obtain ⟨bv,aN,bw⟩:=M.e_bind hM
  obtain ⟨aG,aN⟩:=M.e_iter aN
  refine W.loop (fun m σ W=>∃ (aA:Gate->Option Int) (aC:Int->Option Bool) (ρ:Env),σ=upds ρ [(7,Pq ag),(13,I (revised.getD s3 0)),(77,ae),(78,I (revised.length:Int)),(79,I (s3:Int))]/\M.iterN (zb1 aa revised work s3) m (aA,aC)=some bv/\St w W [cBlk ag [Pq ah,ae,I work,.map (some ab),.map (some ac)] 142,cMap I B ac aC,cMap encG I ab aA] R) ?_ ?_
  ·exact ⟨_,ay,az,_,upds_of _ _ ⟨rfl,rfl,rfl,rfl,rfl,trivial⟩,aN,H⟩
  rintro cb σ cc ⟨aA,aC,ρ,rfl,a4,H⟩
  obtain ⟨bx,bz,cd,hM,a5⟩:=M.e_iterN a4
  simp only [zb1] at hM
  clear a4;refine kg 7 ?_;refine t_clearm (i:=1) (kenc:=I) (venc:=B) (f:=aC) (L':=[cBlk ag [Pq ah,ae,I work,.map (some ab),.map (some ac)] 142,cMap I B ac (fun _=>none),cMap encG I ab aA]) (by rw [show (#[140]:Array TypeId)[0]?.bind Tryz.prog.underlying = Tryz.prog.underlying 140 from rfl,Tryz.underlying140]; rfl) H rfl rfl rfl ?_;intro ce H;obtain ⟨cf,hM⟩:=M.e_gd hM;obtain ⟨cg,hM⟩:=M.e_gd hM;refine kg 7 ?_;obtain ⟨ch,bA,hM⟩:=M.e_bind hM;refine s_call cf100 [Pq ag,I ((2*(revised.getD s3 0))+1)] rfl (zeX aa revised work aA (fun _=>none) ((2*(revised.getD s3 0))+1) (aB.app _) aq (aD.app _) (aE.app _) au (Has.here (k:=0) rfl) bA _ ((H.pk [2,1,0]).gt 1)) ?_
  rintro vq ci ⟨r4,a6,a7,rfl,hvq,ax⟩
  subst vq;(try dsimp only at hM)
  replace H:=H.pk [2,1,0] |>.bk ax
  clear ax;refine kg 2 ?_
  refine W.cond (!r4) rfl (fun aO=>?_) (fun aO=>?_)
  ·replace hM:=M.e_t hM aO;refine W.exit ?_
   have bB:=M.e_inr hM a5
   subst bB;replace hM:=bw;(try dsimp only at hM);refine kg 4 ?_
   exact ⟨bt,bu,a6,a7,s3+1,_,upds_of _ _ ⟨rfl,rfl,rfl,rfl,trivial⟩,M.e_inl hM a0,(H.pk [2,1,0])⟩
  replace hM:=M.e_f hM aO;refine W.skip ?_
  exact ⟨bx,bz,a6,a7,_,upds_of _ _ ⟨rfl,rfl,rfl,rfl,rfl,trivial⟩,M.e_inl hM a5,(H.pk [2,1,0])⟩
 replace hM:=M.e_f hM ao
 replace ao:=dI ao
 refine W.exit ?_
 have bC:=M.e_inr hM a0
 subst bC;replace hM:=br;(try dsimp only at hM);refine kg 5 ?_;refine W.ret ?_
 have aK:=M.e_pure hM
 exact ⟨_,resE_tmp rfl,⟨work,ay,az,ag,ab,ac,aK,rfl,(H.pk [0,2,1])⟩⟩

def zdk (w_:List Work) (revised:List Int) (work:Int):M (Int ⊕ (Int × (Gate->Option Int) × (Int->Option Bool) × Int)) :=
  M.bind (zby w_ revised work) fun x_=>match x_ with
  | (.inl r1)=>(
  bif r1 != 0 then (
  M.pure (.inl r1))
  else (
  M.fail))
  | (.inr aa)=>(
  bif aa != 0 then (
  M.fail)
  else (
  M.bind (zba revised (fun ab=>zei ab w_ work)) fun r2 =>
  bif r2 then (
  M.pure (.inl 5))
  else (
  M.bind (zeJ w_ revised work) fun (ac,r3,r4) =>
  M.pure (.inr (ac,r3,r4,0)))))
theorem zfg {R:List Chunk} {av:Cells} {ah:Value} {aw:Cells} {ab:Value} (w_:List Work) (revised:List Int) (work:Int) (ak:Reads R av) (al:Sl av ah w_) (am:Reads R aw) (ao:Sl aw ab revised) {r:(Int ⊕ (Int × (Gate->Option Int) × (Int->Option Bool) × Int))} (hM:(zdk w_ revised work).Ends r) (w:World) (H:St w w [] R):Ret Tryz.prog 99 #[ah,ab,I work] w fun v w'=>(∃ (y0:Int),(.inl y0)=r/\v = .tuple #[.pointer none,I y0]/\St w w' [] R)∨(∃ (y0:Int) (y1:Gate->Option Int) (y2:Int->Option Bool) (y3:Int) (ax:Nat) (ay:Nat) (az:Nat) (aA:Nat),(.inr (y0,y1,y2,y3))=r/\v = .tuple #[Pq ax,I y3]/\St w w' [cBlk ax [Pq ay,ab,I y0,.map (some az),.map (some aA)] 142,cBlk ay [ah] 97,cMap encG I az y1,cMap I B aA y2] R):=by
 refine ret_of_W Tryz.func99 rfl rfl rfl ?_;refine kg 2 ?_;refine t_b1 (I work) H rfl rfl ?_;intro ap aT H;refine kg 8 ?_;obtain ⟨aU,aC,hM⟩:=M.e_bind hM;refine s_call cf89 [ah,ab,I work] rfl (zca w_ revised work (ak.app _) al (am.app _) ao aC _ (H.gt 1)) ?_
 rintro vq aV (⟨r1,aD,hvq,aa⟩ | ⟨aE,ai,aF,hvq,aa⟩)
 ·subst aD;subst vq;(try dsimp only at hM);replace H:=H.bk aa;clear aa;refine kg 3 ?_;refine t_alloc (cs:=[.pointer none]) H Al87 rfl ?_;intro aj aW H;refine t_sw 0 0 [.pointer none] (.pointer none) H rfl rfl Sz87 rfl rfl rfl rfl ?_;intro aX H;refine kg 10 ?_
  refine W.cond (r1 != 0) rfl (fun ac=>?_) (fun ac=>?_)
  ·replace hM:=M.e_t hM ac
   replace ac:=dI ac
   refine kg 6 ?_;replace H:=H.pk [];refine W.ret ?_
   have ae:=M.e_pure hM
   exact ⟨_,resE_tmp2 rfl,.inl (⟨r1,ae,rfl,H⟩)⟩
  replace hM:=M.e_f hM ac
  exact (M.e_fail hM).elim
 subst aF;subst vq;(try dsimp only at hM);replace H:=H.bk aa;clear aa;refine kg 3 ?_;refine t_alloc (cs:=[.pointer none]) H Al87 rfl ?_;intro aj aY H;refine t_sw 0 0 [Pq ai] (Pq ai) H rfl rfl Sz87 rfl rfl rfl rfl ?_;intro aZ H;refine kg 10 ?_
 refine W.cond (aE != 0) rfl (fun ag=>?_) (fun ag=>?_)
 ·replace hM:=M.e_t hM ag
  exact (M.e_fail hM).elim
 replace hM:=M.e_f hM ag
 replace ag:=dI ag
 refine kg 3 ?_;refine s_val (x_mf (fs:=[]) (cs:=[Pq aj,Pq ap]) rfl rfl) ?_;obtain ⟨a0,aG,hM⟩:=M.e_bind hM;refine s_call cf90 [ab,.func (.func 121) #[] #[Pq aj,Pq ap]] rfl (zbM revised (fun aq=>zei aq w_ work) (am.app _) ao ⟨121,[Pq aj,Pq ap],rfl,cf121,fun aB a4 a5 aH aq a6 aI a7 aJ aK=>by obtain rfl:=Arg.int aJ; exact (zf8 aq w_ work (Reads.app (ak.app _) _) al (Has.app (Has.here (k:=1) rfl) _) (Has.app (Has.here (k:=0) rfl) _) (Has.app (Has.here (k:=2) rfl) _) aK aB (St.refl aI)).mono fun aH aB ⟨a8,aL,aM,aN⟩=>by subst aL; exact ⟨aM,aN⟩⟩ aG _ (H.gt 3)) ?_
 rintro vq a9 ⟨r2,rfl,hvq,aa⟩
 subst vq;(try dsimp only at hM);replace H:=H.bk aa;clear aa;refine kg 2 ?_
 refine W.cond r2 rfl (fun au=>?_) (fun au=>?_)
 ·replace hM:=M.e_t hM au;refine kg 5 ?_;replace H:=H.pk [];refine W.ret ?_
  have ae:=M.e_pure hM
  exact ⟨_,resE_tmp2 rfl,.inl (⟨5,ae,rfl,H⟩)⟩
 replace hM:=M.e_f hM au;refine kg 6 ?_;obtain ⟨ba,aO,hM⟩:=M.e_bind hM;refine s_call cf122 [Pq ai,ab,I work] rfl (zgs w_ revised work (ak.app _) al (Has.here (k:=1) rfl) (am.app _) ao aO _ (H.gt 3)) ?_
 rintro vq bb ⟨aP,r3,r4,aQ,aR,aS,rfl,hvq,aa⟩
 subst vq;(try dsimp only at hM);replace H:=H.bk aa;clear aa;refine kg 3 ?_;replace H:=H.pk [0,1,2,4];refine W.ret ?_
 have ae:=M.e_pure hM
 exact ⟨_,resE_tmp2 rfl,.inr (⟨aP,r3,r4,0,aQ,ai,aR,aS,ae,rfl,(H.pk [0,3,1,2])⟩)⟩

def zdu (w_:List Work) (revised:List Int) (ab:Int):((Gate->Option Int) × (Int->Option Bool) × Nat)->M (((Gate->Option Int) × (Int->Option Bool) × Nat) ⊕ ((Gate->Option Int) × (Int->Option Bool))):=fun (mp,aa,s) =>
  bif decide ((s:Int)<(revised.length:Int)) then (
  M.grd (decide ((s:Int)<(revised.length:Int))) <|
  M.grd (decide ((-9223372036854775808:Int)<=(2*(revised.getD s 0)))&&decide ((2*(revised.getD s 0))<=(9223372036854775807:Int))) <|
  M.grd (decide ((-9223372036854775808:Int)<=((2*(revised.getD s 0))+1))&&decide (((2*(revised.getD s 0))+1)<=(9223372036854775807:Int))) <|
  M.bind (zch w_ revised ab mp aa ((2*(revised.getD s 0))+1)) fun (r2,ac,ae) =>
  M.pure (.inl (ac,ae,s+1)))
  else (
  M.pure (.inr (mp,aa)))
def zcq (w_:List Work) (revised:List Int) (ab:Int) (ac:Gate->Option Int) (aa:Int->Option Bool):(Nat × (List Int))->M ((Nat × (List Int)) ⊕ ((List Int) × (List Int))):=fun (s2,l) =>
  bif decide ((s2:Int)<(w_.length:Int)) then (
  M.bind (zbi w_ revised ab ac aa (s2:Int)) fun r3 =>
  M.grd ((!r3||(decide ((-9223372036854775808:Int)<=(2*(s2:Int)))&&decide ((2*(s2:Int))<=(9223372036854775807:Int))))) <|
  M.grd ((!(r3&&((aa (2*(s2:Int))).getD false))||(decide ((-9223372036854775808:Int)<=(2*(s2:Int)))&&decide ((2*(s2:Int))<=(9223372036854775807:Int))))) <|
  M.grd ((!(r3&&((aa (2*(s2:Int))).getD false))||(decide ((-9223372036854775808:Int)<=((2*(s2:Int))+1))&&decide (((2*(s2:Int))+1)<=(9223372036854775807:Int))))) <|
  bif ((r3&&((aa (2*(s2:Int))).getD false))&&(!((aa ((2*(s2:Int))+1:Int)).getD false))) then (
  M.grd (decide ((l.length+([(s2:Int)]).length)*8<=140737488355328)) <|
  M.pure (.inl (s2+1,l++([(s2:Int)]))))
  else (
  M.pure (.inl (s2+1,l))))
  else (
  M.pure (.inr (l,l)))
def zbO (w_:List Work) (revised:List Int) (work:Int):M ((List Int) × Int) :=
  M.bind (zdk w_ revised work) fun x_=>match x_ with
  | (.inl r1)=>(
  bif r1 != 0 then (
  M.pure (([]),r1))
  else (
  M.fail))
  | (.inr (aa,ab,ah,ac))=>(
  bif ac != 0 then (
  M.fail)
  else (
  M.bind (M.iter (zdu w_ revised aa) (ab,(fun _=>none),0)) fun (ae,ag) =>
  M.bind (M.iter (zcq w_ revised aa ae ag) (0,[])) fun (l2,l3) =>
  M.pure (l3,0)))
theorem zbX {R:List Chunk} {aG:Cells} {ae:Value} {aH:Cells} {ag:Value} (w_:List Work) (revised:List Int) (work:Int) (aw:Reads R aG) (au:Sl aG ae w_) (ax:Reads R aH) (av:Sl aH ag revised) {r:((List Int) × Int)} (hM:(zbO w_ revised work).Ends r) (w:World) (H:St w w [] R):Ret Tryz.prog 48 #[ae,ag,I work] w fun v w'=>∃ (y0:List Int) (y1:Int) (u0:Value),(y0,y1)=r/\v = .tuple #[u0,I y1]/\St w w' [cOwn (α:=Int) 3 u0 y0] R:=by
 refine ret_of_W Tryz.func48 rfl rfl rfl ?_;refine kg 10 ?_;obtain ⟨bb,aO,hM⟩:=M.e_bind hM;refine s_call cf99 [ae,ag,I work] rfl (zfg w_ revised work (aw.app _) au (ax.app _) av aO _ (H.gt 0)) ?_
 rintro vq bc (⟨r1,aP,hvq,ab⟩ | ⟨ah,aI,aQ,aR,ai,al,am,ac,aS,hvq,ab⟩)
 ·subst aP;subst vq;(try dsimp only at hM);replace H:=H.bk ab;clear ab;refine kg 12 ?_
  refine W.cond (r1 != 0) rfl (fun ao=>?_) (fun ao=>?_)
  ·replace hM:=M.e_t hM ao
   replace ao:=dI ao
   refine kg 6 ?_;refine W.ret ?_
   have ay:=M.e_pure hM
   replace H:=H.nilOwn (α:=Int) 3
   exact ⟨_,resE_tmp2 rfl,⟨([]),r1,(.slice none 0 0),ay,rfl,H⟩⟩
  replace hM:=M.e_f hM ao
  exact (M.e_fail hM).elim
 subst aS;subst vq;(try dsimp only at hM);replace H:=H.bk ab;clear ab;refine kg 12 ?_
 refine W.cond (aR != 0) rfl (fun ap=>?_) (fun ap=>?_)
 ·replace hM:=M.e_t hM ap
  exact (M.e_fail hM).elim
 replace hM:=M.e_f hM ap
 replace ap:=dI ap
 refine kg 7 ?_;refine t_clearm (i:=3) (kenc:=I) (venc:=B) (f:=aQ) (L':=[cBlk ai [Pq al,ag,I ah,.map (some am),.map (some ac)] 142,cBlk al [ae] 97,cMap encG I am aI,cMap I B ac (fun _=>none)]) (by rw [show (#[140]:Array TypeId)[0]?.bind Tryz.prog.underlying = Tryz.prog.underlying 140 from rfl,Tryz.underlying140]; rfl) H rfl rfl rfl ?_;intro bf H
 have bg:=(av).len_le
 refine kg 9 ?_;obtain ⟨aT,az,aU⟩:=M.e_bind hM
 obtain ⟨aV,az⟩:=M.e_iter az
 refine W.loop (fun m σ W=>∃ (mp:Gate->Option Int) (aa:Int->Option Bool) (s:Nat) (ρ:Env),σ=upds ρ [(0,ae),(8,Pq ai),(28,ag),(29,I (revised.length:Int)),(30,I (s:Int))]/\M.iterN (zdu w_ revised ah) m (mp,aa,s)=some aT/\St w W [cBlk ai [Pq al,ag,I ah,.map (some am),.map (some ac)] 142,cBlk al [ae] 97,cMap encG I am mp,cMap I B ac aa] R) ?_ ?_
 ·exact ⟨_,aI,(fun _=>none),0,_,upds_of _ _ ⟨rfl,rfl,rfl,rfl,rfl,trivial⟩,az,H⟩
 rintro bh σ bi ⟨mp,aa,s,ρ,rfl,aJ,H⟩
 obtain ⟨aW,aX,bj,hM,aK⟩:=M.e_iterN aJ
 simp only [zdu] at hM
 clear aJ;refine kg 5 ?_
 refine W.cond (decide ((s:Int)<(revised.length:Int))) rfl (fun aj=>?_) (fun aj=>?_)
 ·replace hM:=M.e_t hM aj
  replace aj:=dI aj
  obtain ⟨bm,hM⟩:=M.e_gd hM;obtain ⟨bn,hM⟩:=M.e_gd hM;obtain ⟨bo,hM⟩:=M.e_gd hM;refine kg 14 ?_;obtain ⟨bp,aY,hM⟩:=M.e_bind hM;refine s_call cf100 [Pq ai,I ((2*(revised.getD s 0))+1)] rfl (zeX w_ revised ah mp aa ((2*(revised.getD s 0))+1) (aw.app _) au (Has.here (k:=1) rfl) (ax.app _) av (Has.here (k:=0) rfl) aY _ ((H.pk [2,3,0,1]).gt 2)) ?_
  rintro vq br ⟨r2,aZ,a0,rfl,hvq,ab⟩
  subst vq;(try dsimp only at hM)
  replace H:=H.pk [2,3,0,1] |>.bk ab
  clear ab;refine kg 5 ?_
  exact ⟨aW,aX,aZ,a0,s+1,_,upds_of _ _ ⟨rfl,rfl,rfl,rfl,rfl,trivial⟩,M.e_inl hM aK,(H.pk [2,3,0,1])⟩
 replace hM:=M.e_f hM aj
 replace aj:=dI aj
 refine W.exit ?_
 have a4:=M.e_inr hM aK
 subst a4;replace hM:=aU;(try dsimp only at hM)
 have bt:=(au).len_le
 refine kg 12 ?_
 replace H:=H.nilOwn (α:=Int) 3
 obtain ⟨a5,aA,a6⟩:=M.e_bind hM
 obtain ⟨aV,aA⟩:=M.e_iter aA
 refine W.loop (fun m σ W=>∃ (s2:Nat) (l:List Int) (aq:Value) (ρ:Env),σ=upds ρ [(8,Pq ai),(12,aq),(41,I (w_.length:Int)),(42,I (s2:Int))]/\M.iterN (zcq w_ revised ah mp aa) m (s2,l)=some a5/\St w W [cOwn (α:=Int) 3 aq l,cBlk ai [Pq al,ag,I ah,.map (some am),.map (some ac)] 142,cBlk al [ae] 97,cMap encG I am mp,cMap I B ac aa] R) ?_ ?_
 ·exact ⟨_,0,[],(.slice none 0 0),_,upds_of _ _ ⟨rfl,rfl,rfl,rfl,trivial⟩,aA,H⟩
 rintro bu σ bv ⟨s2,l,aq,ρ,rfl,aL,H⟩
 obtain ⟨aM,aN,bw,hM,aB⟩:=M.e_iterN aL
 simp only [zcq] at hM
 clear aL;refine kg 5 ?_
 refine W.cond (decide ((s2:Int)<(w_.length:Int))) rfl (fun ak=>?_) (fun ak=>?_)
 ·replace hM:=M.e_t hM ak
  replace ak:=dI ak
  refine kg 12 ?_;obtain ⟨bx,a7,hM⟩:=M.e_bind hM;refine s_call cf101 [Pq ai,I (s2:Int)] rfl (zbR w_ revised ah mp aa (s2:Int) (aw.app _) au (Has.here (k:=2) rfl) (ax.app _) av (Has.here (k:=3) rfl) (Has.here (k:=4) rfl) (Has.here (k:=1) rfl) a7 _ (H.gt 5)) ?_
  rintro vq bz ⟨r3,rfl,hvq,ab⟩
  subst vq;(try dsimp only at hM);replace H:=H.bk ab;clear ab;obtain ⟨aC,hM⟩:=M.e_grd hM
  replace aC:=M.imp_of aC
  simp only [Bool.and_eq_true,decide_eq_true_eq] at aC
  refine kg 7 ?_;refine g_val r3 (gy_t rfl) (fun hg=>q_look (kenc:=I) (venc:=B) (f:=aa) (k:=(2*(s2:Int))) (v:=B ((aa (2*(s2:Int))).getD false)) keyIntB Tryz.underlying140 Al4 (by exact (gd_of hg (.map (some ac)))) (by exact (gd_of hg (I (2*(s2:Int))))) (H.get (k:=4) rfl) false (by rw [if_neg (by decide),bool_val]))<|s_val (x_pand (b:=r3) (r:=(aa (2*(s2:Int))).getD false) rfl (fun hb=>gd_of (c:=r3) (by first | exact hb | (rw [hb]; rfl) | simp_all) (B ((aa (2*(s2:Int))).getD false))) rfl) ?_;obtain ⟨aD,hM⟩:=M.e_grd hM
  replace aD:=M.imp_of aD
  simp only [Bool.and_eq_true,decide_eq_true_eq] at aD
  obtain ⟨aE,hM⟩:=M.e_grd hM
  replace aE:=M.imp_of aE
  simp only [Bool.and_eq_true,decide_eq_true_eq] at aE
  refine kg 8 ?_;refine g_val (r3&&((aa (2*(s2:Int))).getD false)) (gy_t rfl) (fun hg=>q_look (kenc:=I) (venc:=B) (f:=aa) (k:=((2*(s2:Int))+1:Int)) (v:=B ((aa ((2*(s2:Int))+1:Int)).getD false)) keyIntB Tryz.underlying140 Al4 (by exact (gd_of hg (.map (some ac)))) (by exact (gd_of hg (I ((2*(s2:Int))+1)))) (H.get (k:=4) rfl) false (by rw [if_neg (by decide),bool_val])) ?_;refine kg 1 ?_;refine s_val (x_pand (b:=(r3&&((aa (2*(s2:Int))).getD false))) (r:=!((aa ((2*(s2:Int))+1:Int)).getD false)) rfl (fun hb=>gd_of (c:=(r3&&((aa (2*(s2:Int))).getD false))) (by first | exact hb | (rw [hb]; rfl) | simp_all) (B (!((aa ((2*(s2:Int))+1:Int)).getD false)))) rfl)<|s_nil ?_
  refine W.cond ((r3&&((aa (2*(s2:Int))).getD false))&&(!((aa ((2*(s2:Int))+1:Int)).getD false))) rfl (fun aF=>?_) (fun aF=>?_)
  ·replace hM:=M.e_t hM aF;refine kg 3 ?_;refine t_bs (α:=Int) T22 [I (s2:Int)] [(s2:Int)] H rfl (.cons rfl (Flat.rep_enc _ (s2:Int))<|.nil) rfl rfl rfl ?_;intro a8 bA H;obtain ⟨bB,hM⟩:=M.e_gd hM;refine t_app (α:=Int) (k:=1) (l:=l) (l2:=[(s2:Int)]) (l':=l++([(s2:Int)])) (vy:=a8) T22 rfl H rfl rfl rfl (H.os 0) (H.ol 0) (rfl) (by first | omega | (simp only [List.length_nil] at *; omega)) ?_;intro a9 bC H;replace H:=H.nf;refine kg 6 ?_
   exact ⟨aM,aN,s2+1,l++([(s2:Int)]),a9,_,upds_of _ _ ⟨rfl,rfl,rfl,rfl,trivial⟩,M.e_inl hM aB,(H.pk [1,2,3,4,5])⟩
  replace hM:=M.e_f hM aF;refine kg 5 ?_
  exact ⟨aM,aN,s2+1,l,aq,_,upds_of _ _ ⟨rfl,rfl,rfl,rfl,trivial⟩,M.e_inl hM aB,H⟩
 replace hM:=M.e_f hM ak
 replace ak:=dI ak
 refine W.exit ?_
 have ba:=M.e_inr hM aB
 subst ba;replace hM:=a6;(try dsimp only at hM);replace H:=H.pk [0];refine kg 6 ?_;refine W.ret ?_
 have ay:=M.e_pure hM
 exact ⟨_,resE_tmp2 rfl,⟨l,0,aq,ay,rfl,H⟩⟩

def zdd (i k:Int) (ab:List Work) (ac:List Int) (ae:Int) (aa:Gate->Option Int) (ag:Int->Option Bool):M Bool :=
  M.grd (decide ((-9223372036854775808:Int)<=(2*k))&&decide ((2*k)<=(9223372036854775807:Int))) <|
  M.grd (decide ((-9223372036854775808:Int)<=(2*i))&&decide ((2*i)<=(9223372036854775807:Int))) <|
  M.grd (decide ((-9223372036854775808:Int)<=((2*i)+1))&&decide (((2*i)+1)<=(9223372036854775807:Int))) <|
  M.pure (decide (0<((aa (⟨(2*k:Int),((2*i)+1:Int)⟩:Gate)).getD 0)))
theorem zet {R:List Chunk} {ab:Nat} {ac:Nat} {ae:Nat} {ag:Cells} {ah:Value} {ai:Cells} {aj:Value} {ak:Nat} {al:Nat} (i:Int) (k:Int) (am:List Work) (ao:List Int) (ap:Int) (aa:Gate->Option Int) (aq:Int->Option Bool) (aw:Reads R ag) (ax:Sl ag ah am) (ay:Has R (cBlk ae [ah] 97)) (az:Reads R ai) (aA:Sl ai aj ao) (au:Has R (cMap encG I ak aa)) (aB:Has R (cMap I B al aq)) (aC:Has R (cBlk ac [Pq ae,aj,I ap,.map (some ak),.map (some al)] 142)) (aD:Has R (cBlk ab [Pq ac] 136)) {r:Bool} (hM:(zdd i k am ao ap aa aq).Ends r) (w:World) (H:St w w [] R):Ret Tryz.prog 102 #[I i,I k,Pq ab] w fun v w'=>∃ (y0:Bool),y0=r/\v=B y0/\St w w' [] R:=by
 refine ret_of_W Tryz.func102 rfl rfl rfl ?_;obtain ⟨aE,hM⟩:=M.e_gd hM;obtain ⟨aF,hM⟩:=M.e_gd hM;obtain ⟨aG,hM⟩:=M.e_gd hM;refine kg 15 ?_;refine s_val (x_bld (ps:=[(0,I (2*k)),(1,I ((2*i)+1))]) (zs:=[I 0,I 0]) (L':=[I (2*k),I ((2*i)+1)]) rfl Tryz.underlying144 Al144 rfl (Bd144 Tryz.underlying144) (.cons (cs:=[I (2*k)]) rfl rfl rfl rfl rfl<|.cons (cs:=[I ((2*i)+1)]) rfl rfl rfl rfl rfl<|.nil))<|s_val (q_look (kenc:=encG) (venc:=I) (f:=aa) (k:=(⟨(2*k:Int),((2*i)+1:Int)⟩:Gate)) (v:=I ((aa (⟨(2*k:Int),((2*i)+1:Int)⟩:Gate)).getD 0)) keyGate Tryz.underlying139 Al3 rfl rfl (au.at H) false (by rw [if_neg (by decide),int_val])) ?_;refine kg 3 ?_;refine W.ret ?_
 have av:=M.e_pure hM
 exact ⟨_,resE_tmp rfl,⟨(decide (0<((aa (⟨(2*k:Int),((2*i)+1:Int)⟩:Gate)).getD 0))),av,rfl,H⟩⟩

def zcJ (k:Int) (aa:List Work) (ab:List Int) (ac:Int) (ae:Gate->Option Int) (ag:Int->Option Bool) (ah:Int):M Bool :=
  M.bind (zdd ah k aa ab ac ae ag) fun r2 =>
  M.pure r2
theorem zf2 {R:List Chunk} {ai:Nat} {aj:Nat} {ak:Nat} {al:Nat} {am:Cells} {ao:Value} {ap:Cells} {aq:Value} {au:Nat} {av:Nat} {aw:Nat} (k:Int) (ab:List Work) (ac:List Int) (ae:Int) (ag:Gate->Option Int) (ah:Int->Option Bool) (aa:Int) (ay:Reads R am) (az:Sl am ao ab) (aA:Has R (cBlk al [ao] 97)) (aB:Reads R ap) (aC:Sl ap aq ac) (aD:Has R (cMap encG I au ag)) (aE:Has R (cMap I B av ah)) (aF:Has R (cBlk ak [Pq al,aq,I ae,.map (some au),.map (some av)] 142)) (aG:Has R (cBlk aj [Pq ak] 136)) (aJ:Has R (cBlk ai [.func (.func 102) #[] #[Pq aj]] 145)) (aK:Has R (cBlk aw [I aa] 3)) {r:Bool} (hM:(zcJ k ab ac ae ag ah aa).Ends r) (w:World) (H:St w w [] R):Ret Tryz.prog 103 #[I k,Pq ai,Pq aw] w fun v w'=>∃ (y0:Bool),y0=r/\v=B y0/\St w w' [] R:=by
 refine ret_of_W Tryz.func103 rfl rfl rfl ?_;refine kg 9 ?_;obtain ⟨aL,aH,hM⟩:=M.e_bind hM;refine s_callv (f:=102) rfl cf102 [I aa,I k] rfl (zet aa k ab ac ae ag ah (ay.app _) az (aA.app _) (aB.app _) aC (aD.app _) (aE.app _) (aF.app _) (aG.app _) aH _ (H.gt 0)) ?_
 rintro vq aM ⟨r2,rfl,hvq,ax⟩
 subst vq;(try dsimp only at hM);replace H:=H.bk ax;clear ax;refine kg 2 ?_;refine W.ret ?_
 have aI:=M.e_pure hM
 exact ⟨_,resE_tmp rfl,⟨r2,aI,rfl,H⟩⟩

end Go.Proofs.YtkclldpnmolljaaGreat
end
