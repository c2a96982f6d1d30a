/- Part 2 of the texts on which the proof rests. Conditions: none. -/
import Derived.Test.YtfdgkdkfbaghpaaGreatProg
import Derived.Test.YtfdgkdkfbaghpaaGreatZA1
set_option linter.unusedVariables false
set_option linter.unusedSimpArgs false
set_option linter.unusedSectionVars false
namespace Go.Nm
open Go
universe u
/-- What a test says, as a proposition. -/
class DcQ (b c:Bool) (p:outParam Prop):Prop where
  to:b=c->p
instance (priority:=low) {b c:Bool}:DcQ b c (b=c):=⟨fun h=>h⟩
instance {p:Prop} [Decidable p]:DcQ (decide p) true p:=⟨of_decide_eq_true⟩
instance {p:Prop} [Decidable p]:DcQ (decide p) false (¬p):=⟨of_decide_eq_false⟩
instance {α:Type _} [BEq α] [LawfulBEq α] {a b:α}:DcQ (a==b) true (a=b):=⟨beq_iff_eq.1⟩
instance {α:Type _} [BEq α] [LawfulBEq α] {a b:α}:DcQ (a==b) false (a ≠ b):=⟨beq_eq_false_iff_ne.1⟩
instance {α:Type _} [BEq α] [LawfulBEq α] {a b:α}:DcQ (a != b) true (a ≠ b):=⟨bne_iff_ne.1⟩
instance {α:Type _} [BEq α] [LawfulBEq α] {a b:α}:DcQ (a != b) false (a=b):=⟨bne_eq_false_iff_eq.1⟩
/-- What a guard says, as a proposition. -/
class DeQ (b:Bool) (p:outParam Prop):Prop where
  iff:b=true↔p
instance (priority:=low) {b:Bool}:DeQ b (b=true):=⟨Iff.rfl⟩
instance {p:Prop} [Decidable p]:DeQ (decide p) p:=⟨decide_eq_true_iff⟩
instance {a b:Bool} {p q:Prop} [ha:DeQ a p] [hb:DeQ b q]:DeQ (a&&b) (p/\q):=⟨by rw [Bool.and_eq_true,ha.iff,hb.iff]⟩
/-! ### Facts on types, found by their numbers -/
class FdC (P:Program) (s k:Nat) (off ft:outParam Nat):Prop where
  h:(P.underlying s).bind (fun d=>match d with | .struct fs=>(fs[k]?).map (fun f=>(f.offset,f.type)) | _=>none)=some (off,ft)
class ScC (P:Program) (t:Nat):Prop where
  h:isSc (P.underlying t)=true
class AgC (P:Program) (t:Nat):Prop where
  h:isAg (P.underlying t)=true
class SzC (P:Program) (t:Nat) (n:outParam Nat):Prop where
  h:(P.info? t).map (·.size)=some n
class TlC (P:Program) (t:Nat) (e sz by':outParam Nat) (z:outParam Value):Prop where
  h:SlT P t e sz by' z
class AlC (P:Program) (t:Nat) (z:outParam Value):Prop where
  h:(P.info? t).map (·.zero)=some (some z)
class BdC (P:Program) (t:Nat) (pl:outParam (List (Nat × Nat))):Prop where
  h:∃ fs:Array Field,P.underlying t=some (.struct fs)/\fs.toList.mapM (fun f=>(P.info? f.type).map fun i=>(f.offset,i.size))=some pl
class CfC (P:Program) (f:FuncId):Prop where
  h:CF P f
class AddC (a b:Nat) (c:outParam Nat):Prop where
  h:a+b=c
instance (priority:=low) {a b:Nat}:AddC a b (a+b):=⟨rfl⟩
instance {a:Nat}:AddC a 0 a:=⟨rfl⟩
instance {b:Nat}:AddC 0 b b:=⟨Nat.zero_add b⟩
/-- An index as a number. -/
class IxC (i:Int) (n:outParam Nat):Prop where
  h:i.toNat=n
instance (priority:=low) {i:Int}:IxC i i.toNat:=⟨rfl⟩
instance {n:Nat}:IxC (n:Int) n:=⟨rfl⟩
instance:IxC 0 0:=⟨rfl⟩
instance:IxC 1 1:=⟨rfl⟩
instance:IxC 2 2:=⟨rfl⟩
instance:IxC 3 3:=⟨rfl⟩
instance:IxC 4 4:=⟨rfl⟩
instance:IxC 5 5:=⟨rfl⟩
instance:IxC 6 6:=⟨rfl⟩
instance:IxC 7 7:=⟨rfl⟩
instance:IxC 8 8:=⟨rfl⟩
instance:IxC 9 9:=⟨rfl⟩
/-- What is read beyond a list's end. -/
class DfC (α:Type) (d:outParam α):Prop where
  h:True
instance (priority:=low) {α:Type} [Inhabited α]:DfC α default:=⟨trivial⟩
instance:DfC Int 0:=⟨trivial⟩
instance:DfC Bool false:=⟨trivial⟩
/-- The cells of a thing, written out. -/
class EncL {α:Type} [Flat α] (x:α) (ds:outParam (List Value)):Prop where
  h:Flat.enc x=ds
/-- Some of a list's entries. -/
class SubR {α:Type u} (l:List α) (k n:Nat) (o:outParam (List α)):Prop where
  h:(l.drop k).take n=o
instance {α:Type u} {l:List α}:SubR l 0 0 []:=⟨rfl⟩
instance {α:Type u} {l o:List α} {x:α} {n:Nat} [h:SubR l 0 n o]:SubR (x :: l) 0 (n+1) (x :: o):=⟨by have:=h.h; simp at this; simp [this]⟩
instance {α:Type u} {l o:List α} {x:α} {k n:Nat} [h:SubR l k n o]:SubR (x :: l) (k+1) n o:=⟨by rw [List.drop_succ_cons]; exact h.h⟩
/-- A block among the parts. -/
class BlkR (L:List Chunk) (b:Nat) (cs:outParam (List Value)) (t:outParam TypeId):Prop where
  h:∃ k:Nat,L[k]?=some (cBlk b cs t)
instance {c:Chunk} {L:List Chunk} {b:Nat} {cs:List Value} {t:TypeId} [h:BlkR L b cs t]:BlkR (c :: L) b cs t:=⟨by obtain ⟨k,h⟩:=h.h; exact ⟨k+1,by simpa using h⟩⟩
instance {L:List Chunk} {b:Nat} {cs:List Value} {t:TypeId}:BlkR (cBlk b cs t :: L) b cs t:=⟨⟨0,rfl⟩⟩
/-- A block among the parts that is changed. -/
class BlkW (L:List Chunk) (b:Nat) (cs:List Value) (cs':List Value) (t:TypeId) (o:outParam (List Chunk)):Prop where
  h:∃ k:Nat,L[k]?=some (cBlk b cs t)/\L.set k (cBlk b cs' t)=o
instance {c:Chunk} {L o:List Chunk} {b:Nat} {cs cs':List Value} {t:TypeId} [h:BlkW L b cs cs' t o]:BlkW (c :: L) b cs cs' t (c :: o):=⟨by obtain ⟨k,h1,h2⟩:=h.h; exact ⟨k+1,by simpa using h1,by rw [List.set_cons_succ,h2]⟩⟩
instance {L:List Chunk} {b:Nat} {cs cs':List Value} {t:TypeId}:BlkW (cBlk b cs t :: L) b cs cs' t (cBlk b cs' t :: L):=⟨⟨0,rfl,rfl⟩⟩
/-- A field of an element. -/
class FldC (α:Type) [Elt α] (k:Nat) (e:outParam α) (f:outParam (α->Value)):Prop where
  h:∀ {C:Cells} {v:Value} {l:List α} {n:Nat},Sl C v l->n<l.length->At C (fat (vat v (Elt.sz α) n) k) [f (l.getD n e)]
section
variable {w0 w:World} {L R:List Chunk}
theorem St.bq {b:Nat} {cs:List Value} {t:TypeId} (H:St w0 w L R) [h:BlkR L b cs t]:w.heap[b]?=some (.cells cs.toArray t (0,0)):=by
  obtain ⟨k,hk⟩:=h.h
  exact H.get hk
end
section
variable {P:Program} {w:World} {σ:Env} {d:Nat} {ty:TypeId} {pos:String} {af:Array Edge} {g:Option (Nat × Bool)}
theorem pos_succ {m:Nat} (h:Nat.blt 0 m=true):∃ n,m=n+1:=by
  cases m with
  | zero=>cases h
  | succ n=>exact ⟨n,rfl⟩
theorem y_fab {s k off ft m b o c:Nat} {x:Operand} (hx:ev σ x = .pointer (some ⟨b,o,none⟩)) [f:FdC P s k off ft] [z:SzC P ft m] (a:AddC o off c) (hm:Nat.blt 0 m=true) :
    (execOp (ev σ) ⟨some d,.fieldAddr s x k,ty,pos,af,g⟩).run P w = .ok (.value (.pointer (some ⟨b,c,none⟩))) w:=by
  obtain ⟨n,rfl⟩:=pos_succ hm
  have:=fa_blk (w:=w) (b:=b) (o:=o) f.h z.h
  rw [a.h] at this
  exact x_fa hx this
theorem y_fap {s k off ft m:Nat} {x:Operand} {p:Value} (hx:ev σ x=p) [f:FdC P s k off ft] [z:SzC P ft m] (hm:Nat.blt 0 m=true) (hp:∃ b o,p = .pointer (some ⟨b,o,none⟩)) :
    (execOp (ev σ) ⟨some d,.fieldAddr s x k,ty,pos,af,g⟩).run P w = .ok (.value (fat p off)) w:=by
  obtain ⟨n,rfl⟩:=pos_succ hm
  exact x_fa hx (fa_pl f.h z.h hp)
theorem y_fav {α:Type} {_:Elt α} {s k off ft m sz n:Nat} {x:Operand} {C:Cells} {v:Value} {l:List α} (hx:ev σ x=vat v sz n) [f:FdC P s k off ft] [z:SzC P ft m] (hm:Nat.blt 0 m=true) (hs:Sl C v l) (hz:Elt.sz α=sz) (h1:n<l.length) :
    (execOp (ev σ) ⟨some d,.fieldAddr s x k,ty,pos,af,g⟩).run P w = .ok (.value (fat (vat v sz n) off)) w:=by
  subst hz
  have:=Sl.pl hs (i:=(n:Int)) (by omega) (by omega)
  exact y_fap hx hm (by simpa using this)
theorem y_faw {α:Type} {_:Elt α} {s k off ft m sz n a c:Nat} {x:Operand} {C:Cells} {v:Value} {l:List α} (hx:ev σ x=fat (vat v sz n) a) [f:FdC P s k off ft] [z:SzC P ft m] (ad:AddC a off c) (hm:Nat.blt 0 m=true) (hs:Sl C v l) (hz:Elt.sz α=sz) (h1:n<l.length) :
    (execOp (ev σ) ⟨some d,.fieldAddr s x k,ty,pos,af,g⟩).run P w = .ok (.value (fat (vat v sz n) c)) w:=by
  subst hz
  obtain ⟨b,o,hp⟩:=Sl.pl hs (i:=(n:Int)) (by omega) (by omega)
  have e:vat v (Elt.sz α) n = .pointer (some ⟨b,o,none⟩):=by simpa using hp
  have:=y_fap (P:=P) (w:=w) (d:=d) (ty:=ty) (pos:=pos) (af:=af) (g:=g) hx (f:=f) (z:=z) hm ⟨b,o+a,by rw [e]; simp [fat,add_lit]⟩
  rw [this,e,← ad.h]
  simp [fat,add_lit,Nat.add_assoc]
theorem y_ldb {t:TypeId} {b off:Nat} {cs:List Value} {et:TypeId} {fr:Nat × Nat} {x:Operand} {v:Value} (hx:ev σ x = .pointer (some ⟨b,off,none⟩)) [s:ScC P t] (h:w.heap[b]?=some (.cells cs.toArray et fr)) (hv:(cs.drop off).take 1=[v]) :
    (execOp (ev σ) ⟨some d,.load t x,ty,pos,af,g⟩).run P w = .ok (.value v) w:=x_ld hx (ldb_sc s.h h hv)
theorem y_lda {t:TypeId} {b off n:Nat} {cs ds:List Value} {et:TypeId} {fr:Nat × Nat} {x:Operand} (hx:ev σ x = .pointer (some ⟨b,off,none⟩)) [s:AgC P t] [z:SzC P t n] (h:w.heap[b]?=some (.cells cs.toArray et fr)) (q:SubR cs off n ds) (hn:ds.length=n) :
    (execOp (ev σ) ⟨some d,.load t x,ty,pos,af,g⟩).run P w = .ok (.value (.agg ds.toArray)) w:=x_ld hx (ldb_ag s.h z.h h q.h hn)
theorem At.flat {α:Type} [Flat α] {C:Cells} {v:Value} {l:List α} (hs:Sl C v l) {n:Nat} (h1:n<l.length) (e:α):At C (vat v (Elt.sz α) n) (Flat.enc (l.getD n e)):=by
  obtain ⟨cs,ha,hr⟩:=hs.atI (i:=(n:Int)) (by omega) (by omega) e
  rw [Flat.rep_iff] at hr
  subst hr
  simpa using ha
theorem y_lds {α:Type} {_:Flat α} {t sz n:Nat} {x:Operand} {C:Cells} {v u:Value} {l:List α} {e:α} (hx:ev σ x=vat v sz n) [s:ScC P t] (hs:Sl C v l) {ds:List Value} (de:DfC α e) (en:EncL (l.getD n e) ds) (hz:Elt.sz α=sz) (hu:ds=[u]) (hle:C.Le w.cell?) (h1:n<l.length) :
    (execOp (ev σ) ⟨some d,.load t x,ty,pos,af,g⟩).run P w = .ok (.value u) w:=by
  subst hz
  have:=(At.flat hs h1 e).mono hle
  rw [en.h,hu] at this
  exact x_ld hx (ld_sc s.h this)
theorem y_ldf {α:Type} {_:Flat α} {t sz n k:Nat} {x:Operand} {C:Cells} {v u:Value} {l:List α} {e:α} (hx:ev σ x=fat (vat v sz n) k) [s:ScC P t] (hs:Sl C v l) {ds:List Value} (de:DfC α e) (en:EncL (l.getD n e) ds) (hz:Elt.sz α=sz) (hu:(ds.drop k).take 1=[u]) (hle:C.Le w.cell?) (h1:n<l.length) :
    (execOp (ev σ) ⟨some d,.load t x,ty,pos,af,g⟩).run P w = .ok (.value u) w:=by
  subst hz
  have:=((At.flat hs h1 e).mono hle).fld k 1
  rw [en.h,hu] at this
  exact x_ld hx (ld_sc s.h this)
theorem y_ldA {α:Type} {_:Flat α} {t sz n:Nat} {x:Operand} {C:Cells} {v:Value} {l:List α} {e:α} (hx:ev σ x=vat v sz n) [s:AgC P t] [z:SzC P t sz] (hs:Sl C v l) {ds:List Value} (de:DfC α e) (en:EncL (l.getD n e) ds) (hz:Elt.sz α=sz) (hle:C.Le w.cell?) (h1:n<l.length) :
    (execOp (ev σ) ⟨some d,.load t x,ty,pos,af,g⟩).run P w = .ok (.value (.agg ds.toArray)) w:=by
  subst hz
  have:=(At.flat hs h1 e).mono hle
  rw [en.h] at this
  refine x_ld hx (ld_ag s.h ?_ this)
  rw [z.h,← en.h,Flat.enc_len]
theorem y_ldg {α:Type} {_:Elt α} {t sz n k:Nat} {x:Operand} {C:Cells} {v:Value} {l:List α} {e:α} {f:α->Value} (hx:ev σ x=fat (vat v sz n) k) [s:ScC P t] (hs:Sl C v l) (fc:FldC α k e f) (hz:Elt.sz α=sz) (hle:C.Le w.cell?) (h1:n<l.length) :
    (execOp (ev σ) ⟨some d,.load t x,ty,pos,af,g⟩).run P w = .ok (.value (f (l.getD n e))) w:=by
  subst hz
  exact x_ld hx (ld_sc s.h ((fc.h hs h1).mono hle))
theorem y_ldp {t:TypeId} {x:Operand} {p v:Value} (hx:ev σ x=p) [s:ScC P t] (ha:At w.cell? p [v]) :
    (execOp (ev σ) ⟨some d,.load t x,ty,pos,af,g⟩).run P w = .ok (.value v) w:=x_ld hx (ld_sc s.h ha)
theorem y_len {α:Type} {_:Elt α} {t e sz by':Nat} {z:Value} {x:Operand} {C:Cells} {v:Value} {l:List α} [T:TlC P t e sz by' z] (h:ev σ x=v) (hs:Sl C v l) :
    (execOp (ev σ) ⟨some d,.call ⟨.builtin .len,#[x],#[t]⟩,ty,pos,af,g⟩).run P w = .ok (.value (.int .i64 l.length)) w:=x_lenS T.h.und h hs
theorem y_ix {α:Type} {_:Elt α} {t e sz by' n:Nat} {z:Value} {x y:Operand} {C:Cells} {v:Value} {l:List α} {kd:IntKind} {i:Int} [T:TlC P t e sz by' z] (hx:ev σ x=v) (hy:ev σ y = .int kd i) (ix:IxC i n) (hs:Sl C v l) (hz:Elt.sz α=sz) (h0:0<=i) (h1:i<l.length) :
    (execOp (ev σ) ⟨some d,.indexAddr t x y,ty,pos,af,g⟩).run P w = .ok (.value (vat v sz n)) w:=by
  subst hz
  have:=Sl.ix (w:=w) (kd:=kd) T.h.und T.h.size hs h0 h1
  rw [ix.h] at this
  exact x_ix hx hy this
end
section
variable {P:Program} {all rest:List Oper} {Q:Post} {σ:Env} {w0 w:World} {L L' R:List Chunk} {ty:TypeId} {pos:String} {af:Array Edge}
end
instance {x:Int}:EncL x [I x]:=⟨rfl⟩
instance {x:Bool}:EncL x [B x]:=⟨rfl⟩
/-- A slice that reads as a list. -/
theorem jS {A:Prop} (h:A:=by first | assumption | exact H.os 0 | exact H.os 1 | exact H.os 2 | exact H.os 3 | exact H.os 4 | exact H.os 5 | exact H.os 6 | exact H.os 7 | exact H.os 8 | exact H.os 9 | exact (by assumption:_=true->Sl _ _ _) hg):A:=h
/-- Cells that can be read. -/
theorem jL {A:Prop} (h:A:=by first | exact Reads.at (by assumption) H | exact H.ol 0 | exact H.ol 1 | exact H.ol 2 | exact H.ol 3 | exact H.ol 4 | exact H.ol 5 | exact H.ol 6 | exact H.ol 7 | exact H.ol 8 | exact H.ol 9):A:=h
/-- A bound. -/
theorem jO {A:Prop} (h:A:=by first | omega | (have hx_:=hg; simp at hx_; omega) | (have hx_:=hg; simp at hx_; simp only [hg,Bool.true_eq_false,Bool.false_eq_true,reduceCtorEq,false_or,true_or,Bool.not_true,Bool.not_false] at *; omega) | (simp only [hg,Bool.true_eq_false,Bool.false_eq_true,reduceCtorEq,false_or,true_or,Bool.not_true,Bool.not_false] at *; omega)):A:=h
/-- A guard. -/
theorem jB {A:Prop} (h:A:=by first | exact hb | (rw [hb]; rfl) | simp_all):A:=h
/-- A value under a guard, or none. -/
theorem jG {A:Prop} (h:A:=by first | exact gd_of hg _ | ((conv=>lhs; whnf) <;> rfl)):A:=h
/-- A value. -/
theorem jE {A:Prop} (h:A:=by ((conv=>lhs; whnf) <;> rfl)):A:=h
/-- One operation. -/
theorem jU {A:Prop} (h:A:=by 
    first
      | (apply x_mv; exact jE)
      | (apply x_as; exact jE)
      | (apply y_fab; rfl; exact inferInstance; rfl)
      | (apply y_ldb; rfl; exact H.bq; rfl)
      | (apply x_cmp; rfl; rfl; rfl)
      | (apply y_len; exact jE; exact jS)
      | (apply y_ix; exact jE; rfl; exact inferInstance; exact jS; rfl; exact jO; exact jO)
      | (apply y_fav; rfl; rfl; exact jS; rfl; exact jO)
      | (apply y_faw; rfl; exact inferInstance; rfl; exact jS; rfl; exact jO)
      | (apply y_lds; rfl; exact jS; exact inferInstance; exact inferInstance; rfl; rfl; exact jL; exact jO)
      | (apply y_ldf; rfl; exact jS; exact inferInstance; exact inferInstance; rfl; rfl; exact jL; exact jO)
      | (apply y_ldg; rfl; exact jS; exact inferInstance; rfl; exact jL; exact jO)
      | (apply y_ldA; rfl; exact jS; exact inferInstance; exact inferInstance; rfl; exact jL; exact jO)
      | (apply y_ldp; rfl; exact At.mono (by assumption) jL)
      | (apply x_ari; rfl; rfl; rfl; exact jO)
      | (apply x_ext; rfl; rfl)
      | (apply x_nc; rfl)
      | (apply y_lda; rfl; exact H.bq; exact inferInstance; rfl)
      | (apply y_ldb; rfl; exact (by assumption:Has _ (cBlk _ _ _)).blk H; rfl)
      | (apply x_not; rfl)
      | (apply x_max; rfl; rfl)
      | (apply x_min; rfl; rfl)
      | (apply x_quo; rfl; rfl; exact jO)
      | (apply x_por; rfl; rfl; exact fun hb=>gd_of jB _)
      | (apply x_pand; rfl; exact fun hb=>gd_of jB _; rfl)):A:=h
/-- One operation under a guard. -/
theorem jV {A:Prop} (h:A:=by 
    first
      | (apply x_mv; exact jG)
      | (apply x_as; exact jG)
      | (apply y_fab; exact jG; exact inferInstance; rfl)
      | (apply y_ldb; exact jG; exact H.bq; rfl)
      | (apply x_cmp; exact jG; exact jG; rfl)
      | (apply y_len; exact jG; exact jS)
      | (apply y_ix; exact jG; exact jG; exact inferInstance; exact jS; rfl; exact jO; exact jO)
      | (apply y_fav; exact jG; rfl; exact jS; rfl; exact jO)
      | (apply y_faw; exact jG; exact inferInstance; rfl; exact jS; rfl; exact jO)
      | (apply y_lds; exact jG; exact jS; exact inferInstance; exact inferInstance; rfl; rfl; exact jL; exact jO)
      | (apply y_ldf; exact jG; exact jS; exact inferInstance; exact inferInstance; rfl; rfl; exact jL; exact jO)
      | (apply y_ldg; exact jG; exact jS; exact inferInstance; rfl; exact jL; exact jO)
      | (apply y_ldA; exact jG; exact jS; exact inferInstance; exact inferInstance; rfl; exact jL; exact jO)
      | (apply y_ldp; exact jG; exact At.mono (by assumption) jL)
      | (apply x_ari; exact jG; exact jG; rfl; exact jO)
      | (apply x_ext; exact jG; rfl)
      | (apply x_nc; exact jG)
      | (apply y_lda; exact jG; exact H.bq; exact inferInstance; rfl)
      | (apply y_ldb; exact jG; exact (by assumption:Has _ (cBlk _ _ _)).blk H; rfl)
      | (apply x_not; exact jG)
      | (apply x_max; exact jG; exact jG)
      | (apply x_min; exact jG; exact jG)
      | (apply x_quo; exact jG; exact jG; exact jO)
      | (apply x_por; exact jG; exact jG; exact fun hb=>gd_of jB _)
      | (apply x_pand; exact jG; exact fun hb=>gd_of jB _; exact jG)):A:=h
/-- What is left. -/
structure Left (B:Prop):Prop where
  h:B
/-- How many steps are left. -/
structure Cnt (n:Nat):Prop where
  h:n=n
theorem Cnt.dn {n:Nat} (c:Cnt (n+1)):Cnt n:=⟨rfl⟩
/-- So many plain steps. -/
theorem kg {A B:Prop} (n:Nat) (q:B) (f:Cnt n->Left B->A:=by
    intro cnt q
    (repeat (replace cnt:=Cnt.dn cnt; first
      | (apply s_val; exact jU)
      | refine s_nil ?_
      | refine W.seq ?_
      | refine W.region rfl ?_
      | refine W.skip ?_
      | refine W.block ?_
      | (apply d_q; rfl; (intro w' H; exact jU))
      | (apply t_q; rfl; (intro w' H; exact jU))
      | (apply g_val; (first | exact gy_t rfl | exact gy_f rfl | exact gy_gt rfl rfl | exact gy_gf rfl rfl); (intro hg; exact jV))
      | (apply d_qg; rfl; (first | exact gy_t rfl | exact gy_f rfl | exact gy_gt rfl rfl | exact gy_gf rfl rfl); (intro hg w' H; exact jV))
      | (apply t_qg; rfl; (first | exact gy_t rfl | exact gy_f rfl | exact gy_gt rfl rfl | exact gy_gf rfl rfl); (intro hg w' H; exact jV))
      | refine t_nil ?_
      | refine d_nil ?_))
    exact q.h):A:=f ⟨rfl⟩ ⟨q⟩
end Go.Nm
namespace Go.Nm
open Go
section
variable {P:Program} {w:World} {σ:Env} {d:Nat} {ty:TypeId} {pos:String} {af:Array Edge} {g:Option (Nat × Bool)}
theorem x_pand0 {c x y:Operand} {b:Bool} (hc:ev σ c = .bool b) (hx:b=true->ev σ x = .bool false) (hy:ev σ y = .bool false) :
    (execOp (ev σ) ⟨some d,.pick c x y,ty,pos,af,g⟩).run P w = .ok (.value (.bool false)) w:=by
  have:=x_pand (P:=P) (w:=w) (d:=d) (ty:=ty) (pos:=pos) (af:=af) (g:=g) hc hx hy
  rwa [Bool.and_false] at this
end
end Go.Nm
namespace Go.Nm
open Go
instance {x:Line}:EncL x [I x.src,I x.dst,I x.day,I x.rise,I x.err]:=⟨rfl⟩
instance {x:Leg}:EncL x [I x.line,B x.back]:=⟨rfl⟩
instance {x:Mv}:EncL x [I x.mark,I x.day]:=⟨rfl⟩
instance {x:Span}:EncL x [I x.lo,I x.hi]:=⟨rfl⟩
end Go.Nm
namespace Go.Proofs.YtfdgkdkfbaghpaaGreat
open Go Go.Nm
theorem cf4:CF Tryz.prog 4:=⟨_,Tryz.func4,rfl,by decide +kernel⟩
theorem cf5:CF Tryz.prog 5:=⟨_,Tryz.func5,rfl,by decide +kernel⟩
theorem cf6:CF Tryz.prog 6:=⟨_,Tryz.func6,rfl,by decide +kernel⟩
theorem cf7:CF Tryz.prog 7:=⟨_,Tryz.func7,rfl,by decide +kernel⟩
theorem cf8:CF Tryz.prog 8:=⟨_,Tryz.func8,rfl,by decide +kernel⟩
theorem cf9:CF Tryz.prog 9:=⟨_,Tryz.func9,rfl,by decide +kernel⟩
theorem cf10:CF Tryz.prog 10:=⟨_,Tryz.func10,rfl,by decide +kernel⟩
theorem cf11:CF Tryz.prog 11:=⟨_,Tryz.func11,rfl,by decide +kernel⟩
theorem cf12:CF Tryz.prog 12:=⟨_,Tryz.func12,rfl,by decide +kernel⟩
theorem cf13:CF Tryz.prog 13:=⟨_,Tryz.func13,rfl,by decide +kernel⟩
theorem cf14:CF Tryz.prog 14:=⟨_,Tryz.func14,rfl,by decide +kernel⟩
theorem cf15:CF Tryz.prog 15:=⟨_,Tryz.func15,rfl,by decide +kernel⟩
theorem cf16:CF Tryz.prog 16:=⟨_,Tryz.func16,rfl,by decide +kernel⟩
theorem cf17:CF Tryz.prog 17:=⟨_,Tryz.func17,rfl,by decide +kernel⟩
theorem cf18:CF Tryz.prog 18:=⟨_,Tryz.func18,rfl,by decide +kernel⟩
theorem cf19:CF Tryz.prog 19:=⟨_,Tryz.func19,rfl,by decide +kernel⟩
theorem cf20:CF Tryz.prog 20:=⟨_,Tryz.func20,rfl,by decide +kernel⟩
theorem cf21:CF Tryz.prog 21:=⟨_,Tryz.func21,rfl,by decide +kernel⟩
theorem cf22:CF Tryz.prog 22:=⟨_,Tryz.func22,rfl,by decide +kernel⟩
theorem cf23:CF Tryz.prog 23:=⟨_,Tryz.func23,rfl,by decide +kernel⟩
theorem cf24:CF Tryz.prog 24:=⟨_,Tryz.func24,rfl,by decide +kernel⟩
theorem cf25:CF Tryz.prog 25:=⟨_,Tryz.func25,rfl,by decide +kernel⟩
theorem cf26:CF Tryz.prog 26:=⟨_,Tryz.func26,rfl,by decide +kernel⟩
theorem cf27:CF Tryz.prog 27:=⟨_,Tryz.func27,rfl,by decide +kernel⟩
theorem cf28:CF Tryz.prog 28:=⟨_,Tryz.func28,rfl,by decide +kernel⟩
theorem cf29:CF Tryz.prog 29:=⟨_,Tryz.func29,rfl,by decide +kernel⟩
theorem cf30:CF Tryz.prog 30:=⟨_,Tryz.func30,rfl,by decide +kernel⟩
theorem cf31:CF Tryz.prog 31:=⟨_,Tryz.func31,rfl,by decide +kernel⟩
theorem cf32:CF Tryz.prog 32:=⟨_,Tryz.func32,rfl,by decide +kernel⟩
theorem cf33:CF Tryz.prog 33:=⟨_,Tryz.func33,rfl,by decide +kernel⟩
theorem cf34:CF Tryz.prog 34:=⟨_,Tryz.func34,rfl,by decide +kernel⟩
theorem cf35:CF Tryz.prog 35:=⟨_,Tryz.func35,rfl,by decide +kernel⟩
theorem cf36:CF Tryz.prog 36:=⟨_,Tryz.func36,rfl,by decide +kernel⟩
theorem cf37:CF Tryz.prog 37:=⟨_,Tryz.func37,rfl,by decide +kernel⟩
theorem cf38:CF Tryz.prog 38:=⟨_,Tryz.func38,rfl,by decide +kernel⟩
theorem cf39:CF Tryz.prog 39:=⟨_,Tryz.func39,rfl,by decide +kernel⟩
theorem cf40:CF Tryz.prog 40:=⟨_,Tryz.func40,rfl,by decide +kernel⟩
theorem cf41:CF Tryz.prog 41:=⟨_,Tryz.func41,rfl,by decide +kernel⟩
theorem cf42:CF Tryz.prog 42:=⟨_,Tryz.func42,rfl,by decide +kernel⟩
theorem cf43:CF Tryz.prog 43:=⟨_,Tryz.func43,rfl,by decide +kernel⟩
theorem cf44:CF Tryz.prog 44:=⟨_,Tryz.func44,rfl,by decide +kernel⟩
theorem cf45:CF Tryz.prog 45:=⟨_,Tryz.func45,rfl,by decide +kernel⟩
theorem cf46:CF Tryz.prog 46:=⟨_,Tryz.func46,rfl,by decide +kernel⟩
theorem cf47:CF Tryz.prog 47:=⟨_,Tryz.func47,rfl,by decide +kernel⟩
theorem cf48:CF Tryz.prog 48:=⟨_,Tryz.func48,rfl,by decide +kernel⟩
theorem cf49:CF Tryz.prog 49:=⟨_,Tryz.func49,rfl,by decide +kernel⟩
theorem cf50:CF Tryz.prog 50:=⟨_,Tryz.func50,rfl,by decide +kernel⟩
theorem cf51:CF Tryz.prog 51:=⟨_,Tryz.func51,rfl,by decide +kernel⟩
theorem cf52:CF Tryz.prog 52:=⟨_,Tryz.func52,rfl,by decide +kernel⟩
theorem cf53:CF Tryz.prog 53:=⟨_,Tryz.func53,rfl,by decide +kernel⟩
theorem cf56:CF Tryz.prog 56:=⟨_,Tryz.func56,rfl,by decide +kernel⟩
theorem cf57:CF Tryz.prog 57:=⟨_,Tryz.func57,rfl,by decide +kernel⟩
theorem cf58:CF Tryz.prog 58:=⟨_,Tryz.func58,rfl,by decide +kernel⟩
theorem cf59:CF Tryz.prog 59:=⟨_,Tryz.func59,rfl,by decide +kernel⟩
theorem cf60:CF Tryz.prog 60:=⟨_,Tryz.func60,rfl,by decide +kernel⟩
theorem cf61:CF Tryz.prog 61:=⟨_,Tryz.func61,rfl,by decide +kernel⟩
theorem cf62:CF Tryz.prog 62:=⟨_,Tryz.func62,rfl,by decide +kernel⟩
theorem cf63:CF Tryz.prog 63:=⟨_,Tryz.func63,rfl,by decide +kernel⟩
theorem cf64:CF Tryz.prog 64:=⟨_,Tryz.func64,rfl,by decide +kernel⟩
theorem cf65:CF Tryz.prog 65:=⟨_,Tryz.func65,rfl,by decide +kernel⟩
theorem cf66:CF Tryz.prog 66:=⟨_,Tryz.func66,rfl,by decide +kernel⟩
theorem cf67:CF Tryz.prog 67:=⟨_,Tryz.func67,rfl,by decide +kernel⟩
theorem cf68:CF Tryz.prog 68:=⟨_,Tryz.func68,rfl,by decide +kernel⟩
theorem cf69:CF Tryz.prog 69:=⟨_,Tryz.func69,rfl,by decide +kernel⟩
theorem cf71:CF Tryz.prog 71:=⟨_,Tryz.func71,rfl,by decide +kernel⟩
theorem cf72:CF Tryz.prog 72:=⟨_,Tryz.func72,rfl,by decide +kernel⟩
theorem cf73:CF Tryz.prog 73:=⟨_,Tryz.func73,rfl,by decide +kernel⟩
theorem cf74:CF Tryz.prog 74:=⟨_,Tryz.func74,rfl,by decide +kernel⟩
theorem cf75:CF Tryz.prog 75:=⟨_,Tryz.func75,rfl,by decide +kernel⟩
theorem cf76:CF Tryz.prog 76:=⟨_,Tryz.func76,rfl,by decide +kernel⟩
theorem cf77:CF Tryz.prog 77:=⟨_,Tryz.func77,rfl,by decide +kernel⟩
theorem cf78:CF Tryz.prog 78:=⟨_,Tryz.func78,rfl,by decide +kernel⟩
theorem cf79:CF Tryz.prog 79:=⟨_,Tryz.func79,rfl,by decide +kernel⟩
theorem cf80:CF Tryz.prog 80:=⟨_,Tryz.func80,rfl,by decide +kernel⟩
theorem cf81:CF Tryz.prog 81:=⟨_,Tryz.func81,rfl,by decide +kernel⟩
theorem cf82:CF Tryz.prog 82:=⟨_,Tryz.func82,rfl,by decide +kernel⟩
theorem cf83:CF Tryz.prog 83:=⟨_,Tryz.func83,rfl,by decide +kernel⟩
theorem cf84:CF Tryz.prog 84:=⟨_,Tryz.func84,rfl,by decide +kernel⟩
theorem cf85:CF Tryz.prog 85:=⟨_,Tryz.func85,rfl,by decide +kernel⟩
theorem cf86:CF Tryz.prog 86:=⟨_,Tryz.func86,rfl,by decide +kernel⟩
theorem cf90:CF Tryz.prog 90:=⟨_,Tryz.func90,rfl,by decide +kernel⟩
theorem T22:SlT Tryz.prog 22 3 1 8 (I 0):=⟨Tryz.underlying22,by kernel_rfl,rfl,by decide⟩
theorem T23:SlT Tryz.prog 23 34 5 40 (.agg #[I 0,I 0,I 0,I 0,I 0]):=⟨Tryz.underlying23,by kernel_rfl,rfl,by decide⟩
theorem T29:SlT Tryz.prog 29 28 2 16 (.agg #[I 0,B false]):=⟨Tryz.underlying29,by kernel_rfl,rfl,by decide⟩
theorem T35:SlT Tryz.prog 35 32 1 8 (.pointer none):=⟨Tryz.underlying35,by kernel_rfl,rfl,by decide⟩
theorem T51:SlT Tryz.prog 51 106 5 40 (.agg #[I 0,I 0,I 0,I 0,I 0]):=⟨Tryz.underlying51,by kernel_rfl,rfl,by decide⟩
theorem T70:SlT Tryz.prog 70 120 2 16 (.agg #[I 0,B false]):=⟨Tryz.underlying70,by kernel_rfl,rfl,by decide⟩
theorem T81:SlT Tryz.prog 81 31 2 16 (.agg #[I 0,I 0]):=⟨Tryz.underlying81,by kernel_rfl,rfl,by decide⟩
theorem T84:SlT Tryz.prog 84 79 2 16 (.agg #[I 0,I 0]):=⟨Tryz.underlying84,by kernel_rfl,rfl,by decide⟩
theorem T115:SlT Tryz.prog 115 22 1 24 (.slice none 0 0):=⟨Tryz.underlying115,by kernel_rfl,rfl,by decide⟩
theorem Sc3:isSc (Tryz.prog.underlying 3)=true:=by rw [Tryz.underlying3]; rfl
theorem Sc4:isSc (Tryz.prog.underlying 4)=true:=by rw [Tryz.underlying4]; rfl
theorem Sc22:isSc (Tryz.prog.underlying 22)=true:=by rw [Tryz.underlying22]; rfl
theorem Sc23:isSc (Tryz.prog.underlying 23)=true:=by rw [Tryz.underlying23]; rfl
theorem Sc32:isSc (Tryz.prog.underlying 32)=true:=by rw [Tryz.underlying32]; rfl
theorem Sc51:isSc (Tryz.prog.underlying 51)=true:=by rw [Tryz.underlying51]; rfl
theorem Sc90:isSc (Tryz.prog.underlying 90)=true:=by rw [Tryz.underlying90]; rfl
theorem Sc92:isSc (Tryz.prog.underlying 92)=true:=by rw [Tryz.underlying92]; rfl
theorem Sc93:isSc (Tryz.prog.underlying 93)=true:=by rw [Tryz.underlying93]; rfl
theorem Sc118:isSc (Tryz.prog.underlying 118)=true:=by rw [Tryz.underlying118]; rfl
theorem Sc121:isSc (Tryz.prog.underlying 121)=true:=by rw [Tryz.underlying121]; rfl
theorem Sc129:isSc (Tryz.prog.underlying 129)=true:=by rw [Tryz.underlying129]; rfl
theorem Sc137:isSc (Tryz.prog.underlying 137)=true:=by rw [Tryz.underlying137]; rfl
theorem Sc147:isSc (Tryz.prog.underlying 147)=true:=by rw [Tryz.underlying147]; rfl
theorem Sc148:isSc (Tryz.prog.underlying 148)=true:=by rw [Tryz.underlying148]; rfl
theorem Sz3:(Tryz.prog.info? 3).map (·.size)=some 1:=by kernel_rfl
theorem Sz4:(Tryz.prog.info? 4).map (·.size)=some 1:=by kernel_rfl
theorem Sz23:(Tryz.prog.info? 23).map (·.size)=some 1:=by kernel_rfl
theorem Ag25:isAg (Tryz.prog.underlying 25)=true:=by rw [Tryz.underlying25]; rfl
theorem Sz25:(Tryz.prog.info? 25).map (·.size)=some 2:=by kernel_rfl
theorem Ag28:isAg (Tryz.prog.underlying 28)=true:=by rw [Tryz.underlying28]; rfl
theorem Sz28:(Tryz.prog.info? 28).map (·.size)=some 2:=by kernel_rfl
theorem Ag31:isAg (Tryz.prog.underlying 31)=true:=by rw [Tryz.underlying31]; rfl
theorem Sz31:(Tryz.prog.info? 31).map (·.size)=some 2:=by kernel_rfl
theorem Ag34:isAg (Tryz.prog.underlying 34)=true:=by rw [Tryz.underlying34]; rfl
theorem Sz34:(Tryz.prog.info? 34).map (·.size)=some 5:=by kernel_rfl
theorem Ag42:isAg (Tryz.prog.underlying 42)=true:=by rw [Tryz.underlying42]; rfl
theorem Sz42:(Tryz.prog.info? 42).map (·.size)=some 2:=by kernel_rfl
theorem Sz51:(Tryz.prog.info? 51).map (·.size)=some 1:=by kernel_rfl
theorem Ag53:isAg (Tryz.prog.underlying 53)=true:=by rw [Tryz.underlying53]; rfl
theorem Sz53:(Tryz.prog.info? 53).map (·.size)=some 2:=by kernel_rfl
theorem Ag79:isAg (Tryz.prog.underlying 79)=true:=by rw [Tryz.underlying79]; rfl
theorem Sz79:(Tryz.prog.info? 79).map (·.size)=some 2:=by kernel_rfl
theorem Sz90:(Tryz.prog.info? 90).map (·.size)=some 1:=by kernel_rfl
theorem Sz93:(Tryz.prog.info? 93).map (·.size)=some 1:=by kernel_rfl
theorem Ag96:isAg (Tryz.prog.underlying 96)=true:=by rw [Tryz.underlying96]; rfl
theorem Sz96:(Tryz.prog.info? 96).map (·.size)=some 13:=by kernel_rfl
theorem Ag98:isAg (Tryz.prog.underlying 98)=true:=by rw [Tryz.underlying98]; rfl
theorem Sz98:(Tryz.prog.info? 98).map (·.size)=some 169:=by kernel_rfl
theorem Ag99:isAg (Tryz.prog.underlying 99)=true:=by rw [Tryz.underlying99]; rfl
theorem Sz99:(Tryz.prog.info? 99).map (·.size)=some 26:=by kernel_rfl
theorem Ag100:isAg (Tryz.prog.underlying 100)=true:=by rw [Tryz.underlying100]; rfl
theorem Sz100:(Tryz.prog.info? 100).map (·.size)=some 338:=by kernel_rfl
theorem Ag106:isAg (Tryz.prog.underlying 106)=true:=by rw [Tryz.underlying106]; rfl
theorem Sz106:(Tryz.prog.info? 106).map (·.size)=some 5:=by kernel_rfl
theorem Sz121:(Tryz.prog.info? 121).map (·.size)=some 1:=by kernel_rfl
theorem Ag131:isAg (Tryz.prog.underlying 131)=true:=by rw [Tryz.underlying131]; rfl
theorem Sz131:(Tryz.prog.info? 131).map (·.size)=some 1:=by kernel_rfl
theorem Ag133:isAg (Tryz.prog.underlying 133)=true:=by rw [Tryz.underlying133]; rfl
theorem Sz133:(Tryz.prog.info? 133).map (·.size)=some 13:=by kernel_rfl
theorem Sz137:(Tryz.prog.info? 137).map (·.size)=some 1:=by kernel_rfl
theorem Sz147:(Tryz.prog.info? 147).map (·.size)=some 1:=by kernel_rfl
theorem Sz148:(Tryz.prog.info? 148).map (·.size)=some 1:=by kernel_rfl
theorem Fd25_0:(Tryz.prog.underlying 25).bind (fun d=>match d with | .struct fs=>(fs[0]?).map (fun f=>(f.offset,f.type)) | _=>none)=some (0,3):=by rw [Tryz.underlying25]; rfl
theorem Fd25_1:(Tryz.prog.underlying 25).bind (fun d=>match d with | .struct fs=>(fs[1]?).map (fun f=>(f.offset,f.type)) | _=>none)=some (1,23):=by rw [Tryz.underlying25]; rfl
theorem Fd28_0:(Tryz.prog.underlying 28).bind (fun d=>match d with | .struct fs=>(fs[0]?).map (fun f=>(f.offset,f.type)) | _=>none)=some (0,3):=by rw [Tryz.underlying28]; rfl
theorem Fd28_1:(Tryz.prog.underlying 28).bind (fun d=>match d with | .struct fs=>(fs[1]?).map (fun f=>(f.offset,f.type)) | _=>none)=some (1,4):=by rw [Tryz.underlying28]; rfl
theorem Fd31_0:(Tryz.prog.underlying 31).bind (fun d=>match d with | .struct fs=>(fs[0]?).map (fun f=>(f.offset,f.type)) | _=>none)=some (0,3):=by rw [Tryz.underlying31]; rfl
theorem Fd31_1:(Tryz.prog.underlying 31).bind (fun d=>match d with | .struct fs=>(fs[1]?).map (fun f=>(f.offset,f.type)) | _=>none)=some (1,3):=by rw [Tryz.underlying31]; rfl
theorem Fd34_0:(Tryz.prog.underlying 34).bind (fun d=>match d with | .struct fs=>(fs[0]?).map (fun f=>(f.offset,f.type)) | _=>none)=some (0,3):=by rw [Tryz.underlying34]; rfl
theorem Fd34_1:(Tryz.prog.underlying 34).bind (fun d=>match d with | .struct fs=>(fs[1]?).map (fun f=>(f.offset,f.type)) | _=>none)=some (1,3):=by rw [Tryz.underlying34]; rfl
theorem Fd34_2:(Tryz.prog.underlying 34).bind (fun d=>match d with | .struct fs=>(fs[2]?).map (fun f=>(f.offset,f.type)) | _=>none)=some (2,3):=by rw [Tryz.underlying34]; rfl
theorem Fd34_3:(Tryz.prog.underlying 34).bind (fun d=>match d with | .struct fs=>(fs[3]?).map (fun f=>(f.offset,f.type)) | _=>none)=some (3,3):=by rw [Tryz.underlying34]; rfl
theorem Fd34_4:(Tryz.prog.underlying 34).bind (fun d=>match d with | .struct fs=>(fs[4]?).map (fun f=>(f.offset,f.type)) | _=>none)=some (4,3):=by rw [Tryz.underlying34]; rfl
theorem Fd42_1:(Tryz.prog.underlying 42).bind (fun d=>match d with | .struct fs=>(fs[1]?).map (fun f=>(f.offset,f.type)) | _=>none)=some (1,3):=by rw [Tryz.underlying42]; rfl
theorem Fd53_0:(Tryz.prog.underlying 53).bind (fun d=>match d with | .struct fs=>(fs[0]?).map (fun f=>(f.offset,f.type)) | _=>none)=some (0,3):=by rw [Tryz.underlying53]; rfl
theorem Fd53_1:(Tryz.prog.underlying 53).bind (fun d=>match d with | .struct fs=>(fs[1]?).map (fun f=>(f.offset,f.type)) | _=>none)=some (1,51):=by rw [Tryz.underlying53]; rfl
theorem Fd79_0:(Tryz.prog.underlying 79).bind (fun d=>match d with | .struct fs=>(fs[0]?).map (fun f=>(f.offset,f.type)) | _=>none)=some (0,3):=by rw [Tryz.underlying79]; rfl
theorem Fd79_1:(Tryz.prog.underlying 79).bind (fun d=>match d with | .struct fs=>(fs[1]?).map (fun f=>(f.offset,f.type)) | _=>none)=some (1,3):=by rw [Tryz.underlying79]; rfl
theorem Fd102_0:(Tryz.prog.underlying 102).bind (fun d=>match d with | .struct fs=>(fs[0]?).map (fun f=>(f.offset,f.type)) | _=>none)=some (0,25):=by rw [Tryz.underlying102]; rfl
theorem Fd102_1:(Tryz.prog.underlying 102).bind (fun d=>match d with | .struct fs=>(fs[1]?).map (fun f=>(f.offset,f.type)) | _=>none)=some (2,98):=by rw [Tryz.underlying102]; rfl
theorem Fd102_2:(Tryz.prog.underlying 102).bind (fun d=>match d with | .struct fs=>(fs[2]?).map (fun f=>(f.offset,f.type)) | _=>none)=some (171,100):=by rw [Tryz.underlying102]; rfl
theorem Fd106_0:(Tryz.prog.underlying 106).bind (fun d=>match d with | .struct fs=>(fs[0]?).map (fun f=>(f.offset,f.type)) | _=>none)=some (0,3):=by rw [Tryz.underlying106]; rfl
theorem Fd106_1:(Tryz.prog.underlying 106).bind (fun d=>match d with | .struct fs=>(fs[1]?).map (fun f=>(f.offset,f.type)) | _=>none)=some (1,3):=by rw [Tryz.underlying106]; rfl
theorem Fd106_2:(Tryz.prog.underlying 106).bind (fun d=>match d with | .struct fs=>(fs[2]?).map (fun f=>(f.offset,f.type)) | _=>none)=some (2,3):=by rw [Tryz.underlying106]; rfl
theorem Fd106_3:(Tryz.prog.underlying 106).bind (fun d=>match d with | .struct fs=>(fs[3]?).map (fun f=>(f.offset,f.type)) | _=>none)=some (3,3):=by rw [Tryz.underlying106]; rfl
theorem Fd106_4:(Tryz.prog.underlying 106).bind (fun d=>match d with | .struct fs=>(fs[4]?).map (fun f=>(f.offset,f.type)) | _=>none)=some (4,3):=by rw [Tryz.underlying106]; rfl
theorem Fd120_0:(Tryz.prog.underlying 120).bind (fun d=>match d with | .struct fs=>(fs[0]?).map (fun f=>(f.offset,f.type)) | _=>none)=some (0,3):=by rw [Tryz.underlying120]; rfl
theorem Fd120_1:(Tryz.prog.underlying 120).bind (fun d=>match d with | .struct fs=>(fs[1]?).map (fun f=>(f.offset,f.type)) | _=>none)=some (1,4):=by rw [Tryz.underlying120]; rfl
theorem Fd131_0:(Tryz.prog.underlying 131).bind (fun d=>match d with | .struct fs=>(fs[0]?).map (fun f=>(f.offset,f.type)) | _=>none)=some (0,129):=by rw [Tryz.underlying131]; rfl
theorem Fd135_0:(Tryz.prog.underlying 135).bind (fun d=>match d with | .struct fs=>(fs[0]?).map (fun f=>(f.offset,f.type)) | _=>none)=some (0,96):=by rw [Tryz.underlying135]; rfl
theorem Fd135_1:(Tryz.prog.underlying 135).bind (fun d=>match d with | .struct fs=>(fs[1]?).map (fun f=>(f.offset,f.type)) | _=>none)=some (13,99):=by rw [Tryz.underlying135]; rfl
theorem Fd135_2:(Tryz.prog.underlying 135).bind (fun d=>match d with | .struct fs=>(fs[2]?).map (fun f=>(f.offset,f.type)) | _=>none)=some (39,133):=by rw [Tryz.underlying135]; rfl
theorem Al3:(Tryz.prog.info? 3).map (·.zero)=some (some (I 0)):=by kernel_rfl
theorem Al4:(Tryz.prog.info? 4).map (·.zero)=some (some (B false)):=by kernel_rfl
theorem Al25:(Tryz.prog.info? 25).map (·.zero)=some (some (.agg #[I 0,.slice none 0 0])):=by kernel_rfl
theorem Al28:(Tryz.prog.info? 28).map (·.zero)=some (some (.agg #[I 0,B false])):=by kernel_rfl
theorem Al31:(Tryz.prog.info? 31).map (·.zero)=some (some (.agg #[I 0,I 0])):=by kernel_rfl
theorem Al34:(Tryz.prog.info? 34).map (·.zero)=some (some (.agg #[I 0,I 0,I 0,I 0,I 0])):=by kernel_rfl
theorem Al42:(Tryz.prog.info? 42).map (·.zero)=some (some (.agg #[I 0,I 0])):=by kernel_rfl
theorem Al53:(Tryz.prog.info? 53).map (·.zero)=some (some (.agg #[I 0,.slice none 0 0])):=by kernel_rfl
theorem Al79:(Tryz.prog.info? 79).map (·.zero)=some (some (.agg #[I 0,I 0])):=by kernel_rfl
theorem Al90:(Tryz.prog.info? 90).map (·.zero)=some (some (.nilFunc)):=by kernel_rfl
theorem Al93:(Tryz.prog.info? 93).map (·.zero)=some (some (.pointer none)):=by kernel_rfl
theorem Al106:(Tryz.prog.info? 106).map (·.zero)=some (some (.agg #[I 0,I 0,I 0,I 0,I 0])):=by kernel_rfl
theorem Al121:(Tryz.prog.info? 121).map (·.zero)=some (some (.nilFunc)):=by kernel_rfl
theorem Al131:(Tryz.prog.info? 131).map (·.zero)=some (some (.agg #[.nilFunc])):=by kernel_rfl
theorem Al137:(Tryz.prog.info? 137).map (·.zero)=some (some (.map none)):=by kernel_rfl
theorem Al147:(Tryz.prog.info? 147).map (·.zero)=some (some (.pointer none)):=by kernel_rfl
theorem Al148:(Tryz.prog.info? 148).map (·.zero)=some (some (.pointer none)):=by kernel_rfl
theorem Bd25 {fs:Array Field} (h:Tryz.prog.underlying 25=some (.struct fs)):fs.toList.mapM (fun f=>(Tryz.prog.info? f.type).map fun i=>(f.offset,i.size))=some [(0,1),(1,1)]:=by rw [Tryz.underlying25] at h; simp only [Option.some.injEq,TypeDesc.struct.injEq] at h; subst h; kernel_rfl
theorem Bd28 {fs:Array Field} (h:Tryz.prog.underlying 28=some (.struct fs)):fs.toList.mapM (fun f=>(Tryz.prog.info? f.type).map fun i=>(f.offset,i.size))=some [(0,1),(1,1)]:=by rw [Tryz.underlying28] at h; simp only [Option.some.injEq,TypeDesc.struct.injEq] at h; subst h; kernel_rfl
theorem Bd31 {fs:Array Field} (h:Tryz.prog.underlying 31=some (.struct fs)):fs.toList.mapM (fun f=>(Tryz.prog.info? f.type).map fun i=>(f.offset,i.size))=some [(0,1),(1,1)]:=by rw [Tryz.underlying31] at h; simp only [Option.some.injEq,TypeDesc.struct.injEq] at h; subst h; kernel_rfl
theorem Bd34 {fs:Array Field} (h:Tryz.prog.underlying 34=some (.struct fs)):fs.toList.mapM (fun f=>(Tryz.prog.info? f.type).map fun i=>(f.offset,i.size))=some [(0,1),(1,1),(2,1),(3,1),(4,1)]:=by rw [Tryz.underlying34] at h; simp only [Option.some.injEq,TypeDesc.struct.injEq] at h; subst h; kernel_rfl
theorem Bd42 {fs:Array Field} (h:Tryz.prog.underlying 42=some (.struct fs)):fs.toList.mapM (fun f=>(Tryz.prog.info? f.type).map fun i=>(f.offset,i.size))=some [(0,1),(1,1)]:=by rw [Tryz.underlying42] at h; simp only [Option.some.injEq,TypeDesc.struct.injEq] at h; subst h; kernel_rfl
theorem Bd53 {fs:Array Field} (h:Tryz.prog.underlying 53=some (.struct fs)):fs.toList.mapM (fun f=>(Tryz.prog.info? f.type).map fun i=>(f.offset,i.size))=some [(0,1),(1,1)]:=by rw [Tryz.underlying53] at h; simp only [Option.some.injEq,TypeDesc.struct.injEq] at h; subst h; kernel_rfl
theorem Bd79 {fs:Array Field} (h:Tryz.prog.underlying 79=some (.struct fs)):fs.toList.mapM (fun f=>(Tryz.prog.info? f.type).map fun i=>(f.offset,i.size))=some [(0,1),(1,1)]:=by rw [Tryz.underlying79] at h; simp only [Option.some.injEq,TypeDesc.struct.injEq] at h; subst h; kernel_rfl
theorem Bd102 {fs:Array Field} (h:Tryz.prog.underlying 102=some (.struct fs)):fs.toList.mapM (fun f=>(Tryz.prog.info? f.type).map fun i=>(f.offset,i.size))=some [(0,2),(2,169),(171,338)]:=by rw [Tryz.underlying102] at h; simp only [Option.some.injEq,TypeDesc.struct.injEq] at h; subst h; kernel_rfl
theorem Bd131 {fs:Array Field} (h:Tryz.prog.underlying 131=some (.struct fs)):fs.toList.mapM (fun f=>(Tryz.prog.info? f.type).map fun i=>(f.offset,i.size))=some [(0,1)]:=by rw [Tryz.underlying131] at h; simp only [Option.some.injEq,TypeDesc.struct.injEq] at h; subst h; kernel_rfl
theorem mixed:Tryz.prog.follows .mixedOrders=true:=by kernel_rfl
theorem Al102:(Tryz.prog.info? 102).map (·.zero)=some (some (.agg (List.flatten [[I 0,.slice none 0 0],encF (α:=Int) (List.replicate 169 0),encF (α:=Leg) (List.replicate 169 default)]).toArray)):=by kernel_rfl
theorem Al135:(Tryz.prog.info? 135).map (·.zero)=some (some (.agg (List.flatten [[],encF (α:=Int) (List.replicate 13 0),encF (α:=Leg) (List.replicate 13 default),encF (α:=Bool) (List.replicate 13 false)]).toArray)):=by kernel_rfl

instance:TlC Tryz.prog 22 3 1 8 (I 0):=⟨T22⟩
instance:TlC Tryz.prog 23 34 5 40 (.agg #[I 0,I 0,I 0,I 0,I 0]):=⟨T23⟩
instance:TlC Tryz.prog 29 28 2 16 (.agg #[I 0,B false]):=⟨T29⟩
instance:TlC Tryz.prog 35 32 1 8 (.pointer none):=⟨T35⟩
instance:TlC Tryz.prog 51 106 5 40 (.agg #[I 0,I 0,I 0,I 0,I 0]):=⟨T51⟩
instance:TlC Tryz.prog 70 120 2 16 (.agg #[I 0,B false]):=⟨T70⟩
instance:TlC Tryz.prog 81 31 2 16 (.agg #[I 0,I 0]):=⟨T81⟩
instance:TlC Tryz.prog 84 79 2 16 (.agg #[I 0,I 0]):=⟨T84⟩
instance:TlC Tryz.prog 115 22 1 24 (.slice none 0 0):=⟨T115⟩
instance:ScC Tryz.prog 3:=⟨Sc3⟩
instance:ScC Tryz.prog 4:=⟨Sc4⟩
instance:ScC Tryz.prog 22:=⟨Sc22⟩
instance:ScC Tryz.prog 23:=⟨Sc23⟩
instance:ScC Tryz.prog 32:=⟨Sc32⟩
instance:ScC Tryz.prog 51:=⟨Sc51⟩
instance:ScC Tryz.prog 90:=⟨Sc90⟩
instance:ScC Tryz.prog 92:=⟨Sc92⟩
instance:ScC Tryz.prog 93:=⟨Sc93⟩
instance:ScC Tryz.prog 118:=⟨Sc118⟩
instance:ScC Tryz.prog 121:=⟨Sc121⟩
instance:ScC Tryz.prog 129:=⟨Sc129⟩
instance:ScC Tryz.prog 137:=⟨Sc137⟩
instance:ScC Tryz.prog 147:=⟨Sc147⟩
instance:ScC Tryz.prog 148:=⟨Sc148⟩
instance:SzC Tryz.prog 3 1:=⟨Sz3⟩
instance:SzC Tryz.prog 4 1:=⟨Sz4⟩
instance:SzC Tryz.prog 23 1:=⟨Sz23⟩
instance:AgC Tryz.prog 25:=⟨Ag25⟩
instance:SzC Tryz.prog 25 2:=⟨Sz25⟩
instance:AgC Tryz.prog 28:=⟨Ag28⟩
instance:SzC Tryz.prog 28 2:=⟨Sz28⟩
instance:AgC Tryz.prog 31:=⟨Ag31⟩
instance:SzC Tryz.prog 31 2:=⟨Sz31⟩
instance:AgC Tryz.prog 34:=⟨Ag34⟩
instance:SzC Tryz.prog 34 5:=⟨Sz34⟩
instance:AgC Tryz.prog 42:=⟨Ag42⟩
instance:SzC Tryz.prog 42 2:=⟨Sz42⟩
instance:SzC Tryz.prog 51 1:=⟨Sz51⟩
instance:AgC Tryz.prog 53:=⟨Ag53⟩
instance:SzC Tryz.prog 53 2:=⟨Sz53⟩
instance:AgC Tryz.prog 79:=⟨Ag79⟩
instance:SzC Tryz.prog 79 2:=⟨Sz79⟩
instance:SzC Tryz.prog 90 1:=⟨Sz90⟩
instance:SzC Tryz.prog 93 1:=⟨Sz93⟩
instance:AgC Tryz.prog 96:=⟨Ag96⟩
instance:SzC Tryz.prog 96 13:=⟨Sz96⟩
instance:AgC Tryz.prog 98:=⟨Ag98⟩
instance:SzC Tryz.prog 98 169:=⟨Sz98⟩
instance:AgC Tryz.prog 99:=⟨Ag99⟩
instance:SzC Tryz.prog 99 26:=⟨Sz99⟩
instance:AgC Tryz.prog 100:=⟨Ag100⟩
instance:SzC Tryz.prog 100 338:=⟨Sz100⟩
instance:AgC Tryz.prog 106:=⟨Ag106⟩
instance:SzC Tryz.prog 106 5:=⟨Sz106⟩
instance:SzC Tryz.prog 121 1:=⟨Sz121⟩
instance:AgC Tryz.prog 131:=⟨Ag131⟩
instance:SzC Tryz.prog 131 1:=⟨Sz131⟩
instance:AgC Tryz.prog 133:=⟨Ag133⟩
instance:SzC Tryz.prog 133 13:=⟨Sz133⟩
instance:SzC Tryz.prog 137 1:=⟨Sz137⟩
instance:SzC Tryz.prog 147 1:=⟨Sz147⟩
instance:SzC Tryz.prog 148 1:=⟨Sz148⟩
instance:FdC Tryz.prog 25 0 0 3:=⟨Fd25_0⟩
instance:FdC Tryz.prog 25 1 1 23:=⟨Fd25_1⟩
instance:FdC Tryz.prog 28 0 0 3:=⟨Fd28_0⟩
instance:FdC Tryz.prog 28 1 1 4:=⟨Fd28_1⟩
instance:FdC Tryz.prog 31 0 0 3:=⟨Fd31_0⟩
instance:FdC Tryz.prog 31 1 1 3:=⟨Fd31_1⟩
instance:FdC Tryz.prog 34 0 0 3:=⟨Fd34_0⟩
instance:FdC Tryz.prog 34 1 1 3:=⟨Fd34_1⟩
instance:FdC Tryz.prog 34 2 2 3:=⟨Fd34_2⟩
instance:FdC Tryz.prog 34 3 3 3:=⟨Fd34_3⟩
instance:FdC Tryz.prog 34 4 4 3:=⟨Fd34_4⟩
instance:FdC Tryz.prog 42 1 1 3:=⟨Fd42_1⟩
instance:FdC Tryz.prog 53 0 0 3:=⟨Fd53_0⟩
instance:FdC Tryz.prog 53 1 1 51:=⟨Fd53_1⟩
instance:FdC Tryz.prog 79 0 0 3:=⟨Fd79_0⟩
instance:FdC Tryz.prog 79 1 1 3:=⟨Fd79_1⟩
instance:FdC Tryz.prog 102 0 0 25:=⟨Fd102_0⟩
instance:FdC Tryz.prog 102 1 2 98:=⟨Fd102_1⟩
instance:FdC Tryz.prog 102 2 171 100:=⟨Fd102_2⟩
instance:FdC Tryz.prog 106 0 0 3:=⟨Fd106_0⟩
instance:FdC Tryz.prog 106 1 1 3:=⟨Fd106_1⟩
instance:FdC Tryz.prog 106 2 2 3:=⟨Fd106_2⟩
instance:FdC Tryz.prog 106 3 3 3:=⟨Fd106_3⟩
instance:FdC Tryz.prog 106 4 4 3:=⟨Fd106_4⟩
instance:FdC Tryz.prog 120 0 0 3:=⟨Fd120_0⟩
instance:FdC Tryz.prog 120 1 1 4:=⟨Fd120_1⟩
instance:FdC Tryz.prog 131 0 0 129:=⟨Fd131_0⟩
instance:FdC Tryz.prog 135 0 0 96:=⟨Fd135_0⟩
instance:FdC Tryz.prog 135 1 13 99:=⟨Fd135_1⟩
instance:FdC Tryz.prog 135 2 39 133:=⟨Fd135_2⟩
instance:AlC Tryz.prog 3 (I 0):=⟨Al3⟩
instance:AlC Tryz.prog 4 (B false):=⟨Al4⟩
instance:AlC Tryz.prog 25 (.agg #[I 0,.slice none 0 0]):=⟨Al25⟩
instance:AlC Tryz.prog 28 (.agg #[I 0,B false]):=⟨Al28⟩
instance:AlC Tryz.prog 31 (.agg #[I 0,I 0]):=⟨Al31⟩
instance:AlC Tryz.prog 34 (.agg #[I 0,I 0,I 0,I 0,I 0]):=⟨Al34⟩
instance:AlC Tryz.prog 42 (.agg #[I 0,I 0]):=⟨Al42⟩
instance:AlC Tryz.prog 53 (.agg #[I 0,.slice none 0 0]):=⟨Al53⟩
instance:AlC Tryz.prog 79 (.agg #[I 0,I 0]):=⟨Al79⟩
instance:AlC Tryz.prog 90 (.nilFunc):=⟨Al90⟩
instance:AlC Tryz.prog 93 (.pointer none):=⟨Al93⟩
instance:AlC Tryz.prog 106 (.agg #[I 0,I 0,I 0,I 0,I 0]):=⟨Al106⟩
instance:AlC Tryz.prog 121 (.nilFunc):=⟨Al121⟩
instance:AlC Tryz.prog 131 (.agg #[.nilFunc]):=⟨Al131⟩
instance:AlC Tryz.prog 137 (.map none):=⟨Al137⟩
instance:AlC Tryz.prog 147 (.pointer none):=⟨Al147⟩
instance:AlC Tryz.prog 148 (.pointer none):=⟨Al148⟩
instance:BdC Tryz.prog 25 [(0,1),(1,1)]:=⟨_,Tryz.underlying25,Bd25 Tryz.underlying25⟩
instance:BdC Tryz.prog 28 [(0,1),(1,1)]:=⟨_,Tryz.underlying28,Bd28 Tryz.underlying28⟩
instance:BdC Tryz.prog 31 [(0,1),(1,1)]:=⟨_,Tryz.underlying31,Bd31 Tryz.underlying31⟩
instance:BdC Tryz.prog 34 [(0,1),(1,1),(2,1),(3,1),(4,1)]:=⟨_,Tryz.underlying34,Bd34 Tryz.underlying34⟩
instance:BdC Tryz.prog 42 [(0,1),(1,1)]:=⟨_,Tryz.underlying42,Bd42 Tryz.underlying42⟩
instance:BdC Tryz.prog 53 [(0,1),(1,1)]:=⟨_,Tryz.underlying53,Bd53 Tryz.underlying53⟩
instance:BdC Tryz.prog 79 [(0,1),(1,1)]:=⟨_,Tryz.underlying79,Bd79 Tryz.underlying79⟩
instance:BdC Tryz.prog 102 [(0,2),(2,169),(171,338)]:=⟨_,Tryz.underlying102,Bd102 Tryz.underlying102⟩
instance:BdC Tryz.prog 131 [(0,1)]:=⟨_,Tryz.underlying131,Bd131 Tryz.underlying131⟩
instance:AlC Tryz.prog 102 (.agg (List.flatten [[I 0,.slice none 0 0],encF (α:=Int) (List.replicate 169 0),encF (α:=Leg) (List.replicate 169 default)]).toArray):=⟨Al102⟩
instance:AlC Tryz.prog 135 (.agg (List.flatten [[],encF (α:=Int) (List.replicate 13 0),encF (α:=Leg) (List.replicate 13 default),encF (α:=Bool) (List.replicate 13 false)]).toArray):=⟨Al135⟩
end Go.Proofs.YtfdgkdkfbaghpaaGreat
section
set_option maxRecDepth 100000
set_option maxHeartbeats 16000000
namespace Go.Proofs.YtfdgkdkfbaghpaaGreat
open Go Go.Nm
attribute [local irreducible] gd execOp SL SLD SLT WR
def zae (n aa greatest:Int):M Bool :=
  M.pure ((decide (aa<=n))&&(decide (n<=greatest)))
theorem zah {R:List Chunk}  (n:Int) (aa:Int) (greatest:Int)  {r:Bool} (hM:(zae n aa greatest).Ends r) (w:World) (H:St w w [] R):Ret Tryz.prog 39 #[I n,I aa,I greatest] w fun v w'=>∃ (y0:Bool),y0=r/\v=B y0/\St w w' [] R:=by
 refine ret_of_W Tryz.func39 rfl rfl rfl ?_;refine kg 16 ?_;refine W.ret ?_
 have ab:=M.e_pure hM
 exact ⟨_,resE_tmp rfl,⟨((decide (aa<=n))&&(decide (n<=greatest))),ab,rfl,H⟩⟩

def zbD (s:List Line) (f:Line->M Bool):Nat->M (Nat ⊕ (Int ⊕ Unit)):=fun s2 =>
  bif decide ((s2:Int)<(s.length:Int)) then (
  M.grd (decide ((s2:Int)<(s.length:Int))) <|
  M.bind (f (s.getD s2 default)) fun r2 =>
  bif r2 then (
  M.pure (.inr (.inl (s2:Int))))
  else (
  M.pure (.inl (s2+1))))
  else (
  M.pure (.inr (.inr ())))
def zcz (s:List Line) (f:Line->M Bool):M Int :=
  M.bind (M.iter (zbD s f) 0) fun x_=>match x_ with
  | (.inl s3)=>(
  M.pure s3)
  | (.inr (_:Unit))=>(
  M.pure (-1))
theorem zdz {R:List Chunk} {aj:Cells} {ab:Value} {ac:Value} (s:List Line) (f:Line->M Bool) (ay:Reads R aj) (ao:Sl aj ab s) (ap:FnM Tryz.prog R ac f) {r:Int} (hM:(zcz s f).Ends r) (w:World) (H:St w w [] R):Ret Tryz.prog 81 #[ab,ac] w fun v w'=>∃ (y0:Int),y0=r/\v=I y0/\St w w' [] R:=by
 refine ret_of_W Tryz.func81 rfl rfl rfl ?_
 have az:=(ao).len_le
 refine kg 12 ?_;obtain ⟨aq,ae,al⟩:=M.e_bind hM
 obtain ⟨aA,ae⟩:=M.e_iter ae
 refine W.loop (fun m σ W=>∃ (s2:Nat) (ρ:Env),σ=upds ρ [(0,ab),(1,ac),(7,I (s.length:Int)),(8,I (s2:Int))]/\M.iterN (zbD s f) m s2=some aq/\St w W [] R) ?_ ?_
 ·exact ⟨_,0,_,upds_of _ _ ⟨rfl,rfl,rfl,rfl,trivial⟩,ae,H⟩
 rintro aB σ aC ⟨s2,ρ,rfl,am,H⟩
 obtain ⟨ar,au,aD,hM,ag⟩:=M.e_iterN am
 simp only [zbD] at hM
 clear am;refine kg 5 ?_
 refine W.cond (decide ((s2:Int)<(s.length:Int))) rfl (fun aa=>?_) (fun aa=>?_)
 ·replace hM:=M.e_t hM aa
  replace aa:=dI aa
  obtain ⟨aE,hM⟩:=M.e_gd hM;refine kg 15 ?_;obtain ⟨r2,av,hM⟩:=M.e_bind hM;refine t_callM H ap rfl rfl (s.getD s2 default) Reads.none ⟨_,rfl,rfl⟩ av ?_;intro aF H;refine s_nil ?_
  refine W.cond r2 rfl (fun ah=>?_) (fun ah=>?_)
  ·replace hM:=M.e_t hM ah;refine kg 5 ?_;refine W.ret ?_
   have aw:=M.e_inr hM ag
   subst aw;replace hM:=al;(try dsimp only at hM)
   have ai:=M.e_pure hM
   exact ⟨_,resE_tmp rfl,⟨(s2:Int),ai,rfl,H⟩⟩
  replace hM:=M.e_f hM ah;refine kg 5 ?_
  exact ⟨ar,au,s2+1,_,upds_of _ _ ⟨rfl,rfl,rfl,rfl,trivial⟩,M.e_inl hM ag,H⟩
 replace hM:=M.e_f hM aa
 replace aa:=dI aa
 refine W.exit ?_
 have ax:=M.e_inr hM ag
 subst ax;replace hM:=al;(try dsimp only at hM);refine kg 4 ?_;refine W.ret ?_
 have ai:=M.e_pure hM
 exact ⟨_,resE_tmp rfl,⟨(-1),ai,rfl,H⟩⟩

def zc6 (s:List Line) (f:Line->M Bool):M Bool :=
  M.bind (zcz s f) fun r2 =>
  M.pure (decide (0<=r2))
theorem zdU {R:List Chunk} {ac:Cells} {aa:Value} {ab:Value} (s:List Line) (f:Line->M Bool) (ag:Reads R ac) (ah:Sl ac aa s) (ai:FnM Tryz.prog R ab f) {r:Bool} (hM:(zc6 s f).Ends r) (w:World) (H:St w w [] R):Ret Tryz.prog 68 #[aa,ab] w fun v w'=>∃ (y0:Bool),y0=r/\v=B y0/\St w w' [] R:=by
 refine ret_of_W Tryz.func68 rfl rfl rfl ?_;refine kg 8 ?_;obtain ⟨am,aj,hM⟩:=M.e_bind hM;refine s_call cf81 [aa,ab] rfl (zdz s f (ag.app _) ah (ai.app _) aj _ (H.gt 0)) ?_
 rintro vq ao ⟨r2,rfl,hvq,ae⟩
 subst vq;(try dsimp only at hM);replace H:=H.bk ae;clear ae;refine kg 3 ?_;refine W.ret ?_
 have al:=M.e_pure hM
 exact ⟨_,resE_tmp rfl,⟨(decide (0<=r2)),al,rfl,H⟩⟩

def zcb (x:Line) (aa:Line->M Bool):M Bool :=
  M.bind (aa x) fun r2 =>
  M.pure (!r2)
theorem zdq {R:List Chunk} {aa:Nat} {ab:Value} (x:Line) (ac:Line->M Bool) (ae:FnM Tryz.prog R ab ac) (ai:Has R (cBlk aa [ab] 92)) {r:Bool} (hM:(zcb x ac).Ends r) (w:World) (H:St w w [] R):Ret Tryz.prog 69 #[.agg #[I x.src,I x.dst,I x.day,I x.rise,I x.err],Pq aa] w fun v w'=>∃ (y0:Bool),y0=r/\v=B y0/\St w w' [] R:=by
 refine ret_of_W Tryz.func69 rfl rfl rfl ?_;refine kg 2 ?_;refine t_bx [I x.src,I x.dst,I x.day,I x.rise,I x.err] H rfl ?_;intro aj al H;refine kg 6 ?_;obtain ⟨r2,ag,hM⟩:=M.e_bind hM;refine t_callM H ae rfl rfl x Reads.none ⟨_,rfl,rfl⟩ ag ?_;intro am H;refine kg 3 ?_;refine W.ret ?_
 have ah:=M.e_pure hM
 exact ⟨_,resE_tmp rfl,⟨(!r2),ah,rfl,(H.pk [])⟩⟩

def zcE (l:List Line) (so:Line->M Bool):M Bool :=
  M.bind (zc6 l (fun aa=>zcb aa so)) fun r2 =>
  M.pure (!r2)
theorem zdt {R:List Chunk} {ag:Cells} {ab:Value} {aa:Value} (l:List Line) (so:Line->M Bool) (al:Reads R ag) (am:Sl ag ab l) (ah:FnM Tryz.prog R aa so) {r:Bool} (hM:(zcE l so).Ends r) (w:World) (H:St w w [] R):Ret Tryz.prog 40 #[ab,aa] w fun v w'=>∃ (y0:Bool),y0=r/\v=B y0/\St w w' [] R:=by
 refine ret_of_W Tryz.func40 rfl rfl rfl ?_;refine kg 2 ?_;refine t_box (v:=aa) (cs:=[aa]) H rfl (FnM.cells ah) ?_;intro ac az H;refine kg 5 ?_;refine s_val (x_mf (fs:=[]) (cs:=[Pq ac]) rfl rfl) ?_;obtain ⟨aA,ao,hM⟩:=M.e_bind hM;refine s_call cf68 [ab,.func (.func 69) #[] #[Pq ac]] rfl (zdU l (fun ae=>zcb ae so) (al.app _) am ⟨69,[Pq ac],rfl,cf69,fun ai aB aC ap ae aD aq aE ar au=>by obtain rfl:=Line_arg ar; exact (zdq ae so (FnM.app (ah.app _) _) (Has.app (Has.here (k:=0) rfl) _) au ai (St.refl aq)).mono fun ap ai ⟨aF,av,aw,ax⟩=>by subst av; exact ⟨aw,ax⟩⟩ ao _ (H.gt 1)) ?_
 rintro vq aG ⟨r2,rfl,hvq,aj⟩
 subst vq;(try dsimp only at hM);replace H:=H.bk aj;clear aj;refine kg 3 ?_;refine W.ret ?_
 have ay:=M.e_pure hM
 exact ⟨_,resE_tmp rfl,⟨(!r2),ay,rfl,(H.pk [])⟩⟩

def zb7 (i aa:Int) (ab:List Line):M Bool :=
  M.grd (decide ((-9223372036854775808:Int)<=(aa-1))&&decide ((aa-1)<=(9223372036854775807:Int))) <|
  M.bind (zae i 0 (aa-1)) fun r2 =>
  M.pure r2
theorem zdd {R:List Chunk} {ab:Nat} {ac:Cells} {ae:Value} (i:Int) (aa:Int) (ag:List Line) (al:Reads R ac) (am:Sl ac ae ag) (ao:Has R (cBlk ab [I aa,ae] 25)) {r:Bool} (hM:(zb7 i aa ag).Ends r) (w:World) (H:St w w [] R):Ret Tryz.prog 38 #[I i,Pq ab] w fun v w'=>∃ (y0:Bool),y0=r/\v=B y0/\St w w' [] R:=by
 refine ret_of_W Tryz.func38 rfl rfl rfl ?_;obtain ⟨ap,hM⟩:=M.e_gd hM;refine kg 10 ?_;obtain ⟨aq,ai,hM⟩:=M.e_bind hM;refine s_call cf39 [I i,I 0,I (aa-1)] rfl (zah i 0 (aa-1) ai _ (H.gt 0)) ?_
 rintro vq ar ⟨r2,rfl,hvq,ah⟩
 subst vq;(try dsimp only at hM);replace H:=H.bk ah;clear ah;refine kg 2 ?_;refine W.ret ?_
 have aj:=M.e_pure hM
 exact ⟨_,resE_tmp rfl,⟨r2,aj,rfl,H⟩⟩

def zcK (l:Line) (aa:Int) (ab:List Line):M Bool :=
  M.bind (zb7 l.src aa ab) fun r2 =>
  M.bind (M.opt r2 (zb7 l.dst aa ab) false) fun r3 =>
  M.bind (M.opt ((r2&&r3)&&(l.src != l.dst)) (zae l.day 0 40000) false) fun r4 =>
  M.bind (M.opt (((r2&&r3)&&(l.src != l.dst))&&r4) (zae l.rise (-1000000) 1000000) false) fun r5 =>
  M.bind (M.opt ((((r2&&r3)&&(l.src != l.dst))&&r4)&&r5) (zae l.err 0 10000) false) fun r6 =>
  M.pure (((((r2&&r3)&&(l.src != l.dst))&&r4)&&r5)&&r6)
theorem zdY {R:List Chunk} {ah:Nat} {ac:Nat} {ai:Cells} {aj:Value} (l:Line) (ae:Int) (ag:List Line) (al:Reads R ai) (am:Sl ai aj ag) (ao:Has R (cBlk ac [I ae,aj] 25)) (ax:Has R (cBlk ah [.func (.func 38) #[] #[Pq ac]] 90)) {r:Bool} (hM:(zcK l ae ag).Ends r) (w:World) (H:St w w [] R):Ret Tryz.prog 41 #[.agg #[I l.src,I l.dst,I l.day,I l.rise,I l.err],Pq ah] w fun v w'=>∃ (y0:Bool),y0=r/\v=B y0/\St w w' [] R:=by
 refine ret_of_W Tryz.func41 rfl rfl rfl ?_;refine kg 2 ?_;refine t_bx [I l.src,I l.dst,I l.day,I l.rise,I l.err] H rfl ?_;intro ay az H;refine kg 7 ?_;obtain ⟨aA,aq,hM⟩:=M.e_bind hM;refine s_callv (f:=38) rfl cf38 [I l.src] rfl (zdd l.src ae ag (al.app _) am (ao.app _) aq _ (H.gt 1)) ?_
 rintro vq aB ⟨r2,rfl,hvq,ap⟩
 subst vq;(try dsimp only at hM);replace H:=H.bk ap;clear ap;refine kg 4 ?_;obtain ⟨r3,ar,hM⟩:=M.e_bind hM;refine t_gcallv (cap:=[Pq ac]) r2 (gy_t rfl) cf38 (fun hg=>(gd_of hg (.func (.func 38) #[] #[Pq ac]))) (B r3) (fun _=>[I l.dst]) (fun hg=>lst1 (gd_of hg (I l.dst))) H (fun hg=>(zdd l.dst ae ag (al.app _) am (ao.app _) (M.e_opt ar hg) _ (H.give (A:=[]) rfl)).mono fun v_ w_ ⟨y_,aa,ab,H_⟩=>by subst aa; exact ⟨ab,H.via H_⟩) ?_;intro aC H;refine kg 11 ?_;obtain ⟨r4,au,hM⟩:=M.e_bind hM;refine t_gcall ((r2&&r3)&&(l.src != l.dst)) (gy_t rfl) cf39 (B r4) (fun _=>[I l.day,I 0,I 40000]) (fun hg=>lst3 (gd_of hg (I l.day)) rfl rfl) H (fun hg=>(zah l.day 0 40000 (M.e_opt au hg) _ (H.give (A:=[]) rfl)).mono fun v_ w_ ⟨y_,aa,ab,H_⟩=>by subst aa; exact ⟨ab,H.via H_⟩) ?_;intro aD H;refine kg 4 ?_;obtain ⟨r5,av,hM⟩:=M.e_bind hM;refine t_gcall (((r2&&r3)&&(l.src != l.dst))&&r4) (gy_t rfl) cf39 (B r5) (fun _=>[I l.rise,I (-1000000),I 1000000]) (fun hg=>lst3 (gd_of hg (I l.rise)) rfl rfl) H (fun hg=>(zah l.rise (-1000000) 1000000 (M.e_opt av hg) _ (H.give (A:=[]) rfl)).mono fun v_ w_ ⟨y_,aa,ab,H_⟩=>by subst aa; exact ⟨ab,H.via H_⟩) ?_;intro aE H;refine kg 4 ?_;obtain ⟨r6,aw,hM⟩:=M.e_bind hM;refine t_gcall ((((r2&&r3)&&(l.src != l.dst))&&r4)&&r5) (gy_t rfl) cf39 (B r6) (fun _=>[I l.err,I 0,I 10000]) (fun hg=>lst3 (gd_of hg (I l.err)) rfl rfl) H (fun hg=>(zah l.err 0 10000 (M.e_opt aw hg) _ (H.give (A:=[]) rfl)).mono fun v_ w_ ⟨y_,aa,ab,H_⟩=>by subst aa; exact ⟨ab,H.via H_⟩) ?_;intro aF H;refine kg 3 ?_;refine W.ret ?_
 have aa:=M.e_pure hM
 exact ⟨_,resE_tmp rfl,⟨(((((r2&&r3)&&(l.src != l.dst))&&r4)&&r5)&&r6),aa,rfl,(H.pk [])⟩⟩

def zak (n_Marks:Int) (n_Lines:List Line):M Int :=
  M.bind (zae n_Marks 1 12) fun r2 =>
  bif ((!r2)||(decide (30<(n_Lines.length:Int)))) then (
  M.pure 3)
  else (
  M.bind (zcE n_Lines (fun aa=>zcK aa n_Marks n_Lines)) fun r3 =>
  bif !r3 then (
  M.pure 20)
  else (
  M.pure 0))
theorem zaC {R:List Chunk} {am:Cells} {ac:Value} (n_Marks:Int) (n_Lines:List Line) (ao:Reads R am) (ae:Sl am ac n_Lines) {r:Int} (hM:(zak n_Marks n_Lines).Ends r) (w:World) (H:St w w [] R):Ret Tryz.prog 8 #[.agg #[I n_Marks,ac]] w fun v w'=>∃ (y0:Int),y0=r/\v=I y0/\St w w' [] R:=by
 refine ret_of_W Tryz.func8 rfl rfl rfl ?_;refine kg 2 ?_;refine t_bx [I n_Marks,ac] H rfl ?_;intro ag aB H;refine kg 4 ?_;refine s_val (x_mf (fs:=[]) (cs:=[Pq ag]) rfl rfl) ?_;refine t_alloc (cs:=[.nilFunc]) H Al90 rfl ?_;intro ah aC H;refine t_sw 0 0 [.func (.func 38) #[] #[Pq ag]] (.func (.func 38) #[] #[Pq ag]) H rfl rfl Sz90 rfl rfl rfl rfl ?_;intro aD H;refine kg 7 ?_;obtain ⟨aE,aq,hM⟩:=M.e_bind hM;refine s_call cf39 [I n_Marks,I 1,I 12] rfl (zah n_Marks 1 12 aq _ (H.gt 2)) ?_
 rintro vq aF ⟨r2,rfl,hvq,aa⟩
 subst vq;(try dsimp only at hM);replace H:=H.bk aa;clear aa
 have aG:=(ae).len_le
 refine kg 9 ?_
 refine W.cond ((!r2)||(decide (30<(n_Lines.length:Int)))) rfl (fun ai=>?_) (fun ai=>?_)
 ·replace hM:=M.e_t hM ai;refine kg 4 ?_;refine W.ret ?_
  have ab:=M.e_pure hM
  exact ⟨_,resE_tmp rfl,⟨3,ab,rfl,(H.pk [])⟩⟩
 replace hM:=M.e_f hM ai;refine kg 4 ?_;refine s_val (x_mf (fs:=[]) (cs:=[Pq ah]) rfl rfl) ?_;obtain ⟨aH,ar,hM⟩:=M.e_bind hM;refine s_call cf40 [ac,.func (.func 41) #[] #[Pq ah]] rfl (zdt n_Lines (fun aj=>zcK aj n_Marks n_Lines) (ao.app _) ae ⟨41,[Pq ah],rfl,cf41,fun ap aI aJ au aj aK av aL aw ax=>by obtain rfl:=Line_arg aw; exact (zdY aj n_Marks n_Lines (Reads.app (ao.app _) _) ae (Has.app (Has.here (k:=1) rfl) _) (Has.app (Has.here (k:=0) rfl) _) ax ap (St.refl av)).mono fun au ap ⟨aM,ay,az,aA⟩=>by subst ay; exact ⟨az,aA⟩⟩ ar _ (H.gt 2)) ?_
 rintro vq aN ⟨r3,rfl,hvq,aa⟩
 subst vq;(try dsimp only at hM);replace H:=H.bk aa;clear aa;refine kg 3 ?_
 refine W.cond (!r3) rfl (fun al=>?_) (fun al=>?_)
 ·replace hM:=M.e_t hM al;refine kg 4 ?_;refine W.ret ?_
  have ab:=M.e_pure hM
  exact ⟨_,resE_tmp rfl,⟨20,ab,rfl,(H.pk [])⟩⟩
 replace hM:=M.e_f hM al;refine kg 5 ?_;refine W.ret ?_
 have ab:=M.e_pure hM
 exact ⟨_,resE_tmp rfl,⟨0,ab,rfl,(H.pk [])⟩⟩

def zaN (aa:Int) (ab:List Line) (mark:Int):M Int :=
  M.pure mark
theorem zco {R:List Chunk} {aa:Nat} {ab:Cells} {ac:Value} (ae:Int) (ag:List Line) (mark:Int) (ao:Reads R ab) (ap:Sl ab ac ag) (aq:Fld R aa [I ae,ac]) {r:Int} (hM:(zaN ae ag mark).Ends r) (w:World) (H:St w w [] R):Ret Tryz.prog 71 #[Pq aa,I mark] w fun v w'=>∃ (y0:Int) (ah:Nat) (ai:Nat),y0=r/\v = .func (.func 82) #[] #[Pq ah,Pq ai]/\St w w' [cBlk ah [Pq aa] 93,cBlk ai [I y0] 3] R:=by
 refine ret_of_W Tryz.func71 rfl rfl rfl ?_;refine kg 2 ?_;refine t_b1 (Pq aa) H rfl rfl ?_;intro aj ar H;refine t_b1 (I mark) H rfl rfl ?_;intro al au H;refine kg 4 ?_;refine s_val (x_mf (fs:=[]) (cs:=[Pq aj,Pq al]) rfl rfl) ?_;refine kg 2 ?_;refine W.ret ?_
 have am:=M.e_pure hM
 exact ⟨_,resE_tmp rfl,⟨mark,aj,al,am,rfl,(H.pk [1,0])⟩⟩

def zdC (back:Bool):M (Unit ⊕ Unit) :=
  bif back then (
  M.pure (.inl ()))
  else (
  M.pure (.inr ()))
theorem zde {R:List Chunk}  (back:Bool)  {r:(Unit ⊕ Unit)} (hM:(zdC back).Ends r) (w:World) (H:St w w [] R):Ret Tryz.prog 76 #[B back] w fun v w'=>((.inl ())=r/\v = .agg #[.func (.func 85) #[] #[]]/\St w w' [] R)∨((.inr ())=r/\v = .agg #[.func (.func 86) #[] #[]]/\St w w' [] R):=by
 refine ret_of_W Tryz.func76 rfl rfl rfl ?_;refine kg 2 ?_;refine t_alloc (cs:=[.nilFunc]) H Al131 rfl ?_;intro ag ah H;refine kg 6 ?_
 refine W.cond back rfl (fun aa=>?_) (fun aa=>?_)
 ·replace hM:=M.e_t hM aa;refine kg 2 ?_;refine s_val (x_bld (ps:=[(0,.func (.func 85) #[] #[])]) (zs:=[.nilFunc]) (L':=[.func (.func 85) #[] #[]]) rfl Tryz.underlying131 Al131 rfl (Bd131 Tryz.underlying131) (.cons (cs:=[.func (.func 85) #[] #[]]) rfl rfl rfl rfl rfl<|.nil)) ?_;refine t_sw 0 0 [.func (.func 85) #[] #[]] (.agg #[.func (.func 85) #[] #[]]) H rfl rfl Sz131 rfl rfl rfl rfl ?_;intro ai H;refine s_nil ?_;refine W.ret ?_
  have ac:=(H.bl 0)
  have ab:=M.e_pure hM
  exact ⟨_,(resE_of1 (v:=.agg #[.func (.func 85) #[] #[]]) rfl (.cell (v:=.agg #[.func (.func 85) #[] #[]]) rfl (run_loadVar_ag (ds:=[.func (.func 85) #[] #[]]) Ag131 Sz131 ac rfl rfl)<|.nil)),.inl (⟨ab,rfl,(H.pk [])⟩)⟩
 replace hM:=M.e_f hM aa;refine kg 3 ?_;refine s_val (x_bld (ps:=[(0,.func (.func 86) #[] #[])]) (zs:=[.nilFunc]) (L':=[.func (.func 86) #[] #[]]) rfl Tryz.underlying131 Al131 rfl (Bd131 Tryz.underlying131) (.cons (cs:=[.func (.func 86) #[] #[]]) rfl rfl rfl rfl rfl<|.nil)) ?_;refine t_sw 0 0 [.func (.func 86) #[] #[]] (.agg #[.func (.func 86) #[] #[]]) H rfl rfl Sz131 rfl rfl rfl rfl ?_;intro aj H;refine s_nil ?_;refine W.ret ?_
 have ae:=(H.bl 0)
 have ab:=M.e_pure hM
 exact ⟨_,(resE_of1 (v:=.agg #[.func (.func 86) #[] #[]]) rfl (.cell (v:=.agg #[.func (.func 86) #[] #[]]) rfl (run_loadVar_ag (ds:=[.func (.func 86) #[] #[]]) Ag131 Sz131 ae rfl rfl)<|.nil)),.inr (⟨ab,rfl,(H.pk [])⟩)⟩

def zdr (l:Line):M Int :=
  M.pure l.dst
theorem zdQ {R:List Chunk}  (l:Line)  {r:Int} (hM:(zdr l).Ends r) (w:World) (H:St w w [] R):Ret Tryz.prog 85 #[.agg #[I l.src,I l.dst,I l.day,I l.rise,I l.err]] w fun v w'=>∃ (y0:Int),y0=r/\v=I y0/\St w w' [] R:=by
 refine ret_of_W Tryz.func85 rfl rfl rfl ?_;refine kg 2 ?_;refine t_bx [I l.src,I l.dst,I l.day,I l.rise,I l.err] H rfl ?_;intro ab ac H;refine kg 8 ?_;refine W.ret ?_
 have aa:=M.e_pure hM
 exact ⟨_,resE_tmp rfl,⟨l.dst,aa,rfl,(H.pk [])⟩⟩

def zdM (l:Line):M Int :=
  M.pure l.src
theorem zdK {R:List Chunk}  (l:Line)  {r:Int} (hM:(zdM l).Ends r) (w:World) (H:St w w [] R):Ret Tryz.prog 86 #[.agg #[I l.src,I l.dst,I l.day,I l.rise,I l.err]] w fun v w'=>∃ (y0:Int),y0=r/\v=I y0/\St w w' [] R:=by
 refine ret_of_W Tryz.func86 rfl rfl rfl ?_;refine kg 2 ?_;refine t_bx [I l.src,I l.dst,I l.day,I l.rise,I l.err] H rfl ?_;intro ab ac H;refine kg 8 ?_;refine W.ret ?_
 have aa:=M.e_pure hM
 exact ⟨_,resE_tmp rfl,⟨l.src,aa,rfl,(H.pk [])⟩⟩

theorem starts_any {R:List Chunk} (back:Bool) (w:World) (hs:Sep w R):Ret Tryz.prog 76 #[B back] w fun v w'=>v = .agg #[.func (.func (bif back then 85 else 86)) #[] #[]]/\St w w' [] R:=by
 cases back with
 | true =>
  refine (zde true (r:=.inl ()) M.i_pure w (St.refl hs)).mono ?_
  rintro v w' (⟨_,hv,H⟩ | ⟨h,_,_⟩)
  ·exact ⟨hv,H⟩
  cases h
 | false =>
  refine (zde false (r:=.inr ()) M.i_pure w (St.refl hs)).mono ?_
  rintro v w' (⟨h,_,_⟩ | ⟨_,hv,H⟩)
  ·cases h
  exact ⟨hv,H⟩
theorem cfsel (b:Bool):CF Tryz.prog (bif b then 85 else 86):=by cases b; exact cf86; exact cf85
theorem ends_any {R:List Chunk} (b:Bool) (l:Line) (w:World) (hs:Sep w R):Ret Tryz.prog (bif b then 85 else 86) #[.agg #[I l.src,I l.dst,I l.day,I l.rise,I l.err]] w fun v w'=>v=I (legEnd b l)/\St w w' [] R:=by
 cases b with
 | true=>exact (zdQ l M.i_pure w (St.refl hs)).mono fun v w' ⟨y,hy,hv,H⟩=>⟨by rw [hv,hy]; rfl,H⟩
 | false=>exact (zdK l M.i_pure w (St.refl hs)).mono fun v w' ⟨y,hy,hv,H⟩=>⟨by rw [hv,hy]; rfl,H⟩

def zaq (ab:Int) (aa:List Line) (g:Leg):M Int :=
  M.grd (decide ((0:Int)<=g.line)&&decide (g.line<(aa.length:Int))) <|
  M.pure (legEnd g.back (aa.getD (Int.toNat g.line) default))
theorem zaH {R:List Chunk} {ah:Nat} {ai:Cells} {ac:Value} (ae:Int) (aa:List Line) (g:Leg) (ap:Reads R ai) (aq:Sl ai ac aa) (aj:Fld R ah [I ae,ac]) {r:Int} (hM:(zaq ae aa g).Ends r) (w:World) (H:St w w [] R):Ret Tryz.prog 60 #[Pq ah,.agg #[I g.line,B g.back]] w fun v w'=>∃ (y0:Int),y0=r/\v=I y0/\St w w' [] R:=by
 refine ret_of_W Tryz.func60 rfl rfl rfl ?_;refine kg 2 ?_;refine t_bx [I g.line,B g.back] H rfl ?_;intro ag ar H;refine kg 3 ?_;refine W.draw (fun W=>St w W [cBlk ag [I g.line,B g.back] 28] R) [(0,true),(1,true),(4,true),(5,true),(6,true),(7,true),(8,true),(9,true),(10,true),(11,true),(12,true),(2,false),(3,true),(13,false),(14,true)] mixed (by decide +kernel) rfl ?_;intro au ab;replace H:=H.ext ab;clear ab
 refine ⟨(H.pk [0]),?_⟩
 refine kg 6 ?_;refine d_q rfl (fun w' H=>x_ld (v:=ac) rfl (fld_sc (pre:=[I ae,ac]) (i:=1) Sc23 (aj.at H) rfl)) ?_;obtain ⟨av,hM⟩:=M.e_gd hM;refine kg 4 ?_;refine d_l rfl ?_;refine s_call cf76 [B g.back] rfl (starts_any g.back _ H.sep) ?_
 rintro _ al ⟨rfl,ab⟩
 replace H:St w al [cBlk ag [I g.line,B g.back] 28] R:=H.via ab
 clear ab
 refine s_nil ⟨(H.pk [0]),?_⟩
 refine d_q rfl (fun w' H=>x_fd (cs:=[.func (.func (bif g.back then 85 else 86)) #[] #[]]) (v:=.func (.func (bif g.back then 85 else 86)) #[] #[]) Fd131_0 Sc129 rfl rfl)<|d_l rfl ?_;refine s_callv rfl (cfsel g.back) [.agg #[I ((aa.getD (Int.toNat g.line) default).src),I ((aa.getD (Int.toNat g.line) default).dst),I ((aa.getD (Int.toNat g.line) default).day),I ((aa.getD (Int.toNat g.line) default).rise),I ((aa.getD (Int.toNat g.line) default).err)]] rfl (ends_any g.back (aa.getD (Int.toNat g.line) default) _ H.sep) ?_
 rintro _ am ⟨rfl,ab⟩
 replace H:St w am [cBlk ag [I g.line,B g.back] 28] R:=H.via ab
 clear ab
 refine s_nil ⟨(H.pk [0]),?_⟩
 refine kg 2 ?_;refine W.ret ?_
 have ao:=M.e_pure hM
 exact ⟨_,resE_tmp rfl,⟨(legEnd g.back (aa.getD (Int.toNat g.line) default)),ao,rfl,(H.pk [])⟩⟩

def zbd {T_:Type} (ab:T_->Leg->M (Bool × T_)) (ac:Int) (ae:List Line) (aa:Int) (s2:Nat):(Nat × T_)->M ((Nat × T_) ⊕ (T_ ⊕ T_)):=fun (s,t2) =>
  bif decide ((s:Int)<(([(⟨(s2:Int),false⟩:Leg),(⟨(s2:Int),true⟩:Leg)]).length:Int)) then (
  M.grd (decide ((s:Int)<(([(⟨(s2:Int),false⟩:Leg),(⟨(s2:Int),true⟩:Leg)]).length:Int))) <|
  M.bind (zaq ac ae (([(⟨(s2:Int),false⟩:Leg),(⟨(s2:Int),true⟩:Leg)]).getD s default)) fun r2 =>
  M.bind (M.opt (r2==aa) (ab t2 (([(⟨(s2:Int),false⟩:Leg),(⟨(s2:Int),true⟩:Leg)]).getD s default)) (false,t2)) fun (go,t) =>
  bif ((r2==aa)&&(!go)) then (
  M.pure (.inr (.inl t)))
  else (
  M.pure (.inl (s+1,t))))
  else (
  M.pure (.inr (.inr t2)))
def zbo {T_:Type} (ab:T_->Leg->M (Bool × T_)) (ac:Int) (aa:List Line) (ae:Int):(Nat × T_)->M ((Nat × T_) ⊕ (T_ ⊕ T_)):=fun (s2,t5) =>
  bif decide ((s2:Int)<(aa.length:Int)) then (
  M.bind (M.iter (zbd ab ac aa ae s2) (0,t5)) fun x_=>match x_ with
  | (.inl t3)=>(
  M.pure (.inr (.inl t3)))
  | (.inr t4)=>(
  M.pure (.inl (s2+1,t4))))
  else (
  M.pure (.inr (.inr t5)))
def zai {T_:Type} (aa:T_->Leg->M (Bool × T_)) (t_:T_) (ab:Int) (ac:List Line) (ae:Int):M T_ :=
  M.bind (M.iter (zbo aa ab ac ae) (0,t_)) fun x_=>match x_ with
  | (.inl t6)=>(
  M.pure t6)
  | (.inr t7)=>(
  M.pure t7)
theorem zcl {R:List Chunk} {T_:Type} {Y_:T_->List Chunk->Prop} {ai:Value} {ae:List Chunk} {aj:Nat} {aq:Nat} {az:Cells} {al:Value} {am:Nat} (ao:T_->Leg->M (Bool × T_)) (t_:T_) (ag:Int) (aa:List Line) (ah:Int) (aM:YieldC Tryz.prog R arLeg Y_ ai ao) (aA:Y_ t_ ae) (aN:Reads R az) (aB:Sl az al aa) (aC:∀ (t_:T_) (ae:List Chunk),Y_ t_ ae->Fld (cAll ae :: R) aq [I ag,al]) (a8:Has R (cBlk aj [Pq aq] 93)) (ba:Has R (cBlk am [I ah] 3)) {r:T_} (hM:(zai ao t_ ag aa ah).Ends r) (w:World) (H:St w w [cAll ae] R):Ret Tryz.prog 82 #[ai,Pq aj,Pq am] w fun v w'=>∃ (y0:T_) (Ls0:List Chunk),y0=r/\v = .tuple #[]/\St w w' [cAll Ls0] R/\Y_ y0 Ls0:=by
 refine ret_of_W Tryz.func82 rfl rfl rfl ?_;refine kg 6 ?_;refine s_val (x_ld (v:=al) rfl (fld_sc (pre:=[I ag,al]) (i:=1) Sc23 (Fld.get (Fld.up (aC _ _ aA) (k:=0) rfl) H) rfl)) ?_
 have bb:=(aB).len_le
 refine kg 4 ?_;obtain ⟨aO,ar,aD⟩:=M.e_bind hM
 obtain ⟨aP,ar⟩:=M.e_iter ar
 refine W.loop (fun m σ W=>∃ (s2:Nat) (t5:T_) (Ls_t5:List Chunk) (ρ:Env),σ=upds ρ [(0,ai),(1,Pq aj),(2,Pq am),(12,I (aa.length:Int)),(13,I (s2:Int))]/\M.iterN (zbo ao ag aa ah) m (s2,t5)=some aO/\St w W [cAll Ls_t5] R/\Y_ t5 Ls_t5) ?_ ?_
 ·exact ⟨_,0,t_,ae,_,upds_of _ _ ⟨rfl,rfl,rfl,rfl,rfl,trivial⟩,ar,H,aA⟩
 rintro bc σ bg ⟨s2,t5,Ls_t5,ρ,rfl,aE,H,hY_t5⟩
 obtain ⟨aQ,aR,bh,hM,au⟩:=M.e_iterN aE
 simp only [zbo] at hM
 clear aE;refine kg 5 ?_
 refine W.cond (decide ((s2:Int)<(aa.length:Int))) rfl (fun ab=>?_) (fun ab=>?_)
 ·replace hM:=M.e_t hM ab
  replace ab:=dI ab
  refine kg 11 ?_;refine s_val (x_bld (ps:=[(0,I (s2:Int)),(1,B false)]) (zs:=[I 0,B false]) (L':=[I (s2:Int),B false]) rfl Tryz.underlying28 Al28 rfl (Bd28 Tryz.underlying28) (.cons (cs:=[I (s2:Int)]) rfl rfl rfl rfl rfl<|.cons (cs:=[B false]) rfl rfl rfl rfl rfl<|.nil)) ?_;refine kg 1 ?_;refine s_val (x_bld (ps:=[(0,I (s2:Int)),(1,B true)]) (zs:=[I 0,B false]) (L':=[I (s2:Int),B true]) rfl Tryz.underlying28 Al28 rfl (Bd28 Tryz.underlying28) (.cons (cs:=[I (s2:Int)]) rfl rfl rfl rfl rfl<|.cons (cs:=[B true]) rfl rfl rfl rfl rfl<|.nil)) ?_;refine t_bs (α:=Leg) T29 [.agg #[I (s2:Int),B false],.agg #[I (s2:Int),B true]] [(⟨(s2:Int),false⟩:Leg),(⟨(s2:Int),true⟩:Leg)] H rfl (.cons rfl (Flat.rep_enc _ (⟨(s2:Int),false⟩:Leg))<|.cons rfl (Flat.rep_enc _ (⟨(s2:Int),true⟩:Leg))<|.nil) rfl rfl rfl ?_;intro ap bi H
  have bj:=((H.os 0)).len_le
  refine kg 4 ?_;obtain ⟨aS,av,aF⟩:=M.e_bind hM
  obtain ⟨aP,av⟩:=M.e_iter av
  refine W.loop (fun m σ W=>∃ (s:Nat) (t2:T_) (Ls_t2:List Chunk) (ρ:Env),σ=upds ρ [(0,ai),(1,Pq aj),(2,Pq am),(12,I (aa.length:Int)),(13,I (s2:Int)),(20,ap),(21,I (([(⟨(s2:Int),false⟩:Leg),(⟨(s2:Int),true⟩:Leg)]).length:Int)),(22,I (s:Int))]/\M.iterN (zbd ao ag aa ah s2) m (s,t2)=some aS/\St w W [cOwn (α:=Leg) 28 ap ([(⟨(s2:Int),false⟩:Leg),(⟨(s2:Int),true⟩:Leg)]),cAll Ls_t2] R/\Y_ t2 Ls_t2) ?_ ?_
  ·exact ⟨_,0,t5,Ls_t5,_,upds_of _ _ ⟨rfl,rfl,rfl,rfl,rfl,rfl,rfl,rfl,trivial⟩,av,H,hY_t5⟩
  rintro bn σ bp ⟨s,t2,Ls_t2,ρ,rfl,aG,H,hY_t2⟩
  obtain ⟨aT,aU,br,hM,aw⟩:=M.e_iterN aG
  simp only [zbd] at hM
  clear aG;refine kg 5 ?_
  refine W.cond (decide ((s:Int)<(([(⟨(s2:Int),false⟩:Leg),(⟨(s2:Int),true⟩:Leg)]).length:Int))) rfl (fun ac=>?_) (fun ac=>?_)
  ·replace hM:=M.e_t hM ac
   replace ac:=dI ac
   obtain ⟨bt,hM⟩:=M.e_gd hM;refine kg 7 ?_;refine t_alloc (cs:=[I 0,B false]) H Al28 rfl ?_;intro aH bu H;refine t_sw 0 0 [I ((([(⟨(s2:Int),false⟩:Leg),(⟨(s2:Int),true⟩:Leg)]).getD s default).line),B ((([(⟨(s2:Int),false⟩:Leg),(⟨(s2:Int),true⟩:Leg)]).getD s default).back)] (.agg #[I ((([(⟨(s2:Int),false⟩:Leg),(⟨(s2:Int),true⟩:Leg)]).getD s default).line),B ((([(⟨(s2:Int),false⟩:Leg),(⟨(s2:Int),true⟩:Leg)]).getD s default).back)]) H rfl rfl Sz28 rfl rfl rfl rfl ?_;intro bv H;refine kg 2 ?_;refine W.draw (fun W=>St w W [cBlk aH [I ((([(⟨(s2:Int),false⟩:Leg),(⟨(s2:Int),true⟩:Leg)]).getD s default).line),B ((([(⟨(s2:Int),false⟩:Leg),(⟨(s2:Int),true⟩:Leg)]).getD s default).back)] 28,cOwn (α:=Leg) 28 ap ([(⟨(s2:Int),false⟩:Leg),(⟨(s2:Int),true⟩:Leg)])] R) [(0,true),(1,true),(3,true),(2,false),(4,true),(5,true),(6,true),(7,true),(8,false),(9,true),(10,true)] mixed (by decide +kernel) rfl ?_;intro bw aI;replace H:=H.ext aI;clear aI
   refine ⟨(H.pk [0,1]),?_⟩
   refine kg 3 ?_;refine d_l rfl ?_;obtain ⟨bx,aV,hM⟩:=M.e_bind hM;refine s_call cf60 [Pq aq,.agg #[I ((([(⟨(s2:Int),false⟩:Leg),(⟨(s2:Int),true⟩:Leg)]).getD s default).line),B ((([(⟨(s2:Int),false⟩:Leg),(⟨(s2:Int),true⟩:Leg)]).getD s default).back)]] rfl (zaH ag aa (([(⟨(s2:Int),false⟩:Leg),(⟨(s2:Int),true⟩:Leg)]).getD s default) (aN.app _) aB (Fld.up (aC _ _ hY_t2) (k:=2) rfl) aV _ (H.gt 3)) ?_
   rintro vq bz ⟨r2,rfl,hvq,aJ⟩
   subst vq;(try dsimp only at hM);replace H:=H.bk aJ;clear aJ
   refine s_nil ⟨(H.pk [0,1]),?_⟩
   refine kg 4 ?_;refine d_l rfl ?_
   obtain ⟨⟨go,t⟩,aW,hM⟩:=M.e_bind hM
   (try dsimp only at hM);refine t_gyield (L:=[cBlk aH [I ((([(⟨(s2:Int),false⟩:Leg),(⟨(s2:Int),true⟩:Leg)]).getD s default).line),B ((([(⟨(s2:Int),false⟩:Leg),(⟨(s2:Int),true⟩:Leg)]).getD s default).back)] 28,cOwn (α:=Leg) 28 ap ([(⟨(s2:Int),false⟩:Leg),(⟨(s2:Int),true⟩:Leg)])]) (r2==ah) (gy_t rfl) (H.pk [2,0,1]) aM hY_t2 (fun hg=>(gd_of hg (ai))) [.agg #[I ((([(⟨(s2:Int),false⟩:Leg),(⟨(s2:Int),true⟩:Leg)]).getD s default).line),B ((([(⟨(s2:Int),false⟩:Leg),(⟨(s2:Int),true⟩:Leg)]).getD s default).back)]] (fun hg=>lst1 (gd_of hg (.agg #[I ((([(⟨(s2:Int),false⟩:Leg),(⟨(s2:Int),true⟩:Leg)]).getD s default).line),B ((([(⟨(s2:Int),false⟩:Leg),(⟨(s2:Int),true⟩:Leg)]).getD s default).back)]))) (([(⟨(s2:Int),false⟩:Leg),(⟨(s2:Int),true⟩:Leg)]).getD s default) Reads.none rfl aW ?_;intro aK bA aL H;replace H:=H.nf
   refine s_nil ⟨(H.pk [1,2]),?_⟩
   refine kg 3 ?_
   refine W.cond ((r2==ah)&&(!go)) rfl (fun ax=>?_) (fun ax=>?_)
   ·replace hM:=M.e_t hM ax;refine W.ret ?_
    have aX:=M.e_inr hM aw
    subst aX;replace hM:=aF;(try dsimp only at hM)
    have aY:=M.e_inr hM au
    subst aY;replace hM:=aD;(try dsimp only at hM)
    have ay:=M.e_pure hM
    exact ⟨_,resE_tmp0 rfl,⟨t,aK,ay,rfl,(H.pk [0]),aL⟩⟩
   replace hM:=M.e_f hM ax;refine kg 5 ?_
   exact ⟨aT,aU,s+1,t,aK,_,upds_of _ _ ⟨rfl,rfl,rfl,rfl,rfl,rfl,rfl,rfl,trivial⟩,M.e_inl hM aw,(H.pk [2,0]),aL⟩
  replace hM:=M.e_f hM ac
  replace ac:=dI ac
  refine W.exit ?_
  have aZ:=M.e_inr hM aw
  subst aZ;replace hM:=aF;(try dsimp only at hM);refine kg 4 ?_
  exact ⟨aQ,aR,s2+1,t2,Ls_t2,_,upds_of _ _ ⟨rfl,rfl,rfl,rfl,rfl,trivial⟩,M.e_inl hM au,(H.pk [1]),hY_t2⟩
 replace hM:=M.e_f hM ab
 replace ab:=dI ab
 refine W.exit ?_
 have a7:=M.e_inr hM au
 subst a7;replace hM:=aD;(try dsimp only at hM)
 have ay:=M.e_pure hM
 exact ⟨_,resE_tmp0 rfl,⟨t5,Ls_t5,ay,rfl,H,hY_t5⟩⟩
theorem zdP {T_:Type} {n_:Nat} {y y':T_->Leg->M (Bool × T_)} (h:∀ s a,M.LeN n_ (y s a) (y' s a)) (t_:T_) (aa:Int) (ab:List Line) (ac:Int):M.LeN n_ (zai y t_ aa ab ac) (zai y' t_ aa ab ac):=by
  simp only [zai,zbd,zbo]
  repeat' (first | exact M.le_same _ _ | exact h _ _ | refine M.le_grd ?_ | refine M.le_if ?_ ?_ | refine M.le_bind ?_ (fun x=>?_) | refine M.le_opt ?_ | refine M.le_iter (fun x=>?_) _ | (rename_i x; cases x) | (rename_i x; obtain ⟨_,_⟩:=x))

def zaI (ab:Int) (aa:List Line) (g:Leg):M Int :=
  M.grd (decide ((0:Int)<=g.line)&&decide (g.line<(aa.length:Int))) <|
  bif g.back then (
  M.grd (decide ((-9223372036854775808:Int)<=(((aa.getD (Int.toNat g.line) default).err)-((aa.getD (Int.toNat g.line) default).rise)))&&decide ((((aa.getD (Int.toNat g.line) default).err)-((aa.getD (Int.toNat g.line) default).rise))<=(9223372036854775807:Int))) <|
  M.pure (((aa.getD (Int.toNat g.line) default).err)-((aa.getD (Int.toNat g.line) default).rise)))
  else (
  M.grd (decide ((-9223372036854775808:Int)<=(((aa.getD (Int.toNat g.line) default).err)+((aa.getD (Int.toNat g.line) default).rise)))&&decide ((((aa.getD (Int.toNat g.line) default).err)+((aa.getD (Int.toNat g.line) default).rise))<=(9223372036854775807:Int))) <|
  M.pure (((aa.getD (Int.toNat g.line) default).err)+((aa.getD (Int.toNat g.line) default).rise)))
theorem zbS {R:List Chunk} {ah:Nat} {ai:Cells} {ab:Value} (ac:Int) (aa:List Line) (g:Leg) (ao:Reads R ai) (ap:Sl ai ab aa) (al:Fld R ah [I ac,ab]) {r:Int} (hM:(zaI ac aa g).Ends r) (w:World) (H:St w w [] R):Ret Tryz.prog 62 #[Pq ah,.agg #[I g.line,B g.back]] w fun v w'=>∃ (y0:Int),y0=r/\v=I y0/\St w w' [] R:=by
 refine ret_of_W Tryz.func62 rfl rfl rfl ?_;refine kg 2 ?_;refine t_bx [I g.line,B g.back] H rfl ?_;intro am aq H;refine kg 3 ?_;refine W.draw (fun W=>St w W [cBlk am [I g.line,B g.back] 28] R) [(0,true),(1,true),(2,true),(3,true),(4,true),(5,true),(6,true),(7,true),(8,true),(9,false),(10,false)] mixed (by decide +kernel) rfl ?_;intro ar aj;replace H:=H.ext aj;clear aj
 refine ⟨(H.pk [0]),?_⟩
 refine kg 4 ?_;refine d_q rfl (fun w' H=>x_ld (v:=ab) rfl (fld_sc (pre:=[I ac,ab]) (i:=1) Sc23 (al.at H) rfl)) ?_;obtain ⟨au,hM⟩:=M.e_gd hM;refine kg 4 ?_;refine d_l rfl ?_;refine t_alloc (cs:=[I 0,I 0,I 0,I 0,I 0]) H Al34 rfl ?_;intro av aw H
 refine s_nil ⟨(H.pk [1]),?_⟩
 refine d_l rfl ?_;refine t_sw 0 0 [I ((aa.getD (Int.toNat g.line) default).src),I ((aa.getD (Int.toNat g.line) default).dst),I ((aa.getD (Int.toNat g.line) default).day),I ((aa.getD (Int.toNat g.line) default).rise),I ((aa.getD (Int.toNat g.line) default).err)] (.agg #[I ((aa.getD (Int.toNat g.line) default).src),I ((aa.getD (Int.toNat g.line) default).dst),I ((aa.getD (Int.toNat g.line) default).day),I ((aa.getD (Int.toNat g.line) default).rise),I ((aa.getD (Int.toNat g.line) default).err)]) H rfl rfl Sz34 rfl rfl rfl rfl ?_;intro ax H
 refine s_nil ⟨(H.pk [1]),?_⟩
 refine kg 7 ?_
 refine W.cond g.back rfl (fun ae=>?_) (fun ae=>?_)
 ·replace hM:=M.e_t hM ae;obtain ⟨ay,hM⟩:=M.e_gd hM;refine kg 9 ?_;refine W.ret ?_
  have ag:=M.e_pure hM
  exact ⟨_,resE_tmp rfl,⟨(((aa.getD (Int.toNat g.line) default).err)-((aa.getD (Int.toNat g.line) default).rise)),ag,rfl,(H.pk [])⟩⟩
 replace hM:=M.e_f hM ae;obtain ⟨az,hM⟩:=M.e_gd hM;refine kg 10 ?_;refine W.ret ?_
 have ag:=M.e_pure hM
 exact ⟨_,resE_tmp rfl,⟨(((aa.getD (Int.toNat g.line) default).err)+((aa.getD (Int.toNat g.line) default).rise)),ag,rfl,(H.pk [])⟩⟩

def za5 (l:List Int):(Int × Nat)->M ((Int × Nat) ⊕ Int):=fun (out,s) =>
  bif decide ((s:Int)<(l.length:Int)) then (
  M.grd (decide ((s:Int)<(l.length:Int))) <|
  M.grd (decide ((-9223372036854775808:Int)<=(out+(l.getD s 0)))&&decide ((out+(l.getD s 0))<=(9223372036854775807:Int))) <|
  M.pure (.inl (out+(l.getD s 0),s+1)))
  else (
  M.pure (.inr out))
def zcF (l:List Int):M Int :=
  M.bind (M.iter (za5 l) (0,0)) fun out2 =>
  M.pure out2
theorem zc8 {R:List Chunk} {ae:Cells} {ab:Value} (l:List Int) (ar:Reads R ae) (ai:Sl ae ab l) {r:Int} (hM:(zcF l).Ends r) (w:World) (H:St w w [] R):Ret Tryz.prog 90 #[ab] w fun v w'=>∃ (y0:Int),y0=r/\v=I y0/\St w w' [] R:=by
 refine ret_of_W Tryz.func90 rfl rfl rfl ?_
 have au:=(ai).len_le
 refine kg 16 ?_;obtain ⟨aj,ac,al⟩:=M.e_bind hM
 obtain ⟨av,ac⟩:=M.e_iter ac
 refine W.loop (fun m σ W=>∃ (out:Int) (s:Nat) (ρ:Env),σ=upds ρ [(3,I out),(6,ab),(7,I (l.length:Int)),(8,I (s:Int))]/\M.iterN (za5 l) m (out,s)=some aj/\St w W [] R) ?_ ?_
 ·exact ⟨_,0,0,_,upds_of _ _ ⟨rfl,rfl,rfl,rfl,trivial⟩,ac,H⟩
 rintro aw σ ax ⟨out,s,ρ,rfl,ag,H⟩
 obtain ⟨am,ao,ay,hM,ah⟩:=M.e_iterN ag
 simp only [za5] at hM
 clear ag;refine kg 5 ?_
 refine W.cond (decide ((s:Int)<(l.length:Int))) rfl (fun aa=>?_) (fun aa=>?_)
 ·replace hM:=M.e_t hM aa
  replace aa:=dI aa
  obtain ⟨az,hM⟩:=M.e_gd hM;obtain ⟨aA,hM⟩:=M.e_gd hM;refine kg 19 ?_
  exact ⟨am,ao,out+(l.getD s 0),s+1,_,upds_of _ _ ⟨rfl,rfl,rfl,rfl,trivial⟩,M.e_inl hM ah,H⟩
 replace hM:=M.e_f hM aa
 replace aa:=dI aa
 refine W.exit ?_
 have ap:=M.e_inr hM ah
 subst ap;replace hM:=al;(try dsimp only at hM);refine kg 5 ?_;refine W.ret ?_
 have aq:=M.e_pure hM
 exact ⟨_,resE_tmp rfl,⟨out,aq,rfl,H⟩⟩

def zay (ab:Int) (aa:List Line) (g:Leg):M Int :=
  M.grd (decide ((0:Int)<=g.line)&&decide (g.line<(aa.length:Int))) <|
  M.pure (legEnd (!g.back) (aa.getD (Int.toNat g.line) default))
theorem zat {R:List Chunk} {ah:Nat} {ai:Cells} {ac:Value} (ae:Int) (aa:List Line) (g:Leg) (ap:Reads R ai) (aq:Sl ai ac aa) (aj:Fld R ah [I ae,ac]) {r:Int} (hM:(zay ae aa g).Ends r) (w:World) (H:St w w [] R):Ret Tryz.prog 61 #[Pq ah,.agg #[I g.line,B g.back]] w fun v w'=>∃ (y0:Int),y0=r/\v=I y0/\St w w' [] R:=by
 refine ret_of_W Tryz.func61 rfl rfl rfl ?_;refine kg 2 ?_;refine t_bx [I g.line,B g.back] H rfl ?_;intro ag ar H;refine kg 3 ?_;refine W.draw (fun W=>St w W [cBlk ag [I g.line,B g.back] 28] R) [(0,true),(1,true),(2,true),(5,true),(6,true),(7,true),(8,true),(9,true),(10,true),(11,true),(12,true),(13,true),(3,false),(4,true),(14,false),(15,true)] mixed (by decide +kernel) rfl ?_;intro au ab;replace H:=H.ext ab;clear ab
 refine ⟨(H.pk [0]),?_⟩
 refine kg 7 ?_;refine d_q rfl (fun w' H=>x_ld (v:=ac) rfl (fld_sc (pre:=[I ae,ac]) (i:=1) Sc23 (aj.at H) rfl)) ?_;obtain ⟨av,hM⟩:=M.e_gd hM;refine kg 4 ?_;refine d_l rfl ?_;refine s_call cf76 [B (!g.back)] rfl (starts_any (!g.back) _ H.sep) ?_
 rintro _ al ⟨rfl,ab⟩
 replace H:St w al [cBlk ag [I g.line,B g.back] 28] R:=H.via ab
 clear ab
 refine s_nil ⟨(H.pk [0]),?_⟩
 refine d_q rfl (fun w' H=>x_fd (cs:=[.func (.func (bif (!g.back) then 85 else 86)) #[] #[]]) (v:=.func (.func (bif (!g.back) then 85 else 86)) #[] #[]) Fd131_0 Sc129 rfl rfl)<|d_l rfl ?_;refine s_callv rfl (cfsel (!g.back)) [.agg #[I ((aa.getD (Int.toNat g.line) default).src),I ((aa.getD (Int.toNat g.line) default).dst),I ((aa.getD (Int.toNat g.line) default).day),I ((aa.getD (Int.toNat g.line) default).rise),I ((aa.getD (Int.toNat g.line) default).err)]] rfl (ends_any (!g.back) (aa.getD (Int.toNat g.line) default) _ H.sep) ?_
 rintro _ am ⟨rfl,ab⟩
 replace H:St w am [cBlk ag [I g.line,B g.back] 28] R:=H.via ab
 clear ab
 refine s_nil ⟨(H.pk [0]),?_⟩
 refine kg 2 ?_;refine W.ret ?_
 have ao:=M.e_pure hM
 exact ⟨_,resE_tmp rfl,⟨(legEnd (!g.back) (aa.getD (Int.toNat g.line) default)),ao,rfl,(H.pk [])⟩⟩

def zaf (aa:Int) (ab:List Line) (ac:Int) (s3:Nat):((List Int) × (List Leg))->Leg->M (((List Int) × (List Leg)) ⊕ Unit):=fun (s,s2) x =>
  M.bind (zaI aa ab x) fun r2 =>
  M.bind (zcF ([(s.getD ((Int.toNat ac)*13+s3) 0:Int),(r2:Int)])) fun r3 =>
  M.bind (zay aa ab x) fun r4 =>
  M.grd (decide ((0:Int)<=r4)&&decide (r4<(13:Int))) <|
  bif decide (r3<(s.getD ((Int.toNat ac)*13+(Int.toNat r4)) 0)) then (
  M.bind (zay aa ab x) fun r5 =>
  M.bind (zay aa ab x) fun r6 =>
  M.grd (decide ((0:Int)<=r5)&&decide (r5<(13:Int))) <|
  M.grd (decide ((0:Int)<=r6)&&decide (r6<(13:Int))) <|
  M.pure (.inl (s.set ((Int.toNat ac)*13+(Int.toNat r5)) r3,s2.set ((Int.toNat ac)*13+(Int.toNat r6)) x)))
  else (
  M.pure (.inl (s,s2)))
def zaX (aa:Int) (ab:List Line) (ac:Int):(Nat × (List Int) × (List Leg))->M ((Nat × (List Int) × (List Leg)) ⊕ ((List Int) × (List Leg))):=fun (s3,s4,s5) =>
  bif decide ((s3:Int)<aa) then (
  M.grd (decide ((0:Int)<=(s3:Int))&&decide ((s3:Int)<(13:Int))) <|
  bif (s4.getD ((Int.toNat ac)*13+s3) 0)==1099511627776 then (
  M.grd (decide ((-9223372036854775808:Int)<=((s3:Int)+1))&&decide (((s3:Int)+1)<=(9223372036854775807:Int))) <|
  M.pure (.inl (s3+1,s4,s5)))
  else (
  M.bind (zaN aa ab (s3:Int)) fun ae =>
  M.bind (zai (M.yl (zaf aa ab ac s3)) (.inl (s4,s5)) aa ab ae) fun x_=>match x_ with
  | .inl (s,s2)=>(
  M.grd (decide ((-9223372036854775808:Int)<=((s3:Int)+1))&&decide (((s3:Int)+1)<=(9223372036854775807:Int))) <|
  M.pure (.inl (s3+1,s,s2)))
  | .inr _=>M.fail))
  else (
  M.pure (.inr (s4,s5)))
def zaO (aa:Int) (ab:List Line) (ac:Int):((List Int) × (List Leg) × Nat)->M (((List Int) × (List Leg) × Nat) ⊕ ((List Int) × (List Leg))):=fun (s6,s7,s8) =>
  bif decide ((s8:Int)<aa) then (
  M.bind (M.iter (zaX aa ab ac) (0,s6,s7)) fun (l,l2) =>
  M.grd (decide ((-9223372036854775808:Int)<=((s8:Int)+1))&&decide (((s8:Int)+1)<=(9223372036854775807:Int))) <|
  M.pure (.inl (l,l2,s8+1)))
  else (
  M.pure (.inr (s6,s7)))
def zbF (ab:Int) (ac:List Line) (ae:List Int) (ag:List Leg) (aa:Int):M ((List Int) × (List Leg)) :=
  M.grd (decide ((0:Int)<=aa)&&decide (aa<(13:Int))) <|
  M.bind (M.iter (zaO ab ac aa) (ae,ag,0)) fun (l3,l4) =>
  M.pure (l3,l4)
theorem zds {R:List Chunk} {aa:Nat} {bt:Cells} {ae:Value} (ac:Int) (al:List Line) (aG:List Int) (aH:List Leg) (ab:Int) (au:Reads R bt) (aw:Sl bt ae al) (bu:aG.length=169) (bv:aH.length=169) {r:((List Int) × (List Leg))} (hM:(zbF ac al aG aH ab).Ends r) (w:World) (H:St w w [cBlk aa (List.flatten [[I ac,ae],encF (α:=Int) aG,encF (α:=Leg) aH]) 102] R):Ret Tryz.prog 80 #[Pq aa,I ab] w fun v w'=>∃ (y0:List Int) (y1:List Leg),(y0,y1)=r/\v = .tuple #[]/\St w w' [cBlk aa (List.flatten [[I ac,ae],encF (α:=Int) y0,encF (α:=Leg) y1]) 102] R/\y0.length=169/\y1.length=169:=by
 refine ret_of_WD Tryz.func80 rfl rfl rfl ?_
 replace H:St w w [cMk ([]),cBlk aa (List.flatten [[I ac,ae],encF (α:=Int) aG,encF (α:=Leg) aH]) 102] R:=H.mk0
 have cx:=aw.len_le
 unfold zbF at hM
 refine WD.seq<|WD.of<|W.region rfl ?_;refine t_b1 (Pq aa) H rfl rfl ?_;intro ah cy H;refine s_nil<|WD.seq<|WD.of ?_;refine W.drawT (fun W=>St w W [cBlk ah [Pq aa] 93,cMk ([]),cBlk aa (List.flatten [[I ac,ae],encF (α:=Int) aG,encF (α:=Leg) aH]) 102] R) (.q 0 (.q 1 (.q 2 (.q 3 (.q 4 (.q 5 (.q 6 (.q 7 (.q 8 (.q 9 (.l2 10 (.l 11 (.l 12 (.l 13 .nil))) 11 (.l 10 (.l 12 (.l 13 .nil)))))))))))))) mixed (by decide +kernel) rfl ?_;intro cz am;replace H:=H.ext am;clear am
 refine ⟨(H.pk [0,1,2]),?_⟩
 obtain ⟨cA,hM⟩:=M.e_gd hM;refine kg 4 ?_;refine t_q rfl (fun w' H=>x_ix (v:=.pointer (some ⟨aa,2+Int.toNat ab*13,none⟩)) rfl rfl (run_indexS Tryz.underlying98 Sz96 (by omega) (by omega))) ?_;refine kg 4 ?_;refine t_q rfl (fun w' H=>x_ix (v:=.pointer (some ⟨aa,171+Int.toNat ab*26,none⟩)) rfl rfl (run_indexS Tryz.underlying100 Sz99 (by omega) (by omega))) ?_;refine t_l2 rfl rfl ?_ ?_
 ·skip
  refine t_alloc (cs:=[.pointer none]) H Al147 rfl ?_;intro ai cB H
  refine s_nil ⟨(H.pk [1,2,3]),?_⟩
  refine t_l rfl ?_;refine t_alloc (cs:=[.pointer none]) H Al148 rfl ?_;intro aj cC H
  refine s_nil ⟨(H.pk [2,3,4]),?_⟩
  refine t_l rfl ?_;refine t_sw 1 0 [.pointer (some ⟨aa,2+Int.toNat ab*13,none⟩)] (.pointer (some ⟨aa,2+Int.toNat ab*13,none⟩)) H rfl rfl Sz147 rfl rfl rfl rfl ?_;intro cD H
  refine s_nil ⟨(H.pk [2,3,4]),?_⟩
  refine t_l rfl ?_;refine t_sw 0 0 [.pointer (some ⟨aa,171+Int.toNat ab*26,none⟩)] (.pointer (some ⟨aa,171+Int.toNat ab*26,none⟩)) H rfl rfl Sz148 rfl rfl rfl rfl ?_;intro cE H
  refine s_nil ⟨(H.pk [2,3,4]),?_⟩
  refine t_nil<|WD.seq<|WD.of ?_;refine kg 8 ?_;refine WD.block ?_;obtain ⟨bN,aY,bO⟩:=M.e_bind hM
  obtain ⟨aZ,aY⟩:=M.e_iter aY
  refine WD.loop (fun m bw σ W=>∃ (s6:List Int) (s7:List Leg) (s8:Nat) (ρ:Env),σ=upds ρ [(2,Pq ah),(4,Pq ai),(5,Pq aj),(23,I ac),(24,I (s8:Int))]/\M.iterN (zaO ac al ab) m (s6,s7,s8)=some bN/\St w W [cBlk aj [.pointer (some ⟨aa,171+Int.toNat ab*26,none⟩)] 148,cBlk ai [.pointer (some ⟨aa,2+Int.toNat ab*13,none⟩)] 147,cBlk ah [Pq aa] 93,cMk bw,cBlk aa (List.flatten [[I ac,ae],encF (α:=Int) s6,encF (α:=Leg) s7]) 102] R/\s6.length=169/\s7.length=169) ?_ ?_
  ·exact ⟨_,aG,aH,0,_,upds_of _ _ ⟨rfl,rfl,rfl,rfl,rfl,trivial⟩,aY,H,bu,bv⟩
  rintro cF bw σ cG ⟨s6,s7,s8,ρ,rfl,bx,H,aS,aT⟩
  obtain ⟨bP,bQ,cH,hM,bz⟩:=M.e_iterN bx
  simp only [zaO] at hM
  clear bx;refine WD.seq<|WD.of ?_;refine kg 3 ?_;refine WD.seq ?_
  refine WD.cond (decide ((s8:Int)<ac)) rfl (fun aI=>?_) (fun aI=>?_)
  ·replace hM:=M.e_t hM aI
   replace aI:=dI aI
   refine WD.of<|W.skip<|WD.seq<|WD.block<|WD.seq<|WD.of ?_;refine kg 8 ?_;refine WD.block ?_;obtain ⟨bR,a7,bS⟩:=M.e_bind hM
   obtain ⟨aZ,a7⟩:=M.e_iter a7
   refine WD.loop (fun m ay σ W=>∃ (s3:Nat) (s4:List Int) (s5:List Leg) (ρ:Env),σ=upds ρ [(2,Pq ah),(4,Pq ai),(5,Pq aj),(23,I ac),(24,I (s8:Int)),(30,I ac),(31,I (s3:Int))]/\M.iterN (zaX ac al ab) m (s3,s4,s5)=some bR/\St w W [cBlk aj [.pointer (some ⟨aa,171+Int.toNat ab*26,none⟩)] 148,cBlk ai [.pointer (some ⟨aa,2+Int.toNat ab*13,none⟩)] 147,cBlk ah [Pq aa] 93,cMk ay,cBlk aa (List.flatten [[I ac,ae],encF (α:=Int) s4,encF (α:=Leg) s5]) 102] R/\s4.length=169/\s5.length=169) ?_ ?_
   ·exact ⟨_,0,s6,s7,_,upds_of _ _ ⟨rfl,rfl,rfl,rfl,rfl,rfl,rfl,trivial⟩,a7,H,aS,aT⟩
   rintro cI ay σ cJ ⟨s3,s4,s5,ρ,rfl,bA,H,aB,aJ⟩
   obtain ⟨bB,bC,cK,hM,a8⟩:=M.e_iterN bA
   simp only [zaX] at hM
   clear bA;refine WD.seq<|WD.of ?_;refine kg 3 ?_;refine WD.seq ?_
   refine WD.cond (decide ((s3:Int)<ac)) rfl (fun aK=>?_) (fun aK=>?_)
   ·replace hM:=M.e_t hM aK
    replace aK:=dI aK
    refine WD.of<|W.skip<|WD.seq<|WD.block<|WD.seq<|WD.of ?_;refine kg 2 ?_;refine t_alloc (cs:=[I 0]) H Al3 rfl ?_;intro ao cL H;refine t_sw 0 0 [I (s3:Int)] (I (s3:Int)) H rfl rfl Sz3 rfl rfl rfl rfl ?_;intro cM H;refine s_nil<|WD.seq<|WD.seq<|WD.of ?_;refine W.draw (fun W=>St w W [cBlk ao [I (s3:Int)] 3,cBlk aj [.pointer (some ⟨aa,171+Int.toNat ab*26,none⟩)] 148,cBlk ai [.pointer (some ⟨aa,2+Int.toNat ab*13,none⟩)] 147,cBlk ah [Pq aa] 93,cMk ay,cBlk aa (List.flatten [[I ac,ae],encF (α:=Int) s4,encF (α:=Leg) s5]) 102] R) [(0,true),(1,true),(2,true),(3,true),(4,true),(5,true)] mixed (by decide +kernel) rfl ?_;intro cN am;replace H:=H.ext am;clear am
    refine ⟨(H.pk [0,1,2,3,4,5]),?_⟩
    obtain ⟨cO,hM⟩:=M.e_gd hM;refine kg 3 ?_;refine d_q rfl (fun w' H=>x_ix (v:=.pointer (some ⟨aa,(2+Int.toNat ab*13)+Int.toNat (s3:Int)*1,none⟩)) rfl rfl (run_indexS Tryz.underlying96 Sz3 (by omega) (by omega)))<|d_q rfl (fun w' H=>x_ld (v:=I (s4.getD ((Int.toNat ab)*13+s3) 0)) rfl (ldS (α:=Int) (k:=1) (off:=2) (i:=(Int.toNat ab)*13+s3) (f:=0) (sz:=1) 0 Sc3 (H.bl 5) rfl (sgo1 rfl) rfl (by decide) (by have aC:=aB; omega) (by omega) rfl)) ?_;refine kg 2 ?_
    refine WD.cond ((s4.getD ((Int.toNat ab)*13+s3) 0)==1099511627776) rfl (fun aL=>?_) (fun aL=>?_)
    ·replace hM:=M.e_t hM aL
     replace aL:=dI aL
     refine WD.of ?_;refine W.exit<|WD.of ?_;obtain ⟨cP,hM⟩:=M.e_gd hM;refine kg 4 ?_
     exact ⟨bB,bC,s3+1,s4,s5,_,upds_of _ _ ⟨rfl,rfl,rfl,rfl,rfl,rfl,rfl,trivial⟩,M.e_inl hM a8,(H.pk [1,2,3,4,5]),aB,aJ⟩
    replace hM:=M.e_f hM aL
    replace aL:=dI aL
    refine WD.of<|W.skip<|WD.seq<|WD.of ?_;refine kg 3 ?_;obtain ⟨cQ,bT,hM⟩:=M.e_bind hM;refine s_call cf71 [Pq aa,I (s3:Int)] rfl (zco ac al (s3:Int) (au.app _) aw (Fld.here (k:=5) rfl rfl) bT _ (H.gt 6)) ?_
    rintro vq cR ⟨ap,aq,ar,rfl,hvq,ag⟩
    subst vq;(try dsimp only at hM);replace H:=H.bk ag;clear ag;refine s_nil<|WD.block ?_;obtain ⟨cT,bU,hM⟩:=M.e_bind hM;refine WD.range (L:=[cBlk aa (List.flatten [[I ac,ae],encF (α:=Int) s4,encF (α:=Leg) s5]) 102,cBlk aq [Pq aa] 93,cBlk ar [I ap] 3,cBlk ao [I (s3:Int)] 3,cBlk aj [.pointer (some ⟨aa,171+Int.toNat ab*26,none⟩)] 148,cBlk ai [.pointer (some ⟨aa,2+Int.toNat ab*13,none⟩)] 147,cBlk ah [Pq aa] 93]) [Pq aq,Pq ar] (H.pk [6,7,0,1,2,3,4,5]) rfl cf82 ?_;intro aW aE ba bV bb H
    have hYC:YieldC Tryz.prog ([cMk (aE :: ay),cBlk aq [Pq aa] 93,cBlk ar [I ap] 3,cBlk ao [I (s3:Int)] 3,cBlk aj [.pointer (some ⟨aa,171+Int.toNat ab*26,none⟩)] 148,cBlk ai [.pointer (some ⟨aa,2+Int.toNat ab*13,none⟩)] 147,cBlk ah [Pq aa] 93]++R) arLeg (yJ aW ba (fun (s,s2) aD=>aD=[cBlk aa (List.flatten [[I ac,ae],encF (α:=Int) s,encF (α:=Leg) s2]) 102]/\s.length=169/\s2.length=169) (fun (_:Unit) _=>False) (fun _=>.ret)) (.func (.yield aW) #[] #[]) (M.yl (zaf ac al ab s3)):=by
     refine YieldC.mk2 bb (fun (s,s2) aD=>aD=[cBlk aa (List.flatten [[I ac,ae],encF (α:=Int) s,encF (α:=Leg) s2]) 102]/\s.length=169/\s2.length=169) (fun (_:Unit) _=>False) (fun _=>.ret) (zaf ac al ab s3) (by rintro ⟨s,s2⟩ _ h_; obtain ⟨rfl,_,_⟩:=h_; rfl) (fun _ _ h_=>h_.elim) rfl (arLeg_len rfl) ?_;intro C_ bW x bc
     obtain rfl:=bc
     intro w R aM aD s_ r bg hM H
     obtain ⟨s,s2⟩:=s_
     obtain ⟨rfl,av,az⟩:=bg
     replace H:=H.nf;refine W.region rfl ?_;refine t_alloc (cs:=[I 0,B false]) H Al28 rfl ?_;intro ax cU H;refine t_sw 0 0 [I x.line,B x.back] (.agg #[I x.line,B x.back]) H rfl rfl Sz28 rfl rfl rfl rfl ?_;intro cV H;refine s_nil ?_
     refine ⟨rfl,[cBlk ax [I x.line,B x.back] 28],H.pick [0,1,2,3,4,5,6,7,8] (by decide) rfl,?_⟩
     clear H aM
     intro w R aM H
     replace au:=au.sub aM
     replace hM:(zaf ac al ab s3 (s,s2) x).Ends r:=hM
     simp only [zaf] at hM
     replace H:=H.nf;refine kg 2 ?_;refine W.draw (fun W=>St w W [cBlk ax [I x.line,B x.back] 28,cBlk aa (List.flatten [[I ac,ae],encF (α:=Int) s,encF (α:=Leg) s2]) 102,cMk (aE :: ay),cBlk aq [Pq aa] 93,cBlk ar [I ap] 3,cBlk ao [I (s3:Int)] 3,cBlk aj [.pointer (some ⟨aa,171+Int.toNat ab*26,none⟩)] 148,cBlk ai [.pointer (some ⟨aa,2+Int.toNat ab*13,none⟩)] 147,cBlk ah [Pq aa] 93] R) [(0,true),(1,true),(2,true),(3,true),(4,true),(5,true),(6,true),(7,false),(8,false),(9,false),(10,true)] mixed (by decide +kernel) rfl ?_;intro cW am;replace H:=H.ext am;clear am
     refine ⟨(H.pk [0,1,2,3,4,5,6,7,8]),?_⟩
     refine kg 3 ?_;refine d_q rfl (fun w' H=>x_ix (v:=.pointer (some ⟨aa,(2+Int.toNat ab*13)+Int.toNat (s3:Int)*1,none⟩)) rfl rfl (run_indexS Tryz.underlying96 Sz3 (by omega) (by omega)))<|d_q rfl (fun w' H=>x_ld (v:=I (s.getD ((Int.toNat ab)*13+s3) 0)) rfl (ldS (α:=Int) (k:=1) (off:=2) (i:=(Int.toNat ab)*13+s3) (f:=0) (sz:=1) 0 Sc3 (H.bl 1) rfl (sgo1 rfl) rfl (by decide) (by have aC:=av; omega) (by omega) rfl)) ?_;refine kg 2 ?_;refine d_l rfl ?_;obtain ⟨cX,bX,hM⟩:=M.e_bind hM;refine s_call cf62 [Pq aa,.agg #[I x.line,B x.back]] rfl (zbS ac al x (au.app _) aw (Fld.here (k:=1) rfl rfl) bX _ (H.gt 9)) ?_
     rintro vq cY ⟨r2,rfl,hvq,ag⟩
     subst vq;(try dsimp only at hM);replace H:=H.bk ag;clear ag
     refine s_nil ⟨(H.pk [0,1,2,3,4,5,6,7,8]),?_⟩
     refine d_l rfl ?_;refine t_bs (α:=Int) T22 [I (s.getD ((Int.toNat ab)*13+s3) 0),I r2] [(s.getD ((Int.toNat ab)*13+s3) 0:Int),(r2:Int)] H rfl (.cons rfl (Flat.rep_enc _ (s.getD ((Int.toNat ab)*13+s3) 0:Int))<|.cons rfl (Flat.rep_enc _ (r2:Int))<|.nil) rfl rfl rfl ?_;intro aU cZ H
     have c5:=Sl.cells (H.os 0)
     have c6:=Sl.oc (H.os 0)
     refine s_nil ⟨(H.pk [1,2,3,4,5,6,7,8,9]),?_⟩
     refine d_l rfl ?_;obtain ⟨c7,bY,hM⟩:=M.e_bind hM;refine s_call cf90 [aU] rfl (zc8 ([(s.getD ((Int.toNat ab)*13+s3) 0:Int),(r2:Int)]) (rdo 0) (H.os 0) bY _ (H.gt 10)) ?_
     rintro vq c8 ⟨r3,rfl,hvq,ag⟩
     subst vq;(try dsimp only at hM);replace H:=H.bk ag;clear ag
     refine s_nil ⟨(H.pk [1,2,3,4,5,6,7,8,9]),?_⟩
     refine kg 3 ?_;refine W.draw (fun W=>St w W [cOwn (α:=Int) 3 aU ([(s.getD ((Int.toNat ab)*13+s3) 0:Int),(r2:Int)]),cBlk ax [I x.line,B x.back] 28,cBlk aa (List.flatten [[I ac,ae],encF (α:=Int) s,encF (α:=Leg) s2]) 102,cMk (aE :: ay),cBlk aq [Pq aa] 93,cBlk ar [I ap] 3,cBlk ao [I (s3:Int)] 3,cBlk aj [.pointer (some ⟨aa,171+Int.toNat ab*26,none⟩)] 148,cBlk ai [.pointer (some ⟨aa,2+Int.toNat ab*13,none⟩)] 147,cBlk ah [Pq aa] 93] R) [(0,true),(1,true),(2,true),(3,true),(5,true),(4,false),(6,true),(7,true),(8,true)] mixed (by decide +kernel) rfl ?_;intro c9 am;replace H:=H.ext am;clear am
     refine ⟨(H.pk [0,1,2,3,4,5,6,7,8,9]),?_⟩
     refine kg 5 ?_;refine d_l rfl ?_;obtain ⟨da,bZ,hM⟩:=M.e_bind hM;refine s_call cf61 [Pq aa,.agg #[I x.line,B x.back]] rfl (zat ac al x (au.app _) aw (Fld.here (k:=2) rfl rfl) bZ _ (H.gt 10)) ?_
     rintro vq db ⟨r4,rfl,hvq,ag⟩
     subst vq;(try dsimp only at hM);replace H:=H.bk ag;clear ag
     refine s_nil ⟨(H.pk [0,1,2,3,4,5,6,7,8,9]),?_⟩
     obtain ⟨dc,hM⟩:=M.e_gd hM;refine d_q rfl (fun w' H=>x_ix (v:=.pointer (some ⟨aa,(2+Int.toNat ab*13)+Int.toNat r4*1,none⟩)) rfl rfl (run_indexS Tryz.underlying96 Sz3 (by omega) (by omega)))<|d_q rfl (fun w' H=>x_ld (v:=I (s.getD ((Int.toNat ab)*13+(Int.toNat r4)) 0)) rfl (ldS (α:=Int) (k:=1) (off:=2) (i:=(Int.toNat ab)*13+(Int.toNat r4)) (f:=0) (sz:=1) 0 Sc3 (H.bl 2) rfl (sgo1 rfl) rfl (by decide) (by have aC:=av; omega) (by omega) rfl)) ?_;refine kg 2 ?_
     refine W.cond (decide (r3<(s.getD ((Int.toNat ab)*13+(Int.toNat r4)) 0))) rfl (fun aN=>?_) (fun aN=>?_)
     ·replace hM:=M.e_t hM aN
      replace aN:=dI aN
      refine W.draw (fun W=>St w W [cOwn (α:=Int) 3 aU ([(s.getD ((Int.toNat ab)*13+s3) 0:Int),(r2:Int)]),cBlk ax [I x.line,B x.back] 28,cMk (aE :: ay),cBlk aq [Pq aa] 93,cBlk ar [I ap] 3,cBlk ao [I (s3:Int)] 3,cBlk aj [.pointer (some ⟨aa,171+Int.toNat ab*26,none⟩)] 148,cBlk ai [.pointer (some ⟨aa,2+Int.toNat ab*13,none⟩)] 147,cBlk ah [Pq aa] 93] R) [(0,true),(1,true),(2,true),(4,true),(5,true),(6,true),(8,true),(9,true),(10,true),(13,true),(3,false),(7,false),(11,true),(12,false),(14,true),(15,false)] mixed (by decide +kernel) rfl ?_;intro dh am;replace H:=H.ext am;clear am
      refine ⟨(H.pk [0,1,3,4,5,6,7,8,9]),?_⟩
      refine kg 10 ?_;refine d_l rfl ?_;obtain ⟨di,b0,hM⟩:=M.e_bind hM;refine s_call cf61 [Pq aa,.agg #[I x.line,B x.back]] rfl (zat ac al x (au.app _) aw (Fld.here (k:=2) rfl rfl) b0 _ (H.gt 10)) ?_
      rintro vq dj ⟨r5,rfl,hvq,ag⟩
      subst vq;(try dsimp only at hM);replace H:=H.bk ag;clear ag
      refine s_nil ⟨(H.pk [0,1,3,4,5,6,7,8,9]),?_⟩
      refine d_l rfl ?_;obtain ⟨dk,b7,hM⟩:=M.e_bind hM;refine s_call cf61 [Pq aa,.agg #[I x.line,B x.back]] rfl (zat ac al x (au.app _) aw (Fld.here (k:=2) rfl rfl) b7 _ (H.gt 10)) ?_
      rintro vq dl ⟨r6,rfl,hvq,ag⟩
      subst vq;(try dsimp only at hM);replace H:=H.bk ag;clear ag
      refine s_nil ⟨(H.pk [0,1,3,4,5,6,7,8,9]),?_⟩
      obtain ⟨dm,hM⟩:=M.e_gd hM;refine d_q rfl (fun w' H=>x_ix (v:=.pointer (some ⟨aa,(2+Int.toNat ab*13)+Int.toNat r5*1,none⟩)) rfl rfl (run_indexS Tryz.underlying96 Sz3 (by omega) (by omega)))<|d_l rfl ?_;refine t_stS (α:=Int) (kc:=2) (b:=aa) (k:=1) (off:=2) (i:=(Int.toNat ab)*13+(Int.toNat r5)) (f:=0) (sz:=1) (segs:=[[I ac,ae],encF (α:=Int) s,encF (α:=Leg) s2]) (segs':=[[I ac,ae],encF (α:=Int) (s.set ((Int.toNat ab)*13+(Int.toNat r5)) r3),encF (α:=Leg) s2]) (l:=s) (l':=s.set ((Int.toNat ab)*13+(Int.toNat r5)) r3) (vs:=[I r3]) (L':=[cOwn (α:=Int) 3 aU ([(s.getD ((Int.toNat ab)*13+s3) 0:Int),(r2:Int)]),cBlk ax [I x.line,B x.back] 28,cBlk aa (List.flatten [[I ac,ae],encF (α:=Int) (s.set ((Int.toNat ab)*13+(Int.toNat r5)) r3),encF (α:=Leg) s2]) 102,cMk (aE :: ay),cBlk aq [Pq aa] 93,cBlk ar [I ap] 3,cBlk ao [I (s3:Int)] 3,cBlk aj [.pointer (some ⟨aa,171+Int.toNat ab*26,none⟩)] 148,cBlk ai [.pointer (some ⟨aa,2+Int.toNat ab*13,none⟩)] 147,cBlk ah [Pq aa] 93]) H rfl rfl rfl Sz3 rfl rfl rfl rfl (sgo1 rfl) rfl rfl (by have aC:=av; omega) (by omega) 0 r3 rfl rfl rfl rfl ?_;intro dp H
      have bD:(s.set ((Int.toNat ab)*13+(Int.toNat r5)) r3).length=169:=List.length_set.trans av
      refine s_nil ⟨(H.pk [0,1,3,4,5,6,7,8,9]),?_⟩
      obtain ⟨dt,hM⟩:=M.e_gd hM;refine d_q rfl (fun w' H=>x_ix (v:=.pointer (some ⟨aa,(171+Int.toNat ab*26)+Int.toNat r6*2,none⟩)) rfl rfl (run_indexS Tryz.underlying99 Sz28 (by omega) (by omega)))<|d_l rfl ?_;refine t_stS (α:=Leg) (kc:=2) (b:=aa) (k:=2) (off:=171) (i:=(Int.toNat ab)*13+(Int.toNat r6)) (f:=0) (sz:=2) (segs:=[[I ac,ae],encF (α:=Int) (s.set ((Int.toNat ab)*13+(Int.toNat r5)) r3),encF (α:=Leg) s2]) (segs':=[[I ac,ae],encF (α:=Int) (s.set ((Int.toNat ab)*13+(Int.toNat r5)) r3),encF (α:=Leg) (s2.set ((Int.toNat ab)*13+(Int.toNat r6)) x)]) (l:=s2) (l':=s2.set ((Int.toNat ab)*13+(Int.toNat r6)) x) (vs:=[I x.line,B x.back]) (L':=[cOwn (α:=Int) 3 aU ([(s.getD ((Int.toNat ab)*13+s3) 0:Int),(r2:Int)]),cBlk ax [I x.line,B x.back] 28,cBlk aa (List.flatten [[I ac,ae],encF (α:=Int) (s.set ((Int.toNat ab)*13+(Int.toNat r5)) r3),encF (α:=Leg) (s2.set ((Int.toNat ab)*13+(Int.toNat r6)) x)]) 102,cMk (aE :: ay),cBlk aq [Pq aa] 93,cBlk ar [I ap] 3,cBlk ao [I (s3:Int)] 3,cBlk aj [.pointer (some ⟨aa,171+Int.toNat ab*26,none⟩)] 148,cBlk ai [.pointer (some ⟨aa,2+Int.toNat ab*13,none⟩)] 147,cBlk ah [Pq aa] 93]) H rfl rfl rfl Sz28 rfl rfl rfl rfl (sgo2 bD rfl) rfl rfl (by have aC:=az; omega) (by omega) default x rfl rfl rfl rfl ?_;intro du H
      have b8:(s2.set ((Int.toNat ab)*13+(Int.toNat r6)) x).length=169:=List.length_set.trans az
      refine s_nil ⟨(H.pk [0,1,3,4,5,6,7,8,9]),?_⟩
      refine d_nil ?_
      exact ⟨(s.set ((Int.toNat ab)*13+(Int.toNat r5)) r3,s2.set ((Int.toNat ab)*13+(Int.toNat r6)) x),[cBlk aa (List.flatten [[I ac,ae],encF (α:=Int) (s.set ((Int.toNat ab)*13+(Int.toNat r5)) r3),encF (α:=Leg) (s2.set ((Int.toNat ab)*13+(Int.toNat r6)) x)]) 102],(M.e_pure hM).symm,⟨rfl,bD,b8⟩,H.pick [2,3,4,5,6,7,8,9] (by decide) rfl⟩
     replace hM:=M.e_f hM aN
     replace aN:=dI aN
     refine W.skip ?_
     exact ⟨(s,s2),[cBlk aa (List.flatten [[I ac,ae],encF (α:=Int) s,encF (α:=Leg) s2]) 102],(M.e_pure hM).symm,⟨rfl,av,az⟩,H.pick [2,3,4,5,6,7,8,9] (by decide) rfl⟩
    replace H:St w bV (cAll (cObj aW (.loop ba) :: [cBlk aa (List.flatten [[I ac,ae],encF (α:=Int) s4,encF (α:=Leg) s5]) 102]) :: [cMk (aE :: ay),cBlk aq [Pq aa] 93,cBlk ar [I ap] 3,cBlk ao [I (s3:Int)] 3,cBlk aj [.pointer (some ⟨aa,171+Int.toNat ab*26,none⟩)] 148,cBlk ai [.pointer (some ⟨aa,2+Int.toNat ab*13,none⟩)] 147,cBlk ah [Pq aa] 93]) R:=St.bundleB (A:=cObj aW (.loop ba) :: [cBlk aa (List.flatten [[I ac,ae],encF (α:=Int) s4,encF (α:=Leg) s5]) 102]) (T:=[cMk (aE :: ay),cBlk aq [Pq aa] 93,cBlk ar [I ap] 3,cBlk ao [I (s3:Int)] 3,cBlk aj [.pointer (some ⟨aa,171+Int.toNat ab*26,none⟩)] 148,cBlk ai [.pointer (some ⟨aa,2+Int.toNat ab*13,none⟩)] 147,cBlk ah [Pq aa] 93]) rfl (H.pk [0,2,1,3,4,5,6,7,8])
    refine (zcl (M.yl (zaf ac al ab s3)) (.inl (s4,s5)) ac al ap hYC ⟨_,rfl,⟨rfl,aB,aJ⟩⟩ (au.app _) aw (by rintro (⟨s,s2⟩ | _) _ h_; (obtain ⟨_,rfl,rfl,_,_⟩:=h_; exact Fld.all (Fld.here (k:=1) rfl rfl)); (obtain ⟨_,_,h_⟩:=h_; exact h_.elim)) (Has.here (k:=1) rfl) (Has.here (k:=2) rfl) bU _ (H.gt 7)).mono ?_
    rintro vq dv ⟨b9,dw,rfl,hvq,ag,bE⟩
    replace H:=H.back ag rfl
    clear ag hYC
    rcases b9 with ⟨s,s2⟩ | _
    ·(try dsimp only at hM)
     obtain ⟨_,rfl,rfl,av,az⟩:=bE
     refine ⟨_,[cBlk aa (List.flatten [[I ac,ae],encF (α:=Int) s,encF (α:=Leg) s2]) 102,cBlk aq [Pq aa] 93,cBlk ar [I ap] 3,cBlk ao [I (s3:Int)] 3,cBlk aj [.pointer (some ⟨aa,171+Int.toNat ab*26,none⟩)] 148,cBlk ai [.pointer (some ⟨aa,2+Int.toNat ab*13,none⟩)] 147,cBlk ah [Pq aa] 93],H.unbundle.pick [0,2,1,3,4,5,6,7,8] (by decide) rfl,bb.nb,?_⟩
     intro dx H
     rw [bb.pd]
     replace H:=H.nf
     try simp only []
     refine WD.of ?_;obtain ⟨dy,hM⟩:=M.e_gd hM;refine kg 4 ?_
     exact ⟨bB,bC,s3+1,s,s2,_,upds_of _ _ ⟨rfl,rfl,rfl,rfl,rfl,rfl,rfl,trivial⟩,M.e_inl hM a8,(H.pk [5,6,7,0,1]),av,az⟩
    obtain ⟨_,_,h_⟩:=bE; exact h_.elim
   replace hM:=M.e_f hM aK
   replace aK:=dI aK
   refine WD.of ?_;refine W.exit ?_
   have ca:=M.e_inr hM a8
   subst ca;replace hM:=bS;(try dsimp only at hM);refine WD.of ?_;obtain ⟨dz,hM⟩:=M.e_gd hM;refine kg 4 ?_
   exact ⟨bP,bQ,s4,s5,s8+1,_,upds_of _ _ ⟨rfl,rfl,rfl,rfl,rfl,trivial⟩,M.e_inl hM bz,H,aB,aJ⟩
  replace hM:=M.e_f hM aI
  replace aI:=dI aI
  refine WD.of ?_;refine W.exit ?_
  have cb:=M.e_inr hM bz
  subst cb;replace hM:=bO;(try dsimp only at hM);refine bodyD_n (H.pk [3,0,1,2,4]) ?_;intro dA H;replace H:=H.nf
  have bh:=M.e_pure hM
  exact ⟨_,resE_tmp0 rfl,⟨s6,s7,bh,rfl,(H.pk [3]),aS,aT⟩⟩
 skip
 refine t_alloc (cs:=[.pointer none]) H Al148 rfl ?_;intro aj dB H
 refine s_nil ⟨(H.pk [1,2,3]),?_⟩
 refine t_l rfl ?_;refine t_alloc (cs:=[.pointer none]) H Al147 rfl ?_;intro ai dC H
 refine s_nil ⟨(H.pk [2,3,4]),?_⟩
 refine t_l rfl ?_;refine t_sw 0 0 [.pointer (some ⟨aa,2+Int.toNat ab*13,none⟩)] (.pointer (some ⟨aa,2+Int.toNat ab*13,none⟩)) H rfl rfl Sz147 rfl rfl rfl rfl ?_;intro dD H
 refine s_nil ⟨(H.pk [2,3,4]),?_⟩
 refine t_l rfl ?_;refine t_sw 1 0 [.pointer (some ⟨aa,171+Int.toNat ab*26,none⟩)] (.pointer (some ⟨aa,171+Int.toNat ab*26,none⟩)) H rfl rfl Sz148 rfl rfl rfl rfl ?_;intro dE H
 refine s_nil ⟨(H.pk [2,3,4]),?_⟩
 refine t_nil<|WD.seq<|WD.of ?_;refine kg 8 ?_;refine WD.block ?_;obtain ⟨cd,bi,ce⟩:=M.e_bind hM
 obtain ⟨aZ,bi⟩:=M.e_iter bi
 refine WD.loop (fun m bF σ W=>∃ (s6:List Int) (s7:List Leg) (s8:Nat) (ρ:Env),σ=upds ρ [(2,Pq ah),(4,Pq ai),(5,Pq aj),(23,I ac),(24,I (s8:Int))]/\M.iterN (zaO ac al ab) m (s6,s7,s8)=some cd/\St w W [cBlk ai [.pointer (some ⟨aa,2+Int.toNat ab*13,none⟩)] 147,cBlk aj [.pointer (some ⟨aa,171+Int.toNat ab*26,none⟩)] 148,cBlk ah [Pq aa] 93,cMk bF,cBlk aa (List.flatten [[I ac,ae],encF (α:=Int) s6,encF (α:=Leg) s7]) 102] R/\s6.length=169/\s7.length=169) ?_ ?_
 ·exact ⟨_,aG,aH,0,_,upds_of _ _ ⟨rfl,rfl,rfl,rfl,rfl,trivial⟩,bi,H,bu,bv⟩
 rintro dF bF σ dG ⟨s6,s7,s8,ρ,rfl,bG,H,aS,aT⟩
 obtain ⟨cf,cg,dH,hM,bH⟩:=M.e_iterN bG
 simp only [zaO] at hM
 clear bG;refine WD.seq<|WD.of ?_;refine kg 3 ?_;refine WD.seq ?_
 refine WD.cond (decide ((s8:Int)<ac)) rfl (fun aO=>?_) (fun aO=>?_)
 ·replace hM:=M.e_t hM aO
  replace aO:=dI aO
  refine WD.of<|W.skip<|WD.seq<|WD.block<|WD.seq<|WD.of ?_;refine kg 8 ?_;refine WD.block ?_;obtain ⟨ch,bj,ci⟩:=M.e_bind hM
  obtain ⟨aZ,bj⟩:=M.e_iter bj
  refine WD.loop (fun m aA σ W=>∃ (s3:Nat) (s4:List Int) (s5:List Leg) (ρ:Env),σ=upds ρ [(2,Pq ah),(4,Pq ai),(5,Pq aj),(23,I ac),(24,I (s8:Int)),(30,I ac),(31,I (s3:Int))]/\M.iterN (zaX ac al ab) m (s3,s4,s5)=some ch/\St w W [cBlk ai [.pointer (some ⟨aa,2+Int.toNat ab*13,none⟩)] 147,cBlk aj [.pointer (some ⟨aa,171+Int.toNat ab*26,none⟩)] 148,cBlk ah [Pq aa] 93,cMk aA,cBlk aa (List.flatten [[I ac,ae],encF (α:=Int) s4,encF (α:=Leg) s5]) 102] R/\s4.length=169/\s5.length=169) ?_ ?_
  ·exact ⟨_,0,s6,s7,_,upds_of _ _ ⟨rfl,rfl,rfl,rfl,rfl,rfl,rfl,trivial⟩,bj,H,aS,aT⟩
  rintro dJ aA σ dK ⟨s3,s4,s5,ρ,rfl,bI,H,aB,aJ⟩
  obtain ⟨bJ,bK,dL,hM,bn⟩:=M.e_iterN bI
  simp only [zaX] at hM
  clear bI;refine WD.seq<|WD.of ?_;refine kg 3 ?_;refine WD.seq ?_
  refine WD.cond (decide ((s3:Int)<ac)) rfl (fun aP=>?_) (fun aP=>?_)
  ·replace hM:=M.e_t hM aP
   replace aP:=dI aP
   refine WD.of<|W.skip<|WD.seq<|WD.block<|WD.seq<|WD.of ?_;refine kg 2 ?_;refine t_alloc (cs:=[I 0]) H Al3 rfl ?_;intro ao dM H;refine t_sw 0 0 [I (s3:Int)] (I (s3:Int)) H rfl rfl Sz3 rfl rfl rfl rfl ?_;intro dN H;refine s_nil<|WD.seq<|WD.seq<|WD.of ?_;refine W.draw (fun W=>St w W [cBlk ao [I (s3:Int)] 3,cBlk ai [.pointer (some ⟨aa,2+Int.toNat ab*13,none⟩)] 147,cBlk aj [.pointer (some ⟨aa,171+Int.toNat ab*26,none⟩)] 148,cBlk ah [Pq aa] 93,cMk aA,cBlk aa (List.flatten [[I ac,ae],encF (α:=Int) s4,encF (α:=Leg) s5]) 102] R) [(0,true),(1,true),(2,true),(3,true),(4,true),(5,true)] mixed (by decide +kernel) rfl ?_;intro dO am;replace H:=H.ext am;clear am
   refine ⟨(H.pk [0,1,2,3,4,5]),?_⟩
   obtain ⟨dP,hM⟩:=M.e_gd hM;refine kg 3 ?_;refine d_q rfl (fun w' H=>x_ix (v:=.pointer (some ⟨aa,(2+Int.toNat ab*13)+Int.toNat (s3:Int)*1,none⟩)) rfl rfl (run_indexS Tryz.underlying96 Sz3 (by omega) (by omega)))<|d_q rfl (fun w' H=>x_ld (v:=I (s4.getD ((Int.toNat ab)*13+s3) 0)) rfl (ldS (α:=Int) (k:=1) (off:=2) (i:=(Int.toNat ab)*13+s3) (f:=0) (sz:=1) 0 Sc3 (H.bl 5) rfl (sgo1 rfl) rfl (by decide) (by have aC:=aB; omega) (by omega) rfl)) ?_;refine kg 2 ?_
   refine WD.cond ((s4.getD ((Int.toNat ab)*13+s3) 0)==1099511627776) rfl (fun aQ=>?_) (fun aQ=>?_)
   ·replace hM:=M.e_t hM aQ
    replace aQ:=dI aQ
    refine WD.of ?_;refine W.exit<|WD.of ?_;obtain ⟨dQ,hM⟩:=M.e_gd hM;refine kg 4 ?_
    exact ⟨bJ,bK,s3+1,s4,s5,_,upds_of _ _ ⟨rfl,rfl,rfl,rfl,rfl,rfl,rfl,trivial⟩,M.e_inl hM bn,(H.pk [1,2,3,4,5]),aB,aJ⟩
   replace hM:=M.e_f hM aQ
   replace aQ:=dI aQ
   refine WD.of<|W.skip<|WD.seq<|WD.of ?_;refine kg 3 ?_;obtain ⟨dR,cj,hM⟩:=M.e_bind hM;refine s_call cf71 [Pq aa,I (s3:Int)] rfl (zco ac al (s3:Int) (au.app _) aw (Fld.here (k:=5) rfl rfl) cj _ (H.gt 6)) ?_
   rintro vq dS ⟨ap,aq,ar,rfl,hvq,ag⟩
   subst vq;(try dsimp only at hM);replace H:=H.bk ag;clear ag;refine s_nil<|WD.block ?_;obtain ⟨dT,ck,hM⟩:=M.e_bind hM;refine WD.range (L:=[cBlk aa (List.flatten [[I ac,ae],encF (α:=Int) s4,encF (α:=Leg) s5]) 102,cBlk aq [Pq aa] 93,cBlk ar [I ap] 3,cBlk ao [I (s3:Int)] 3,cBlk ai [.pointer (some ⟨aa,2+Int.toNat ab*13,none⟩)] 147,cBlk aj [.pointer (some ⟨aa,171+Int.toNat ab*26,none⟩)] 148,cBlk ah [Pq aa] 93]) [Pq aq,Pq ar] (H.pk [6,7,0,1,2,3,4,5]) rfl cf82 ?_;intro aX aF bp cm br H
   have hYC:YieldC Tryz.prog ([cMk (aF :: aA),cBlk aq [Pq aa] 93,cBlk ar [I ap] 3,cBlk ao [I (s3:Int)] 3,cBlk ai [.pointer (some ⟨aa,2+Int.toNat ab*13,none⟩)] 147,cBlk aj [.pointer (some ⟨aa,171+Int.toNat ab*26,none⟩)] 148,cBlk ah [Pq aa] 93]++R) arLeg (yJ aX bp (fun (s,s2) aD=>aD=[cBlk aa (List.flatten [[I ac,ae],encF (α:=Int) s,encF (α:=Leg) s2]) 102]/\s.length=169/\s2.length=169) (fun (_:Unit) _=>False) (fun _=>.ret)) (.func (.yield aX) #[] #[]) (M.yl (zaf ac al ab s3)):=by
    refine YieldC.mk2 br (fun (s,s2) aD=>aD=[cBlk aa (List.flatten [[I ac,ae],encF (α:=Int) s,encF (α:=Leg) s2]) 102]/\s.length=169/\s2.length=169) (fun (_:Unit) _=>False) (fun _=>.ret) (zaf ac al ab s3) (by rintro ⟨s,s2⟩ _ h_; obtain ⟨rfl,_,_⟩:=h_; rfl) (fun _ _ h_=>h_.elim) rfl (arLeg_len rfl) ?_;intro C_ bW x bc
    obtain rfl:=bc
    intro w R aM aD s_ r bg hM H
    obtain ⟨s,s2⟩:=s_
    obtain ⟨rfl,av,az⟩:=bg
    replace H:=H.nf;refine W.region rfl ?_;refine t_alloc (cs:=[I 0,B false]) H Al28 rfl ?_;intro ax dU H;refine t_sw 0 0 [I x.line,B x.back] (.agg #[I x.line,B x.back]) H rfl rfl Sz28 rfl rfl rfl rfl ?_;intro dV H;refine s_nil ?_
    refine ⟨rfl,[cBlk ax [I x.line,B x.back] 28],H.pick [0,1,2,3,4,5,6,7,8] (by decide) rfl,?_⟩
    clear H aM
    intro w R aM H
    replace au:=au.sub aM
    replace hM:(zaf ac al ab s3 (s,s2) x).Ends r:=hM
    simp only [zaf] at hM
    replace H:=H.nf;refine kg 2 ?_;refine W.draw (fun W=>St w W [cBlk ax [I x.line,B x.back] 28,cBlk aa (List.flatten [[I ac,ae],encF (α:=Int) s,encF (α:=Leg) s2]) 102,cMk (aF :: aA),cBlk aq [Pq aa] 93,cBlk ar [I ap] 3,cBlk ao [I (s3:Int)] 3,cBlk ai [.pointer (some ⟨aa,2+Int.toNat ab*13,none⟩)] 147,cBlk aj [.pointer (some ⟨aa,171+Int.toNat ab*26,none⟩)] 148,cBlk ah [Pq aa] 93] R) [(0,true),(1,true),(2,true),(3,true),(4,true),(5,true),(6,true),(7,false),(8,false),(9,false),(10,true)] mixed (by decide +kernel) rfl ?_;intro dW am;replace H:=H.ext am;clear am
    refine ⟨(H.pk [0,1,2,3,4,5,6,7,8]),?_⟩
    refine kg 3 ?_;refine d_q rfl (fun w' H=>x_ix (v:=.pointer (some ⟨aa,(2+Int.toNat ab*13)+Int.toNat (s3:Int)*1,none⟩)) rfl rfl (run_indexS Tryz.underlying96 Sz3 (by omega) (by omega)))<|d_q rfl (fun w' H=>x_ld (v:=I (s.getD ((Int.toNat ab)*13+s3) 0)) rfl (ldS (α:=Int) (k:=1) (off:=2) (i:=(Int.toNat ab)*13+s3) (f:=0) (sz:=1) 0 Sc3 (H.bl 1) rfl (sgo1 rfl) rfl (by decide) (by have aC:=av; omega) (by omega) rfl)) ?_;refine kg 2 ?_;refine d_l rfl ?_;obtain ⟨dX,cn,hM⟩:=M.e_bind hM;refine s_call cf62 [Pq aa,.agg #[I x.line,B x.back]] rfl (zbS ac al x (au.app _) aw (Fld.here (k:=1) rfl rfl) cn _ (H.gt 9)) ?_
    rintro vq dY ⟨r2,rfl,hvq,ag⟩
    subst vq;(try dsimp only at hM);replace H:=H.bk ag;clear ag
    refine s_nil ⟨(H.pk [0,1,2,3,4,5,6,7,8]),?_⟩
    refine d_l rfl ?_;refine t_bs (α:=Int) T22 [I (s.getD ((Int.toNat ab)*13+s3) 0),I r2] [(s.getD ((Int.toNat ab)*13+s3) 0:Int),(r2:Int)] H rfl (.cons rfl (Flat.rep_enc _ (s.getD ((Int.toNat ab)*13+s3) 0:Int))<|.cons rfl (Flat.rep_enc _ (r2:Int))<|.nil) rfl rfl rfl ?_;intro aV dZ H
    have d0:=Sl.cells (H.os 0)
    have d5:=Sl.oc (H.os 0)
    refine s_nil ⟨(H.pk [1,2,3,4,5,6,7,8,9]),?_⟩
    refine d_l rfl ?_;obtain ⟨d6,co,hM⟩:=M.e_bind hM;refine s_call cf90 [aV] rfl (zc8 ([(s.getD ((Int.toNat ab)*13+s3) 0:Int),(r2:Int)]) (rdo 0) (H.os 0) co _ (H.gt 10)) ?_
    rintro vq d7 ⟨r3,rfl,hvq,ag⟩
    subst vq;(try dsimp only at hM);replace H:=H.bk ag;clear ag
    refine s_nil ⟨(H.pk [1,2,3,4,5,6,7,8,9]),?_⟩
    refine kg 3 ?_;refine W.draw (fun W=>St w W [cOwn (α:=Int) 3 aV ([(s.getD ((Int.toNat ab)*13+s3) 0:Int),(r2:Int)]),cBlk ax [I x.line,B x.back] 28,cBlk aa (List.flatten [[I ac,ae],encF (α:=Int) s,encF (α:=Leg) s2]) 102,cMk (aF :: aA),cBlk aq [Pq aa] 93,cBlk ar [I ap] 3,cBlk ao [I (s3:Int)] 3,cBlk ai [.pointer (some ⟨aa,2+Int.toNat ab*13,none⟩)] 147,cBlk aj [.pointer (some ⟨aa,171+Int.toNat ab*26,none⟩)] 148,cBlk ah [Pq aa] 93] R) [(0,true),(1,true),(2,true),(3,true),(5,true),(4,false),(6,true),(7,true),(8,true)] mixed (by decide +kernel) rfl ?_;intro d8 am;replace H:=H.ext am;clear am
    refine ⟨(H.pk [0,1,2,3,4,5,6,7,8,9]),?_⟩
    refine kg 5 ?_;refine d_l rfl ?_;obtain ⟨d9,cp,hM⟩:=M.e_bind hM;refine s_call cf61 [Pq aa,.agg #[I x.line,B x.back]] rfl (zat ac al x (au.app _) aw (Fld.here (k:=2) rfl rfl) cp _ (H.gt 10)) ?_
    rintro vq ec ⟨r4,rfl,hvq,ag⟩
    subst vq;(try dsimp only at hM);replace H:=H.bk ag;clear ag
    refine s_nil ⟨(H.pk [0,1,2,3,4,5,6,7,8,9]),?_⟩
    obtain ⟨ee,hM⟩:=M.e_gd hM;refine d_q rfl (fun w' H=>x_ix (v:=.pointer (some ⟨aa,(2+Int.toNat ab*13)+Int.toNat r4*1,none⟩)) rfl rfl (run_indexS Tryz.underlying96 Sz3 (by omega) (by omega)))<|d_q rfl (fun w' H=>x_ld (v:=I (s.getD ((Int.toNat ab)*13+(Int.toNat r4)) 0)) rfl (ldS (α:=Int) (k:=1) (off:=2) (i:=(Int.toNat ab)*13+(Int.toNat r4)) (f:=0) (sz:=1) 0 Sc3 (H.bl 2) rfl (sgo1 rfl) rfl (by decide) (by have aC:=av; omega) (by omega) rfl)) ?_;refine kg 2 ?_
    refine W.cond (decide (r3<(s.getD ((Int.toNat ab)*13+(Int.toNat r4)) 0))) rfl (fun aR=>?_) (fun aR=>?_)
    ·replace hM:=M.e_t hM aR
     replace aR:=dI aR
     refine W.draw (fun W=>St w W [cOwn (α:=Int) 3 aV ([(s.getD ((Int.toNat ab)*13+s3) 0:Int),(r2:Int)]),cBlk ax [I x.line,B x.back] 28,cMk (aF :: aA),cBlk aq [Pq aa] 93,cBlk ar [I ap] 3,cBlk ao [I (s3:Int)] 3,cBlk ai [.pointer (some ⟨aa,2+Int.toNat ab*13,none⟩)] 147,cBlk aj [.pointer (some ⟨aa,171+Int.toNat ab*26,none⟩)] 148,cBlk ah [Pq aa] 93] R) [(0,true),(1,true),(2,true),(4,true),(5,true),(6,true),(8,true),(9,true),(10,true),(13,true),(3,false),(7,false),(11,true),(12,false),(14,true),(15,false)] mixed (by decide +kernel) rfl ?_;intro eh am;replace H:=H.ext am;clear am
     refine ⟨(H.pk [0,1,3,4,5,6,7,8,9]),?_⟩
     refine kg 10 ?_;refine d_l rfl ?_;obtain ⟨ei,cq,hM⟩:=M.e_bind hM;refine s_call cf61 [Pq aa,.agg #[I x.line,B x.back]] rfl (zat ac al x (au.app _) aw (Fld.here (k:=2) rfl rfl) cq _ (H.gt 10)) ?_
     rintro vq em ⟨r5,rfl,hvq,ag⟩
     subst vq;(try dsimp only at hM);replace H:=H.bk ag;clear ag
     refine s_nil ⟨(H.pk [0,1,3,4,5,6,7,8,9]),?_⟩
     refine d_l rfl ?_;obtain ⟨eo,cr,hM⟩:=M.e_bind hM;refine s_call cf61 [Pq aa,.agg #[I x.line,B x.back]] rfl (zat ac al x (au.app _) aw (Fld.here (k:=2) rfl rfl) cr _ (H.gt 10)) ?_
     rintro vq eq ⟨r6,rfl,hvq,ag⟩
     subst vq;(try dsimp only at hM);replace H:=H.bk ag;clear ag
     refine s_nil ⟨(H.pk [0,1,3,4,5,6,7,8,9]),?_⟩
     obtain ⟨eu,hM⟩:=M.e_gd hM;refine d_q rfl (fun w' H=>x_ix (v:=.pointer (some ⟨aa,(2+Int.toNat ab*13)+Int.toNat r5*1,none⟩)) rfl rfl (run_indexS Tryz.underlying96 Sz3 (by omega) (by omega)))<|d_l rfl ?_;refine t_stS (α:=Int) (kc:=2) (b:=aa) (k:=1) (off:=2) (i:=(Int.toNat ab)*13+(Int.toNat r5)) (f:=0) (sz:=1) (segs:=[[I ac,ae],encF (α:=Int) s,encF (α:=Leg) s2]) (segs':=[[I ac,ae],encF (α:=Int) (s.set ((Int.toNat ab)*13+(Int.toNat r5)) r3),encF (α:=Leg) s2]) (l:=s) (l':=s.set ((Int.toNat ab)*13+(Int.toNat r5)) r3) (vs:=[I r3]) (L':=[cOwn (α:=Int) 3 aV ([(s.getD ((Int.toNat ab)*13+s3) 0:Int),(r2:Int)]),cBlk ax [I x.line,B x.back] 28,cBlk aa (List.flatten [[I ac,ae],encF (α:=Int) (s.set ((Int.toNat ab)*13+(Int.toNat r5)) r3),encF (α:=Leg) s2]) 102,cMk (aF :: aA),cBlk aq [Pq aa] 93,cBlk ar [I ap] 3,cBlk ao [I (s3:Int)] 3,cBlk ai [.pointer (some ⟨aa,2+Int.toNat ab*13,none⟩)] 147,cBlk aj [.pointer (some ⟨aa,171+Int.toNat ab*26,none⟩)] 148,cBlk ah [Pq aa] 93]) H rfl rfl rfl Sz3 rfl rfl rfl rfl (sgo1 rfl) rfl rfl (by have aC:=av; omega) (by omega) 0 r3 rfl rfl rfl rfl ?_;intro ew H
     have bL:(s.set ((Int.toNat ab)*13+(Int.toNat r5)) r3).length=169:=List.length_set.trans av
     refine s_nil ⟨(H.pk [0,1,3,4,5,6,7,8,9]),?_⟩
     obtain ⟨ey,hM⟩:=M.e_gd hM;refine d_q rfl (fun w' H=>x_ix (v:=.pointer (some ⟨aa,(171+Int.toNat ab*26)+Int.toNat r6*2,none⟩)) rfl rfl (run_indexS Tryz.underlying99 Sz28 (by omega) (by omega)))<|d_l rfl ?_;refine t_stS (α:=Leg) (kc:=2) (b:=aa) (k:=2) (off:=171) (i:=(Int.toNat ab)*13+(Int.toNat r6)) (f:=0) (sz:=2) (segs:=[[I ac,ae],encF (α:=Int) (s.set ((Int.toNat ab)*13+(Int.toNat r5)) r3),encF (α:=Leg) s2]) (segs':=[[I ac,ae],encF (α:=Int) (s.set ((Int.toNat ab)*13+(Int.toNat r5)) r3),encF (α:=Leg) (s2.set ((Int.toNat ab)*13+(Int.toNat r6)) x)]) (l:=s2) (l':=s2.set ((Int.toNat ab)*13+(Int.toNat r6)) x) (vs:=[I x.line,B x.back]) (L':=[cOwn (α:=Int) 3 aV ([(s.getD ((Int.toNat ab)*13+s3) 0:Int),(r2:Int)]),cBlk ax [I x.line,B x.back] 28,cBlk aa (List.flatten [[I ac,ae],encF (α:=Int) (s.set ((Int.toNat ab)*13+(Int.toNat r5)) r3),encF (α:=Leg) (s2.set ((Int.toNat ab)*13+(Int.toNat r6)) x)]) 102,cMk (aF :: aA),cBlk aq [Pq aa] 93,cBlk ar [I ap] 3,cBlk ao [I (s3:Int)] 3,cBlk ai [.pointer (some ⟨aa,2+Int.toNat ab*13,none⟩)] 147,cBlk aj [.pointer (some ⟨aa,171+Int.toNat ab*26,none⟩)] 148,cBlk ah [Pq aa] 93]) H rfl rfl rfl Sz28 rfl rfl rfl rfl (sgo2 bL rfl) rfl rfl (by have aC:=az; omega) (by omega) default x rfl rfl rfl rfl ?_;intro ez H
     have ct:(s2.set ((Int.toNat ab)*13+(Int.toNat r6)) x).length=169:=List.length_set.trans az
     refine s_nil ⟨(H.pk [0,1,3,4,5,6,7,8,9]),?_⟩
     refine d_nil ?_
     exact ⟨(s.set ((Int.toNat ab)*13+(Int.toNat r5)) r3,s2.set ((Int.toNat ab)*13+(Int.toNat r6)) x),[cBlk aa (List.flatten [[I ac,ae],encF (α:=Int) (s.set ((Int.toNat ab)*13+(Int.toNat r5)) r3),encF (α:=Leg) (s2.set ((Int.toNat ab)*13+(Int.toNat r6)) x)]) 102],(M.e_pure hM).symm,⟨rfl,bL,ct⟩,H.pick [2,3,4,5,6,7,8,9] (by decide) rfl⟩
    replace hM:=M.e_f hM aR
    replace aR:=dI aR
    refine W.skip ?_
    exact ⟨(s,s2),[cBlk aa (List.flatten [[I ac,ae],encF (α:=Int) s,encF (α:=Leg) s2]) 102],(M.e_pure hM).symm,⟨rfl,av,az⟩,H.pick [2,3,4,5,6,7,8,9] (by decide) rfl⟩
   replace H:St w cm (cAll (cObj aX (.loop bp) :: [cBlk aa (List.flatten [[I ac,ae],encF (α:=Int) s4,encF (α:=Leg) s5]) 102]) :: [cMk (aF :: aA),cBlk aq [Pq aa] 93,cBlk ar [I ap] 3,cBlk ao [I (s3:Int)] 3,cBlk ai [.pointer (some ⟨aa,2+Int.toNat ab*13,none⟩)] 147,cBlk aj [.pointer (some ⟨aa,171+Int.toNat ab*26,none⟩)] 148,cBlk ah [Pq aa] 93]) R:=St.bundleB (A:=cObj aX (.loop bp) :: [cBlk aa (List.flatten [[I ac,ae],encF (α:=Int) s4,encF (α:=Leg) s5]) 102]) (T:=[cMk (aF :: aA),cBlk aq [Pq aa] 93,cBlk ar [I ap] 3,cBlk ao [I (s3:Int)] 3,cBlk ai [.pointer (some ⟨aa,2+Int.toNat ab*13,none⟩)] 147,cBlk aj [.pointer (some ⟨aa,171+Int.toNat ab*26,none⟩)] 148,cBlk ah [Pq aa] 93]) rfl (H.pk [0,2,1,3,4,5,6,7,8])
   refine (zcl (M.yl (zaf ac al ab s3)) (.inl (s4,s5)) ac al ap hYC ⟨_,rfl,⟨rfl,aB,aJ⟩⟩ (au.app _) aw (by rintro (⟨s,s2⟩ | _) _ h_; (obtain ⟨_,rfl,rfl,_,_⟩:=h_; exact Fld.all (Fld.here (k:=1) rfl rfl)); (obtain ⟨_,_,h_⟩:=h_; exact h_.elim)) (Has.here (k:=1) rfl) (Has.here (k:=2) rfl) ck _ (H.gt 7)).mono ?_
   rintro vq eA ⟨cu,eB,rfl,hvq,ag,bM⟩
   replace H:=H.back ag rfl
   clear ag hYC
   rcases cu with ⟨s,s2⟩ | _
   ·(try dsimp only at hM)
    obtain ⟨_,rfl,rfl,av,az⟩:=bM
    refine ⟨_,[cBlk aa (List.flatten [[I ac,ae],encF (α:=Int) s,encF (α:=Leg) s2]) 102,cBlk aq [Pq aa] 93,cBlk ar [I ap] 3,cBlk ao [I (s3:Int)] 3,cBlk ai [.pointer (some ⟨aa,2+Int.toNat ab*13,none⟩)] 147,cBlk aj [.pointer (some ⟨aa,171+Int.toNat ab*26,none⟩)] 148,cBlk ah [Pq aa] 93],H.unbundle.pick [0,2,1,3,4,5,6,7,8] (by decide) rfl,br.nb,?_⟩
    intro eC H
    rw [br.pd]
    replace H:=H.nf
    try simp only []
    refine WD.of ?_;obtain ⟨eD,hM⟩:=M.e_gd hM;refine kg 4 ?_
    exact ⟨bJ,bK,s3+1,s,s2,_,upds_of _ _ ⟨rfl,rfl,rfl,rfl,rfl,rfl,rfl,trivial⟩,M.e_inl hM bn,(H.pk [5,6,7,0,1]),av,az⟩
   obtain ⟨_,_,h_⟩:=bM; exact h_.elim
  replace hM:=M.e_f hM aP
  replace aP:=dI aP
  refine WD.of ?_;refine W.exit ?_
  have cv:=M.e_inr hM bn
  subst cv;replace hM:=ci;(try dsimp only at hM);refine WD.of ?_;obtain ⟨eE,hM⟩:=M.e_gd hM;refine kg 4 ?_
  exact ⟨cf,cg,s4,s5,s8+1,_,upds_of _ _ ⟨rfl,rfl,rfl,rfl,rfl,trivial⟩,M.e_inl hM bH,H,aB,aJ⟩
 replace hM:=M.e_f hM aO
 replace aO:=dI aO
 refine WD.of ?_;refine W.exit ?_
 have cw:=M.e_inr hM bH
 subst cw;replace hM:=ce;(try dsimp only at hM);refine bodyD_n (H.pk [3,0,1,2,4]) ?_;intro eF H;replace H:=H.nf
 have bh:=M.e_pure hM
 exact ⟨_,resE_tmp0 rfl,⟨s6,s7,bh,rfl,(H.pk [3]),aS,aT⟩⟩

end Go.Proofs.YtfdgkdkfbaghpaaGreat
end
section
set_option maxRecDepth 100000
set_option maxHeartbeats 16000000
namespace Go.Proofs.YtfdgkdkfbaghpaaGreat
open Go Go.Nm
attribute [local irreducible] gd execOp SL SLD SLT WR
def zce (n_Marks:Int) (s4:Nat):((List Int) × Nat)->M (((List Int) × Nat) ⊕ (List Int)):=fun (s,s2) =>
  bif decide ((s2:Int)<n_Marks) then (
  M.grd (decide ((0:Int)<=(s4:Int))&&decide ((s4:Int)<(13:Int))) <|
  M.grd (decide ((0:Int)<=(s2:Int))&&decide ((s2:Int)<(13:Int))) <|
  M.grd (decide ((-9223372036854775808:Int)<=((s2:Int)+1))&&decide (((s2:Int)+1)<=(9223372036854775807:Int))) <|
  M.pure (.inl (s.set (s4*13+s2) 1099511627776,s2+1)))
  else (
  M.pure (.inr s))
def zbV (n_Marks:Int):((List Int) × Nat)->M (((List Int) × Nat) ⊕ (List Int)):=fun (s3,s4) =>
  bif decide ((s4:Int)<n_Marks) then (
  M.bind (M.iter (zce n_Marks s4) (s3,0)) fun l =>
  M.grd (decide ((0:Int)<=(s4:Int))&&decide ((s4:Int)<(13:Int))) <|
  M.grd (decide ((-9223372036854775808:Int)<=((s4:Int)+1))&&decide (((s4:Int)+1)<=(9223372036854775807:Int))) <|
  M.pure (.inl (l.set (s4*13+s4) 0,s4+1)))
  else (
  M.pure (.inr s3))
def zbv (n_Marks:Int) (n_Lines:List Line):((List Int) × (List Leg) × Nat)->M (((List Int) × (List Leg) × Nat) ⊕ ((List Int) × (List Leg))):=fun (s5,s6,s7) =>
  bif decide ((s7:Int)<n_Marks) then (
  M.bind (zbF n_Marks n_Lines s5 s6 (s7:Int)) fun (q2,q3) =>
  M.grd (decide ((-9223372036854775808:Int)<=((s7:Int)+1))&&decide (((s7:Int)+1)<=(9223372036854775807:Int))) <|
  M.pure (.inl (q2,q3,s7+1)))
  else (
  M.pure (.inr (s5,s6)))
def zby (n_Marks:Int) (n_Lines:List Line):M (Int × (List Int) × (List Leg)) :=
  M.bind (M.iter (zbV n_Marks) (List.replicate 169 0,0)) fun l2 =>
  M.bind (M.iter (zbv n_Marks n_Lines) (l2,List.replicate 169 default,0)) fun (l3,l4) =>
  M.pure (n_Marks,l3,l4)
theorem zdh {R:List Chunk} {ao:Cells} {aa:Value} (n_Marks:Int) (n_Lines:List Line) (aD:Reads R ao) (aE:Sl ao aa n_Lines) {r:(Int × (List Int) × (List Leg))} (hM:(zby n_Marks n_Lines).Ends r) (w:World) (H:St w w [] R):Ret Tryz.prog 67 #[.agg #[I n_Marks,aa]] w fun v w'=>∃ (y0:Int) (y1:List Int) (y2:List Leg) (ap:Nat),(y0,y1,y2)=r/\v=Pq ap/\St w w' [cBlk ap (List.flatten [[I y0,aa],encF (α:=Int) y1,encF (α:=Leg) y2]) 102] R/\y1.length=169/\y2.length=169:=by
 refine ret_of_W Tryz.func67 rfl rfl rfl ?_;refine kg 2 ?_;refine t_bx [I n_Marks,aa] H rfl ?_;intro ac a8 H;refine kg 5 ?_;refine s_val (x_bld (ps:=[(0,.agg #[I n_Marks,aa])]) (zs:=(List.flatten [[I 0,.slice none 0 0],encF (α:=Int) (List.replicate 169 0),encF (α:=Leg) (List.replicate 169 default)])) (L':=(List.flatten [[I n_Marks,aa],encF (α:=Int) (List.replicate 169 0),encF (α:=Leg) (List.replicate 169 default)])) rfl Tryz.underlying102 Al102 rfl (Bd102 Tryz.underlying102) (.cons (cs:=[I n_Marks,aa]) rfl rfl rfl (by kernel_rfl) rfl<|.nil)) ?_;refine t_box (v:=.agg (List.flatten [[I n_Marks,aa],encF (α:=Int) (List.replicate 169 0),encF (α:=Leg) (List.replicate 169 default)]).toArray) (cs:=(List.flatten [[I n_Marks,aa],encF (α:=Int) (List.replicate 169 0),encF (α:=Leg) (List.replicate 169 default)])) H rfl rfl ?_;intro ab ba H;refine kg 10 ?_;obtain ⟨aF,aj,aG⟩:=M.e_bind hM
 obtain ⟨aq,aj⟩:=M.e_iter aj
 refine W.loop (fun m σ W=>∃ (s3:List Int) (s4:Nat) (ρ:Env),σ=upds ρ [(1,Pq ac),(3,Pq ab),(11,I n_Marks),(12,I (s4:Int))]/\M.iterN (zbV n_Marks) m (s3,s4)=some aF/\St w W [cBlk ab (List.flatten [[I n_Marks,aa],encF (α:=Int) s3,encF (α:=Leg) (List.replicate 169 default)]) 102,cBlk ac [I n_Marks,aa] 25] R/\s3.length=169) ?_ ?_
 ·exact ⟨_,List.replicate 169 0,0,_,upds_of _ _ ⟨rfl,rfl,rfl,rfl,trivial⟩,aj,H,List.length_replicate⟩
 rintro bb σ bc ⟨s3,s4,ρ,rfl,ar,H,au⟩
 obtain ⟨aH,aI,bg,hM,av⟩:=M.e_iterN ar
 simp only [zbV] at hM
 clear ar;refine kg 5 ?_
 refine W.cond (decide ((s4:Int)<n_Marks)) rfl (fun ae=>?_) (fun ae=>?_)
 ·replace hM:=M.e_t hM ae
  replace ae:=dI ae
  refine kg 16 ?_;obtain ⟨aJ,al,aK⟩:=M.e_bind hM
  obtain ⟨aq,al⟩:=M.e_iter al
  refine W.loop (fun m σ W=>∃ (s:List Int) (s2:Nat) (ρ:Env),σ=upds ρ [(1,Pq ac),(3,Pq ab),(4,I (s4:Int)),(11,I n_Marks),(12,I (s4:Int)),(16,I n_Marks),(17,I (s2:Int))]/\M.iterN (zce n_Marks s4) m (s,s2)=some aJ/\St w W [cBlk ab (List.flatten [[I n_Marks,aa],encF (α:=Int) s,encF (α:=Leg) (List.replicate 169 default)]) 102,cBlk ac [I n_Marks,aa] 25] R/\s.length=169) ?_ ?_
  ·exact ⟨_,s3,0,_,upds_of _ _ ⟨rfl,rfl,rfl,rfl,rfl,rfl,rfl,trivial⟩,al,H,au⟩
  rintro bh σ bi ⟨s,s2,ρ,rfl,aw,H,ai⟩
  obtain ⟨aL,aM,bj,hM,ax⟩:=M.e_iterN aw
  simp only [zce] at hM
  clear aw;refine kg 5 ?_
  refine W.cond (decide ((s2:Int)<n_Marks)) rfl (fun ag=>?_) (fun ag=>?_)
  ·replace hM:=M.e_t hM ag
   replace ag:=dI ag
   obtain ⟨bn,hM⟩:=M.e_gd hM;refine kg 14 ?_;refine s_val (x_ix (v:=.pointer (some ⟨ab,2+Int.toNat (s4:Int)*13,none⟩)) rfl rfl (run_indexS Tryz.underlying98 Sz96 (by omega) (by omega))) ?_;obtain ⟨bp,hM⟩:=M.e_gd hM;refine s_val (x_ix (v:=.pointer (some ⟨ab,(2+Int.toNat (s4:Int)*13)+Int.toNat (s2:Int)*1,none⟩)) rfl rfl (run_indexS Tryz.underlying96 Sz3 (by omega) (by omega))) ?_;refine t_stS (α:=Int) (kc:=0) (b:=ab) (k:=1) (off:=2) (i:=s4*13+s2) (f:=0) (sz:=1) (segs:=[[I n_Marks,aa],encF (α:=Int) s,encF (α:=Leg) (List.replicate 169 default)]) (segs':=[[I n_Marks,aa],encF (α:=Int) (s.set (s4*13+s2) 1099511627776),encF (α:=Leg) (List.replicate 169 default)]) (l:=s) (l':=s.set (s4*13+s2) 1099511627776) (vs:=[I 1099511627776]) (L':=[cBlk ab (List.flatten [[I n_Marks,aa],encF (α:=Int) (s.set (s4*13+s2) 1099511627776),encF (α:=Leg) (List.replicate 169 default)]) 102,cBlk ac [I n_Marks,aa] 25]) H rfl rfl rfl Sz3 rfl rfl rfl rfl (sgo1 rfl) rfl rfl (by have aN:=ai; omega) (by omega) 0 1099511627776 rfl rfl rfl rfl ?_;intro br H
   have aO:(s.set (s4*13+s2) 1099511627776).length=169:=List.length_set.trans ai
   obtain ⟨bt,hM⟩:=M.e_gd hM;refine kg 5 ?_
   exact ⟨aL,aM,s.set (s4*13+s2) 1099511627776,s2+1,_,upds_of _ _ ⟨rfl,rfl,rfl,rfl,rfl,rfl,rfl,trivial⟩,M.e_inl hM ax,H,aO⟩
  replace hM:=M.e_f hM ag
  replace ag:=dI ag
  refine W.exit ?_
  have aP:=M.e_inr hM ax
  subst aP;replace hM:=aK;(try dsimp only at hM);obtain ⟨bu,hM⟩:=M.e_gd hM;refine kg 6 ?_;refine s_val (x_ix (v:=.pointer (some ⟨ab,2+Int.toNat (s4:Int)*13,none⟩)) rfl rfl (run_indexS Tryz.underlying98 Sz96 (by omega) (by omega)))<|s_val (x_ix (v:=.pointer (some ⟨ab,(2+Int.toNat (s4:Int)*13)+Int.toNat (s4:Int)*1,none⟩)) rfl rfl (run_indexS Tryz.underlying96 Sz3 (by omega) (by omega))) ?_;refine t_stS (α:=Int) (kc:=0) (b:=ab) (k:=1) (off:=2) (i:=s4*13+s4) (f:=0) (sz:=1) (segs:=[[I n_Marks,aa],encF (α:=Int) s,encF (α:=Leg) (List.replicate 169 default)]) (segs':=[[I n_Marks,aa],encF (α:=Int) (s.set (s4*13+s4) 0),encF (α:=Leg) (List.replicate 169 default)]) (l:=s) (l':=s.set (s4*13+s4) 0) (vs:=[I 0]) (L':=[cBlk ab (List.flatten [[I n_Marks,aa],encF (α:=Int) (s.set (s4*13+s4) 0),encF (α:=Leg) (List.replicate 169 default)]) 102,cBlk ac [I n_Marks,aa] 25]) H rfl rfl rfl Sz3 rfl rfl rfl rfl (sgo1 rfl) rfl rfl (by have aN:=ai; omega) (by omega) 0 0 rfl rfl rfl rfl ?_;intro bv H
  have aQ:(s.set (s4*13+s4) 0).length=169:=List.length_set.trans ai
  obtain ⟨bw,hM⟩:=M.e_gd hM;refine kg 5 ?_
  exact ⟨aH,aI,s.set (s4*13+s4) 0,s4+1,_,upds_of _ _ ⟨rfl,rfl,rfl,rfl,trivial⟩,M.e_inl hM av,H,aQ⟩
 replace hM:=M.e_f hM ae
 replace ae:=dI ae
 refine W.exit ?_
 have aR:=M.e_inr hM av
 subst aR;replace hM:=aG;(try dsimp only at hM);refine kg 8 ?_;obtain ⟨aS,am,aT⟩:=M.e_bind hM
 obtain ⟨aq,am⟩:=M.e_iter am
 refine W.loop (fun m σ W=>∃ (s5:List Int) (s6:List Leg) (s7:Nat) (ρ:Env),σ=upds ρ [(3,Pq ab),(37,I n_Marks),(38,I (s7:Int))]/\M.iterN (zbv n_Marks n_Lines) m (s5,s6,s7)=some aS/\St w W [cBlk ab (List.flatten [[I n_Marks,aa],encF (α:=Int) s5,encF (α:=Leg) s6]) 102,cBlk ac [I n_Marks,aa] 25] R/\s5.length=169/\s6.length=169) ?_ ?_
 ·exact ⟨_,s3,List.replicate 169 default,0,_,upds_of _ _ ⟨rfl,rfl,rfl,trivial⟩,am,H,au,List.length_replicate⟩
 rintro bx σ bz ⟨s5,s6,s7,ρ,rfl,ay,H,az,aA⟩
 obtain ⟨aU,aV,bA,hM,aB⟩:=M.e_iterN ay
 simp only [zbv] at hM
 clear ay;refine kg 5 ?_
 refine W.cond (decide ((s7:Int)<n_Marks)) rfl (fun ah=>?_) (fun ah=>?_)
 ·replace hM:=M.e_t hM ah
  replace ah:=dI ah
  refine kg 11 ?_;obtain ⟨bB,aW,hM⟩:=M.e_bind hM;refine s_call cf80 [Pq ab,I (s7:Int)] rfl (zds n_Marks n_Lines s5 s6 (s7:Int) (aD.app _) aE az aA aW _ (H.gt 1)) ?_
  rintro vq bC ⟨q2,q3,rfl,hvq,aC,aX,aY⟩
  subst vq;(try dsimp only at hM);replace H:=H.bk aC;clear aC;obtain ⟨bD,hM⟩:=M.e_gd hM;refine kg 5 ?_
  exact ⟨aU,aV,q2,q3,s7+1,_,upds_of _ _ ⟨rfl,rfl,rfl,trivial⟩,M.e_inl hM aB,H,aX,aY⟩
 replace hM:=M.e_f hM ah
 replace ah:=dI ah
 refine W.exit ?_
 have aZ:=M.e_inr hM aB
 subst aZ;replace hM:=aT;(try dsimp only at hM);refine kg 5 ?_;refine W.ret ?_
 have a7:=M.e_pure hM
 exact ⟨_,resE_tmp rfl,⟨n_Marks,s5,s6,ab,a7,rfl,(H.pk [0]),az,aA⟩⟩

def zao (n_Marks:Int) (n_Lines:List Line):M (Int ⊕ (Int × (List Int) × (List Leg) × Int)) :=
  M.bind (zak n_Marks n_Lines) fun r2 =>
  bif r2 != 0 then (
  M.pure (.inl r2))
  else (
  M.bind (zby n_Marks n_Lines) fun (r0,aa,r3) =>
  M.pure (.inr (r0,aa,r3,0)))
theorem zcC {R:List Chunk} {ag:Cells} {ab:Value} (n_Marks:Int) (n_Lines:List Line) (ah:Reads R ag) (ai:Sl ag ab n_Lines) {r:(Int ⊕ (Int × (List Int) × (List Leg) × Int))} (hM:(zao n_Marks n_Lines).Ends r) (w:World) (H:St w w [] R):Ret Tryz.prog 47 #[.agg #[I n_Marks,ab]] w fun v w'=>(∃ (y0:Int),(.inl y0)=r/\v = .tuple #[.pointer none,I y0]/\St w w' [] R)∨(∃ (y0:Int) (y1:List Int) (y2:List Leg) (y3:Int) (aj:Nat),(.inr (y0,y1,y2,y3))=r/\v = .tuple #[Pq aj,I y3]/\St w w' [cBlk aj (List.flatten [[I y0,ab],encF (α:=Int) y1,encF (α:=Leg) y2]) 102] R/\y1.length=169/\y2.length=169):=by
 refine ret_of_W Tryz.func47 rfl rfl rfl ?_;refine kg 2 ?_;refine t_bx [I n_Marks,ab] H rfl ?_;intro au av H;refine kg 7 ?_;obtain ⟨aw,al,hM⟩:=M.e_bind hM;refine s_call cf8 [.agg #[I n_Marks,ab]] rfl (zaC n_Marks n_Lines (ah.app _) ai al _ (H.gt 1)) ?_
 rintro vq ax ⟨r2,rfl,hvq,ac⟩
 subst vq;(try dsimp only at hM);replace H:=H.bk ac;clear ac;refine kg 7 ?_
 refine W.cond (r2 != 0) rfl (fun aa=>?_) (fun aa=>?_)
 ·replace hM:=M.e_t hM aa
  replace aa:=dI aa
  refine kg 6 ?_;refine W.ret ?_
  have ae:=M.e_pure hM
  exact ⟨_,resE_tmp2 rfl,.inl (⟨r2,ae,rfl,(H.pk [])⟩)⟩
 replace hM:=M.e_f hM aa
 replace aa:=dI aa
 refine kg 4 ?_;obtain ⟨ay,am,hM⟩:=M.e_bind hM;refine s_call cf67 [.agg #[I n_Marks,ab]] rfl (zdh n_Marks n_Lines (ah.app _) ai am _ (H.gt 1)) ?_
 rintro vq az ⟨r0,ao,r3,ap,rfl,hvq,ac,aq,ar⟩
 subst vq;(try dsimp only at hM);replace H:=H.bk ac;clear ac;refine kg 3 ?_;refine W.ret ?_
 have ae:=M.e_pure hM
 exact ⟨_,resE_tmp2 rfl,.inr (⟨r0,ao,r3,0,ap,ae,rfl,(H.pk [0]),aq,ar⟩)⟩

def zbC (ab:Int) (ac:List Line) (aa:List Int) (s2:Nat) (x:Leg):Nat->M (Nat ⊕ (Unit ⊕ Unit)):=fun s =>
  bif decide ((s:Int)<ab) then (
  M.grd (decide ((0:Int)<=(s:Int))&&decide ((s:Int)<(13:Int))) <|
  M.grd (decide ((0:Int)<=(s2:Int))&&decide ((s2:Int)<(13:Int))) <|
  M.bind (M.opt (decide ((aa.getD (s*13+s2) 0)<1099511627776)) (zaI ab ac x) 0) fun r2 =>
  M.grd ((!(decide ((aa.getD (s*13+s2) 0)<1099511627776))||(decide ((-9223372036854775808:Int)<=((aa.getD (s*13+s2) 0)+r2))&&decide (((aa.getD (s*13+s2) 0)+r2)<=(9223372036854775807:Int))))) <|
  M.bind (M.opt (decide ((aa.getD (s*13+s2) 0)<1099511627776)) (zay ab ac x) 0) fun r3 =>
  M.grd ((!(decide ((aa.getD (s*13+s2) 0)<1099511627776))||(decide ((0:Int)<=r3)&&decide (r3<(13:Int))))) <|
  bif ((decide ((aa.getD (s*13+s2) 0)<1099511627776))&&(decide (((aa.getD (s*13+s2) 0)+r2)<(aa.getD (s*13+(Int.toNat r3)) 0)))) then (
  M.pure (.inr (.inl ())))
  else (
  M.grd (decide ((-9223372036854775808:Int)<=((s:Int)+1))&&decide (((s:Int)+1)<=(9223372036854775807:Int))) <|
  M.pure (.inl (s+1))))
  else (
  M.pure (.inr (.inr ())))
def zaE (aa:Int) (ab:List Line) (ac:List Int) (s2:Nat):Unit->Leg->M (Unit ⊕ Unit):=fun (_:Unit) x =>
  M.bind (M.iter (zbC aa ab ac s2 x) 0) fun x_=>match x_ with
  | (.inl (_:Unit))=>(
  M.pure (.inr ()))
  | (.inr (_:Unit))=>(
  M.pure (.inl ()))
def zbL (aa:Int) (ab:List Line) (ac:List Int):Nat->M (Nat ⊕ (Unit ⊕ Unit)):=fun s2 =>
  bif decide ((s2:Int)<aa) then (
  M.bind (zaN aa ab (s2:Int)) fun ae =>
  M.bind (zai (M.yl (zaE aa ab ac s2)) (.inl ()) aa ab ae) fun x_=>match x_ with
  | .inl _=>(
  M.grd (decide ((0:Int)<=(s2:Int))&&decide ((s2:Int)<(13:Int))) <|
  bif decide ((ac.getD (s2*13+s2) 0)<0) then (
  M.pure (.inr (.inl ())))
  else (
  M.grd (decide ((-9223372036854775808:Int)<=((s2:Int)+1))&&decide (((s2:Int)+1)<=(9223372036854775807:Int))) <|
  M.pure (.inl (s2+1))))
  | .inr _=>(
  M.pure (.inr (.inl ()))))
  else (
  M.pure (.inr (.inr ())))
def zav (aa:Int) (ab:List Line) (ac:List Int) (ae:List Leg):M Bool :=
  M.bind (M.iter (zbL aa ab ac) 0) fun x_=>match x_ with
  | (.inl (_:Unit))=>(
  M.pure true)
  | (.inr (_:Unit))=>(
  M.pure false)
theorem zbY {R:List Chunk} {aa:Nat} {aU:Cells} {aV:Value} (ag:Int) (ah:List Line) (ab:List Int) (aL:List Leg) (aA:Reads R aU) (aE:Sl aU aV ah) (aG:ab.length=169) (bH:aL.length=169) (am:Has R (cBlk aa (List.flatten [[I ag,aV],encF (α:=Int) ab,encF (α:=Leg) aL]) 102)) {r:Bool} (hM:(zav ag ah ab aL).Ends r) (w:World) (H:St w w [] R):Ret Tryz.prog 48 #[Pq aa] w fun v w'=>∃ (y0:Bool),y0=r/\v=B y0/\St w w' [] R:=by
 refine ret_of_WD Tryz.func48 rfl rfl rfl ?_
 replace H:St w w [cMk ([])] R:=H.mk0
 have bI:=aE.len_le
 unfold zav at hM
 refine WD.seq<|WD.of<|W.region rfl ?_;refine t_b1 (Pq aa) H rfl rfl ?_;intro ai bJ H;refine t_alloc (cs:=[B false]) H Al4 rfl ?_;intro ae bK H;refine s_nil<|WD.seq<|WD.seq<|WD.of ?_;refine kg 8 ?_;refine WD.block ?_;obtain ⟨a8,aM,aN⟩:=M.e_bind hM
 obtain ⟨ba,aM⟩:=M.e_iter aM
 refine WD.loop (fun m av σ W=>∃ (s2:Nat) (ρ:Env),σ=upds ρ [(1,Pq ai),(2,Pq ae),(10,I ag),(11,I (s2:Int))]/\M.iterN (zbL ag ah ab) m s2=some a8/\St w W [cBlk ae [B false] 4,cBlk ai [Pq aa] 93,cMk av] R) ?_ ?_
 ·exact ⟨_,0,_,upds_of _ _ ⟨rfl,rfl,rfl,rfl,trivial⟩,aM,H⟩
 rintro bL av σ bM ⟨s2,ρ,rfl,aW,H⟩
 obtain ⟨bb,bc,bN,hM,aH⟩:=M.e_iterN aW
 simp only [zbL] at hM
 clear aW;refine WD.seq<|WD.of ?_;refine kg 3 ?_;refine WD.seq ?_
 refine WD.cond (decide ((s2:Int)<ag)) rfl (fun ax=>?_) (fun ax=>?_)
 ·replace hM:=M.e_t hM ax
  replace ax:=dI ax
  refine WD.of<|W.skip<|WD.seq<|WD.block<|WD.seq<|WD.of ?_;refine kg 2 ?_;refine t_alloc (cs:=[I 0]) H Al3 rfl ?_;intro ao bO H;refine t_sw 0 0 [I (s2:Int)] (I (s2:Int)) H rfl rfl Sz3 rfl rfl rfl rfl ?_;intro bP H;refine s_nil<|WD.seq<|WD.seq<|WD.of ?_;refine kg 3 ?_;obtain ⟨bQ,bg,hM⟩:=M.e_bind hM;refine s_call cf71 [Pq aa,I (s2:Int)] rfl (zco ag ah (s2:Int) (aA.app _) aE (Fld.of (am.app _) rfl) bg _ (H.gt 4)) ?_
  rintro vq bR ⟨ap,aq,ar,rfl,hvq,aF⟩
  subst vq;(try dsimp only at hM);replace H:=H.bk aF;clear aF;refine s_nil<|WD.block ?_;obtain ⟨bS,bh,hM⟩:=M.e_bind hM;refine WD.range (L:=[cBlk ae [B false] 4,cBlk aq [Pq aa] 93,cBlk ar [I ap] 3,cBlk ao [I (s2:Int)] 3,cBlk ai [Pq aa] 93]) [Pq aq,Pq ar] (H.pk [5,3,0,1,2,4]) rfl cf82 ?_;intro aI aB aO bi aP H
  have hYC:YieldC Tryz.prog ([cMk (aB :: av),cBlk aq [Pq aa] 93,cBlk ar [I ap] 3,cBlk ao [I (s2:Int)] 3,cBlk ai [Pq aa] 93]++R) arLeg (yJ aI aO (fun _ aw=>aw=[cBlk ae [B false] 4]) (fun _ aw=>aw=[cBlk ae [B true] 4]) (fun _=>.ret)) (.func (.yield aI) #[] #[]) (M.yl (zaE ag ah ab s2)):=by
   refine YieldC.mk2 aP (fun _ aw=>aw=[cBlk ae [B false] 4]) (fun _ aw=>aw=[cBlk ae [B true] 4]) (fun _=>.ret) (zaE ag ah ab s2) (by rintro _ _ h_; obtain ⟨rfl⟩:=h_; rfl) (by rintro _ _ h_; (obtain ⟨rfl⟩:=h_; rfl)) rfl (arLeg_len rfl) ?_;intro C_ bT x bj
   obtain rfl:=bj
   intro w R aJ aw s_ r bn hM H
   skip
   obtain ⟨rfl⟩:=bn
   replace H:=H.nf;refine W.region rfl ?_;refine t_alloc (cs:=[I 0,B false]) H Al28 rfl ?_;intro aK bU H;refine t_sw 0 0 [I x.line,B x.back] (.agg #[I x.line,B x.back]) H rfl rfl Sz28 rfl rfl rfl rfl ?_;intro bV H;refine s_nil ?_
   refine ⟨rfl,[cBlk aK [I x.line,B x.back] 28],H.pick [0,1,2,3,4,5,6] (by decide) rfl,?_⟩
   clear H aJ
   intro w R aJ H
   replace aA:=aA.sub aJ
   replace am:=am.sub aJ
   replace hM:(zaE ag ah ab s2 () x).Ends r:=hM
   simp only [zaE] at hM
   replace H:=H.nf;refine kg 11 ?_;obtain ⟨bp,aQ,aX⟩:=M.e_bind hM
   obtain ⟨ba,aQ⟩:=M.e_iter aQ
   refine W.loop (fun m σ W=>∃ (s:Nat) (ρ:Env),σ=upds ρ [(1,Pq ai),(2,Pq ae),(3,Pq ao),(4,Pq aK),(22,I ag),(23,I (s:Int))]/\M.iterN (zbC ag ah ab s2 x) m s=some bp/\St w W [cBlk aK [I x.line,B x.back] 28,cBlk ae [B false] 4,cMk (aB :: av),cBlk aq [Pq aa] 93,cBlk ar [I ap] 3,cBlk ao [I (s2:Int)] 3,cBlk ai [Pq aa] 93] R) ?_ ?_
   ·exact ⟨_,0,_,upds_of _ _ ⟨rfl,rfl,rfl,rfl,rfl,rfl,trivial⟩,aQ,H⟩
   rintro bW σ bX ⟨s,ρ,rfl,aY,H⟩
   obtain ⟨br,bt,bY,hM,aR⟩:=M.e_iterN aY
   simp only [zbC] at hM
   clear aY;refine kg 5 ?_
   refine W.cond (decide ((s:Int)<ag)) rfl (fun ay=>?_) (fun ay=>?_)
   ·replace hM:=M.e_t hM ay
    replace ay:=dI ay
    refine kg 9 ?_;refine W.draw (fun W=>St w W [cBlk aK [I x.line,B x.back] 28,cBlk ae [B false] 4,cMk (aB :: av),cBlk aq [Pq aa] 93,cBlk ar [I ap] 3,cBlk ao [I (s2:Int)] 3,cBlk ai [Pq aa] 93] R) [(0,true),(1,true),(2,true),(3,true),(4,true),(5,true),(6,true),(7,true),(8,true),(9,true),(10,true),(11,true),(12,true),(13,true),(14,true),(15,true),(16,true),(17,true),(18,true),(19,true),(22,true),(23,true),(24,true),(25,true),(27,true),(28,true),(29,true),(20,false),(21,true),(26,false),(30,true),(31,true),(32,true),(33,true)] mixed (by decide +kernel) rfl ?_;intro bZ ac;replace H:=H.ext ac;clear ac
    refine ⟨(H.pk [0,1,2,3,4,5,6]),?_⟩
    obtain ⟨b0,hM⟩:=M.e_gd hM;refine kg 5 ?_;refine d_q rfl (fun w' H=>x_ix (v:=.pointer (some ⟨aa,2+Int.toNat (s:Int)*13,none⟩)) rfl rfl (run_indexS Tryz.underlying98 Sz96 (by omega) (by omega))) ?_;obtain ⟨b7,hM⟩:=M.e_gd hM;refine d_q rfl (fun w' H=>x_ix (v:=.pointer (some ⟨aa,(2+Int.toNat (s:Int)*13)+Int.toNat (s2:Int)*1,none⟩)) rfl rfl (run_indexS Tryz.underlying96 Sz3 (by omega) (by omega)))<|d_q rfl (fun w' H=>x_ld (v:=I (ab.getD (s*13+s2) 0)) rfl (ldS (α:=Int) (k:=1) (off:=2) (i:=s*13+s2) (f:=0) (sz:=1) 0 Sc3 (am.blk H) rfl (sgo1 rfl) rfl (by decide) (by have aZ:=aG; omega) (by omega) rfl)) ?_;refine kg 7 ?_;refine d_qg (decide ((ab.getD (s*13+s2) 0)<1099511627776)) rfl (gy_t rfl) (fun hg=>(fun w' H=>x_ix (v:=.pointer (some ⟨aa,2+Int.toNat (s:Int)*13,none⟩)) (gd_of hg (Oq aa 2)) (gd_of hg (I (s:Int))) (run_indexS Tryz.underlying98 Sz96 (by first | omega | (have ac:=hg; simp at ac; omega)) (by first | omega | (have ac:=hg; simp at ac; omega)))))<|d_qg (decide ((ab.getD (s*13+s2) 0)<1099511627776)) rfl (gy_t rfl) (fun hg=>(fun w' H=>x_ix (v:=.pointer (some ⟨aa,(2+Int.toNat (s:Int)*13)+Int.toNat (s2:Int)*1,none⟩)) (gd_of hg (.pointer (some ⟨aa,2+Int.toNat (s:Int)*13,none⟩))) (gd_of hg (I (s2:Int))) (run_indexS Tryz.underlying96 Sz3 (by first | omega | (have ac:=hg; simp at ac; omega)) (by first | omega | (have ac:=hg; simp at ac; omega)))))<|d_qg (decide ((ab.getD (s*13+s2) 0)<1099511627776)) rfl (gy_t rfl) (fun hg=>(fun w' H=>x_ld (v:=I (ab.getD (s*13+s2) 0)) (gd_of hg (.pointer (some ⟨aa,(2+Int.toNat (s:Int)*13)+Int.toNat (s2:Int)*1,none⟩))) (ldS (α:=Int) (k:=1) (off:=2) (i:=s*13+s2) (f:=0) (sz:=1) 0 Sc3 (am.blk H) rfl (sgo1 rfl) rfl (by decide) (by have aZ:=aG; first | omega | (have ac:=hg; simp at ac; omega)) (by omega) rfl))) ?_;refine kg 8 ?_;refine d_qg (decide ((ab.getD (s*13+s2) 0)<1099511627776)) rfl (gy_t rfl) (fun hg=>(fun w' H=>x_ix (v:=.pointer (some ⟨aa,2+Int.toNat (s:Int)*13,none⟩)) (gd_of hg (Oq aa 2)) (gd_of hg (I (s:Int))) (run_indexS Tryz.underlying98 Sz96 (by first | omega | (have ac:=hg; simp at ac; omega)) (by first | omega | (have ac:=hg; simp at ac; omega)))))<|d_l rfl ?_;obtain ⟨r2,bu,hM⟩:=M.e_bind hM;refine t_gcall (decide ((ab.getD (s*13+s2) 0)<1099511627776)) (gy_t rfl) cf62 (I r2) (fun _=>[Pq aa,.agg #[I x.line,B x.back]]) (fun hg=>lst2 (gd_of hg (Pq aa)) (gd_of hg (.agg #[I x.line,B x.back]))) H (fun hg=>(zbS ag ah x (aA.app _) aE (Fld.of (am.app _) rfl) (M.e_opt bu hg) _ (H.give (A:=[]) rfl)).mono fun v_ w_ ⟨y_,au,aS,H_⟩=>by subst au; exact ⟨aS,H.via H_⟩) ?_;intro b8 H
    refine s_nil ⟨(H.pk [0,1,2,3,4,5,6]),?_⟩
    obtain ⟨aC,hM⟩:=M.e_grd hM
    replace aC:=M.imp_of aC
    simp only [Bool.and_eq_true,decide_eq_true_eq] at aC
    refine kg 1 ?_;refine d_l rfl ?_;obtain ⟨r3,bv,hM⟩:=M.e_bind hM;refine t_gcall (decide ((ab.getD (s*13+s2) 0)<1099511627776)) (gy_t rfl) cf61 (I r3) (fun _=>[Pq aa,.agg #[I x.line,B x.back]]) (fun hg=>lst2 (gd_of hg (Pq aa)) (gd_of hg (.agg #[I x.line,B x.back]))) H (fun hg=>(zat ag ah x (aA.app _) aE (Fld.of (am.app _) rfl) (M.e_opt bv hg) _ (H.give (A:=[]) rfl)).mono fun v_ w_ ⟨y_,au,aS,H_⟩=>by subst au; exact ⟨aS,H.via H_⟩) ?_;intro b9 H
    refine s_nil ⟨(H.pk [0,1,2,3,4,5,6]),?_⟩
    obtain ⟨aD,hM⟩:=M.e_grd hM
    replace aD:=M.imp_of aD
    simp only [Bool.and_eq_true,decide_eq_true_eq] at aD
    refine d_qg (decide ((ab.getD (s*13+s2) 0)<1099511627776)) rfl (gy_t rfl) (fun hg=>(fun w' H=>x_ix (v:=.pointer (some ⟨aa,(2+Int.toNat (s:Int)*13)+Int.toNat r3*1,none⟩)) (gd_of hg (.pointer (some ⟨aa,2+Int.toNat (s:Int)*13,none⟩))) (gd_of hg (I r3)) (run_indexS Tryz.underlying96 Sz3 (by have aj:=aC.resolve_left (by rw [hg]; decide); have al:=aD.resolve_left (by rw [hg]; decide); first | exact aj | exact aj.1 | exact aj.2 | exact al | exact al.1 | exact al.2 | omega | (have ac:=hg; simp at ac; omega)) (by have aj:=aC.resolve_left (by rw [hg]; decide); have al:=aD.resolve_left (by rw [hg]; decide); first | exact aj | exact aj.1 | exact aj.2 | exact al | exact al.1 | exact al.2 | omega | (have ac:=hg; simp at ac; omega)))))<|d_qg (decide ((ab.getD (s*13+s2) 0)<1099511627776)) rfl (gy_t rfl) (fun hg=>(fun w' H=>x_ld (v:=I (ab.getD (s*13+(Int.toNat r3)) 0)) (gd_of hg (.pointer (some ⟨aa,(2+Int.toNat (s:Int)*13)+Int.toNat r3*1,none⟩))) (ldS (α:=Int) (k:=1) (off:=2) (i:=s*13+(Int.toNat r3)) (f:=0) (sz:=1) 0 Sc3 (am.blk H) rfl (sgo1 rfl) rfl (by decide) (by have ca:=aG; have aj:=aC.resolve_left (by rw [hg]; decide); have al:=aD.resolve_left (by rw [hg]; decide); first | exact aj | exact aj.1 | exact aj.2 | exact al | exact al.1 | exact al.2 | omega | (have ac:=hg; simp at ac; omega)) (by omega) rfl))) ?_;refine kg 3 ?_
    refine W.cond ((decide ((ab.getD (s*13+s2) 0)<1099511627776))&&(decide (((ab.getD (s*13+s2) 0)+r2)<(ab.getD (s*13+(Int.toNat r3)) 0)))) rfl (fun aT=>?_) (fun aT=>?_)
    ·replace hM:=M.e_t hM aT;refine kg 2 ?_;refine t_sw 1 0 [B true] (B true) H rfl rfl Sz4 rfl rfl rfl rfl ?_;intro cb H;refine s_nil ?_;refine W.ret ?_
     have bw:=M.e_inr hM aR
     subst bw;replace hM:=aX;(try dsimp only at hM)
     exact ⟨(),[cBlk ae [B true] 4],(M.e_pure hM).symm,rfl,H.pick [1,2,3,4,5,6] (by decide) rfl,rfl⟩
    replace hM:=M.e_f hM aT;obtain ⟨cd,hM⟩:=M.e_gd hM;refine kg 5 ?_
    exact ⟨br,bt,s+1,_,upds_of _ _ ⟨rfl,rfl,rfl,rfl,rfl,rfl,trivial⟩,M.e_inl hM aR,H⟩
   replace hM:=M.e_f hM ay
   replace ay:=dI ay
   refine W.exit ?_
   have bx:=M.e_inr hM aR
   subst bx;replace hM:=aX;(try dsimp only at hM)
   exact ⟨(),[cBlk ae [B false] 4],(M.e_pure hM).symm,rfl,H.pick [1,2,3,4,5,6] (by decide) rfl⟩
  replace H:St w bi (cAll (cObj aI (.loop aO) :: [cBlk ae [B false] 4]) :: [cMk (aB :: av),cBlk aq [Pq aa] 93,cBlk ar [I ap] 3,cBlk ao [I (s2:Int)] 3,cBlk ai [Pq aa] 93]) R:=St.bundleB (A:=cObj aI (.loop aO) :: [cBlk ae [B false] 4]) (T:=[cMk (aB :: av),cBlk aq [Pq aa] 93,cBlk ar [I ap] 3,cBlk ao [I (s2:Int)] 3,cBlk ai [Pq aa] 93]) rfl (H.pk [0,2,1,3,4,5,6])
  refine (zcl (M.yl (zaE ag ah ab s2)) (.inl ()) ag ah ap hYC ⟨_,rfl,rfl⟩ (aA.app _) aE (fun _ _ _=>Fld.cons (Fld.of (am.app _) rfl) _) (Has.here (k:=1) rfl) (Has.here (k:=2) rfl) bh _ (H.gt 5)).mono ?_
  rintro vq ce ⟨bz,cf,rfl,hvq,aF,a7⟩
  replace H:=H.back aF rfl
  clear aF hYC
  rcases bz with _ | _
  ·(try dsimp only at hM)
   obtain ⟨_,rfl,rfl⟩:=a7
   refine ⟨_,[cBlk ae [B false] 4,cBlk aq [Pq aa] 93,cBlk ar [I ap] 3,cBlk ao [I (s2:Int)] 3,cBlk ai [Pq aa] 93],H.unbundle.pick [0,2,1,3,4,5,6] (by decide) rfl,aP.nb,?_⟩
   intro bA H
   rw [aP.pd]
   replace H:=H.nf
   try simp only []
   refine WD.seq<|WD.of ?_;refine W.draw (fun W=>St w W [cMk (aB :: av),cBlk ae [B false] 4,cBlk aq [Pq aa] 93,cBlk ar [I ap] 3,cBlk ao [I (s2:Int)] 3,cBlk ai [Pq aa] 93] R) [(0,true),(1,true),(2,true),(3,true),(4,true),(5,true),(6,true),(7,true),(8,true)] mixed (by decide +kernel) rfl ?_;intro cg ac;replace H:=H.ext ac;clear ac
   refine ⟨(H.pk [0,1,2,3,4,5]),?_⟩
   obtain ⟨ch,hM⟩:=M.e_gd hM;refine kg 5 ?_;refine d_q rfl (fun w' H=>x_ix (v:=.pointer (some ⟨aa,2+Int.toNat (s2:Int)*13,none⟩)) rfl rfl (run_indexS Tryz.underlying98 Sz96 (by omega) (by omega)))<|d_q rfl (fun w' H=>x_ix (v:=.pointer (some ⟨aa,(2+Int.toNat (s2:Int)*13)+Int.toNat (s2:Int)*1,none⟩)) rfl rfl (run_indexS Tryz.underlying96 Sz3 (by omega) (by omega)))<|d_q rfl (fun w' H=>x_ld (v:=I (ab.getD (s2*13+s2) 0)) rfl (ldS (α:=Int) (k:=1) (off:=2) (i:=s2*13+s2) (f:=0) (sz:=1) 0 Sc3 (am.blk H) rfl (sgo1 rfl) rfl (by decide) (by have aZ:=aG; omega) (by omega) rfl)) ?_;refine kg 2 ?_
   refine WD.cond (decide ((ab.getD (s2*13+s2) 0)<0)) rfl (fun az=>?_) (fun az=>?_)
   ·replace hM:=M.e_t hM az
    replace az:=dI az
    refine WD.seq<|WD.of<|W.region rfl ?_;refine t_sw 1 0 [B true] (B true) H rfl rfl Sz4 rfl rfl rfl rfl ?_;intro ci H;refine s_nil<|WD.of ?_;refine W.ret ?_
    have bB:=M.e_inr hM aH
    subst bB;replace hM:=aN;(try dsimp only at hM);refine bodyD_r (H.pk [0,1,2,3,4,5]) ?_;intro cj H;replace H:=H.nf
    have bC:=(H.bl 0)
    have au:=M.e_pure hM
    exact ⟨_,(resE_of1 (v:=B true) rfl (.cell (v:=B true) rfl (run_loadVar_sc Sc4 bC rfl)<|.nil)),⟨true,au,rfl,(H.pk [])⟩⟩
   replace hM:=M.e_f hM az
   replace az:=dI az
   refine WD.of<|W.skip<|WD.of ?_;obtain ⟨ck,hM⟩:=M.e_gd hM;refine kg 4 ?_
   exact ⟨bb,bc,s2+1,_,upds_of _ _ ⟨rfl,rfl,rfl,rfl,trivial⟩,M.e_inl hM aH,(H.pk [1,5,0])⟩
  (try dsimp only at hM)
  obtain ⟨_,rfl,rfl⟩:=a7
  refine ⟨_,[cBlk ae [B true] 4,cBlk aq [Pq aa] 93,cBlk ar [I ap] 3,cBlk ao [I (s2:Int)] 3,cBlk ai [Pq aa] 93],H.unbundle.pick [0,2,1,3,4,5,6] (by decide) rfl,nofun,?_⟩
  intro bA H
  show WD _ _ _ (.ret) _ _ _
  refine WD.of ?_;refine W.ret ?_;replace H:=H.nf
  have bD:=M.e_inr hM aH
  subst bD;replace hM:=aN;(try dsimp only at hM);refine bodyD_r (H.pk [0,1,2,3,4,5]) ?_;intro cm H;replace H:=H.nf
  have bE:=(H.bl 0)
  have au:=M.e_pure hM
  exact ⟨_,(resE_of1 (v:=B true) rfl (.cell (v:=B true) rfl (run_loadVar_sc Sc4 bE rfl)<|.nil)),⟨true,au,rfl,(H.pk [])⟩⟩
 replace hM:=M.e_f hM ax
 replace ax:=dI ax
 refine WD.of ?_;refine W.exit ?_
 have bF:=M.e_inr hM aH
 subst bF;replace hM:=aN;(try dsimp only at hM);refine WD.seq<|WD.of<|W.region rfl ?_;refine t_sw 0 0 [B false] (B false) H rfl rfl Sz4 rfl rfl rfl rfl ?_;intro cn H;refine s_nil<|WD.of ?_;refine W.ret ?_;refine bodyD_r (H.pk [2,0,1]) ?_;intro co H;replace H:=H.nf
 have bG:=(H.bl 0)
 have au:=M.e_pure hM
 exact ⟨_,(resE_of1 (v:=B false) rfl (.cell (v:=B false) rfl (run_loadVar_sc Sc4 bG rfl)<|.nil)),⟨false,au,rfl,(H.pk [])⟩⟩

def zaR (n_Marks:Int) (n_Lines:List Line):M (Int ⊕ (Int × (List Int) × (List Leg) × Int)) :=
  M.bind (zao n_Marks n_Lines) fun x_=>match x_ with
  | (.inl r1)=>(
  bif r1==0 then (
  M.fail)
  else (
  M.pure (.inl r1)))
  | (.inr (aa,ab,ac,ae))=>(
  M.bind (M.opt (ae==0) (zav aa n_Lines ab ac) false) fun r2 =>
  bif ((ae==0)&&r2) then (
  M.pure (.inr (aa,ab,ac,7)))
  else (
  M.pure (.inr (aa,ab,ac,ae))))
theorem zda {R:List Chunk} {aq:Cells} {ab:Value} (n_Marks:Int) (n_Lines:List Line) (ar:Reads R aq) (au:Sl aq ab n_Lines) {r:(Int ⊕ (Int × (List Int) × (List Leg) × Int))} (hM:(zaR n_Marks n_Lines).Ends r) (w:World) (H:St w w [] R):Ret Tryz.prog 53 #[.agg #[I n_Marks,ab]] w fun v w'=>(∃ (y0:Int),(.inl y0)=r/\v = .tuple #[.pointer none,I y0]/\St w w' [] R)∨(∃ (y0:Int) (y1:List Int) (y2:List Leg) (y3:Int) (av:Nat),(.inr (y0,y1,y2,y3))=r/\v = .tuple #[Pq av,I y3]/\St w w' [cBlk av (List.flatten [[I y0,ab],encF (α:=Int) y1,encF (α:=Leg) y2]) 102] R/\y1.length=169/\y2.length=169):=by
 refine ret_of_W Tryz.func53 rfl rfl rfl ?_;refine kg 2 ?_;refine t_bx [I n_Marks,ab] H rfl ?_;intro aC aD H;refine kg 6 ?_;obtain ⟨aE,ax,hM⟩:=M.e_bind hM;refine s_call cf47 [.agg #[I n_Marks,ab]] rfl (zcC n_Marks n_Lines (ar.app _) au ax _ (H.gt 1)) ?_
 rintro vq aF (⟨r1,ay,hvq,ac⟩ | ⟨ah,ai,aj,al,ae,az,hvq,ac,am,ao⟩)
 ·subst ay;subst vq;(try dsimp only at hM);replace H:=H.bk ac;clear ac;refine kg 13 ?_
  refine (Bool.eq_false_or_eq_true (r1==0)).elim (fun ag=>?_) (fun ag=>?_)
  ·exact (M.e_fail (M.e_t hM ag)).elim
  replace hM:=M.e_f hM ag;refine g_val (v:=B false) (r1==0) (gy_t rfl) (fun hg=>Bool.noConfusion (ag.symm.trans hg))<|s_val (x_pand0 (b:=r1==0) rfl (fun hb=>gd_of (c:=r1==0) (by first | exact hb | (rw [hb]; rfl) | simp_all) (B false)) rfl)<|s_nil ?_
  refine W.cond false rfl (fun aw=>?_) (fun aw=>?_)
  ·skip
   exact absurd aw (by decide)
  skip
  refine kg 8 ?_;refine W.ret ?_
  have aa:=M.e_pure hM
  exact ⟨_,resE_tmp2 rfl,.inl (⟨r1,aa,rfl,(H.pk [])⟩)⟩
 subst az;subst vq;(try dsimp only at hM);replace H:=H.bk ac;clear ac;refine kg 13 ?_;obtain ⟨r2,aA,hM⟩:=M.e_bind hM;refine t_gcall (al==0) (gy_t rfl) cf48 (B r2) (fun _=>[Pq ae]) (fun hg=>lst1 (gd_of hg (Pq ae))) H (fun hg=>(zbY ah n_Lines ai aj (ar.app _) au am ao (Has.here (k:=0) rfl) (M.e_opt aA hg) _ (H.give (A:=[]) rfl)).mono fun v_ w_ ⟨y_,aa,aB,H_⟩=>by subst aa; exact ⟨aB,H.via H_⟩) ?_;intro aG H;refine kg 2 ?_
 refine W.cond ((al==0)&&r2) rfl (fun ap=>?_) (fun ap=>?_)
 ·replace hM:=M.e_t hM ap;refine kg 10 ?_;refine W.ret ?_
  have aa:=M.e_pure hM
  exact ⟨_,resE_tmp2 rfl,.inr (⟨ah,ai,aj,7,ae,aa,rfl,(H.pk [0]),am,ao⟩)⟩
 replace hM:=M.e_f hM ap;refine kg 8 ?_;refine W.ret ?_
 have aa:=M.e_pure hM
 exact ⟨_,resE_tmp2 rfl,.inr (⟨ah,ai,aj,al,ae,aa,rfl,(H.pk [0]),am,ao⟩)⟩

def zaD (n_Marks:Int) (n_Lines:List Line) (aa ab:Int) (same:Bool):M (Int ⊕ (Int × (List Int) × (List Leg) × Int)) :=
  M.bind (zak n_Marks n_Lines) fun r2 =>
  bif r2 != 0 then (
  M.pure (.inl r2))
  else (
  M.grd (decide ((-9223372036854775808:Int)<=(n_Marks-1))&&decide ((n_Marks-1)<=(9223372036854775807:Int))) <|
  M.bind (zae aa 0 (n_Marks-1)) fun r3 =>
  M.bind (M.opt (!(!r3)) (zae ab 0 (n_Marks-1)) false) fun r4 =>
  bif (((!r3)||(!r4))||((!same)&&(aa==ab))) then (
  M.pure (.inl 2))
  else (
  M.bind (zaR n_Marks n_Lines) fun x_=>match x_ with
  | (.inl r1)=>(
  bif r1==0 then (
  M.fail)
  else (
  M.pure (.inl r1)))
  | (.inr (ag,ae,ah,ac))=>(
  M.grd ((!(ac==0)||(decide ((0:Int)<=aa)&&decide (aa<(13:Int))))) <|
  M.grd ((!(ac==0)||(decide ((0:Int)<=ab)&&decide (ab<(13:Int))))) <|
  bif ((ac==0)&&((ae.getD ((Int.toNat aa)*13+(Int.toNat ab)) 0)==1099511627776)) then (
  M.pure (.inr (ag,ae,ah,5)))
  else (
  M.pure (.inr (ag,ae,ah,ac))))))
theorem zdi {R:List Chunk} {ay:Cells} {ap:Value} (n_Marks:Int) (n_Lines:List Line) (ab:Int) (ac:Int) (same:Bool) (az:Reads R ay) (aA:Sl ay ap n_Lines) {r:(Int ⊕ (Int × (List Int) × (List Leg) × Int))} (hM:(zaD n_Marks n_Lines ab ac same).Ends r) (w:World) (H:St w w [] R):Ret Tryz.prog 42 #[.agg #[I n_Marks,ap],I ab,I ac,B same] w fun v w'=>(∃ (y0:Int),(.inl y0)=r/\v = .tuple #[.pointer none,I y0]/\St w w' [] R)∨(∃ (y0:Int) (y1:List Int) (y2:List Leg) (y3:Int) (aB:Nat),(.inr (y0,y1,y2,y3))=r/\v = .tuple #[Pq aB,I y3]/\St w w' [cBlk aB (List.flatten [[I y0,ap],encF (α:=Int) y1,encF (α:=Leg) y2]) 102] R/\y1.length=169/\y2.length=169):=by
 refine ret_of_W Tryz.func42 rfl rfl rfl ?_;refine kg 2 ?_;refine t_bx [I n_Marks,ap] H rfl ?_;intro aN aO H;refine kg 7 ?_;obtain ⟨aP,aG,hM⟩:=M.e_bind hM;refine s_call cf8 [.agg #[I n_Marks,ap]] rfl (zaC n_Marks n_Lines (az.app _) aA aG _ (H.gt 1)) ?_
 rintro vq aQ ⟨r2,rfl,hvq,ae⟩
 subst vq;(try dsimp only at hM);replace H:=H.bk ae;clear ae;refine kg 7 ?_
 refine W.cond (r2 != 0) rfl (fun am=>?_) (fun am=>?_)
 ·replace hM:=M.e_t hM am
  replace am:=dI am
  refine kg 6 ?_;refine W.ret ?_
  have ag:=M.e_pure hM
  exact ⟨_,resE_tmp2 rfl,.inl (⟨r2,ag,rfl,(H.pk [])⟩)⟩
 replace hM:=M.e_f hM am
 replace am:=dI am
 obtain ⟨aR,hM⟩:=M.e_gd hM;refine kg 8 ?_;obtain ⟨aS,aH,hM⟩:=M.e_bind hM;refine s_call cf39 [I ab,I 0,I (n_Marks-1)] rfl (zah ab 0 (n_Marks-1) aH _ (H.gt 1)) ?_
 rintro vq aT ⟨r3,rfl,hvq,ae⟩
 subst vq;(try dsimp only at hM);replace H:=H.bk ae;clear ae;refine kg 6 ?_;obtain ⟨r4,aI,hM⟩:=M.e_bind hM;refine t_gcall (!(!r3)) (gy_f rfl) cf39 (B r4) (fun _=>[I ac,I 0,I (n_Marks-1)]) (fun hg=>lst3 (gd_of hg (I ac)) rfl (gd_of hg (I (n_Marks-1)))) H (fun hg=>(zah ac 0 (n_Marks-1) (M.e_opt aI hg) _ (H.give (A:=[]) rfl)).mono fun v_ w_ ⟨y_,ag,aJ,H_⟩=>by subst ag; exact ⟨aJ,H.via H_⟩) ?_;intro aU H;refine kg 12 ?_
 refine W.cond (((!r3)||(!r4))||((!same)&&(ab==ac))) rfl (fun av=>?_) (fun av=>?_)
 ·replace hM:=M.e_t hM av;refine kg 5 ?_;refine W.ret ?_
  have ag:=M.e_pure hM
  exact ⟨_,resE_tmp2 rfl,.inl (⟨2,ag,rfl,(H.pk [])⟩)⟩
 replace hM:=M.e_f hM av;refine kg 4 ?_;obtain ⟨aV,aK,hM⟩:=M.e_bind hM;refine s_call cf53 [.agg #[I n_Marks,ap]] rfl (zda n_Marks n_Lines (az.app _) aA aK _ (H.gt 1)) ?_
 rintro vq aW (⟨r1,aL,hvq,ae⟩ | ⟨aC,au,aD,ar,ao,aM,hvq,ae,aw,aE⟩)
 ·subst aL;subst vq;(try dsimp only at hM);replace H:=H.bk ae;clear ae;refine kg 15 ?_
  refine (Bool.eq_false_or_eq_true (r1==0)).elim (fun ai=>?_) (fun ai=>?_)
  ·exact (M.e_fail (M.e_t hM ai)).elim
  replace hM:=M.e_f hM ai;refine g_val (v:=.slice none 0 0) (r1==0) (gy_t rfl) (fun hg=>Bool.noConfusion (ai.symm.trans hg))<|g_val (v:=.slice none 0 0) (r1==0) (gy_t rfl) (fun hg=>Bool.noConfusion (ai.symm.trans hg))<|g_val (v:=.slice none 0 0) (r1==0) (gy_t rfl) (fun hg=>Bool.noConfusion (ai.symm.trans hg))<|g_val (v:=.slice none 0 0) (r1==0) (gy_t rfl) (fun hg=>Bool.noConfusion (ai.symm.trans hg))<|g_val (v:=I 0) (r1==0) (gy_t rfl) (fun hg=>Bool.noConfusion (ai.symm.trans hg))<|g_val (v:=B false) (r1==0) (gy_t rfl) (fun hg=>Bool.noConfusion (ai.symm.trans hg))<|s_val (x_pand0 (b:=r1==0) rfl (fun hb=>gd_of (c:=r1==0) (by first | exact hb | (rw [hb]; rfl) | simp_all) (B false)) rfl)<|s_nil ?_
  refine W.cond false rfl (fun aF=>?_) (fun aF=>?_)
  ·skip
   exact absurd aF (by decide)
  skip
  refine kg 8 ?_;refine W.ret ?_
  have ag:=M.e_pure hM
  exact ⟨_,resE_tmp2 rfl,.inl (⟨r1,ag,rfl,(H.pk [])⟩)⟩
 subst aM;subst vq;(try dsimp only at hM);replace H:=H.bk ae;clear ae;obtain ⟨al,hM⟩:=M.e_grd hM
 replace al:=M.imp_of al
 simp only [Bool.and_eq_true,decide_eq_true_eq] at al
 refine kg 17 ?_;refine g_val (ar==0) (gy_t rfl) (fun hg=>x_ix (v:=.pointer (some ⟨ao,2+Int.toNat ab*13,none⟩)) (gd_of hg (Oq ao 2)) (gd_of hg (I ab)) (run_indexS Tryz.underlying98 Sz96 (by have aa:=al.resolve_left (by rw [hg]; decide); first | exact aa | exact aa.1 | exact aa.2 | omega | (have aj:=hg; simp at aj; omega)) (by have aa:=al.resolve_left (by rw [hg]; decide); first | exact aa | exact aa.1 | exact aa.2 | omega | (have aj:=hg; simp at aj; omega)))) ?_;obtain ⟨aq,hM⟩:=M.e_grd hM
 replace aq:=M.imp_of aq
 simp only [Bool.and_eq_true,decide_eq_true_eq] at aq
 refine g_val (ar==0) (gy_t rfl) (fun hg=>x_ix (v:=.pointer (some ⟨ao,(2+Int.toNat ab*13)+Int.toNat ac*1,none⟩)) (gd_of hg (.pointer (some ⟨ao,2+Int.toNat ab*13,none⟩))) (gd_of hg (I ac)) (run_indexS Tryz.underlying96 Sz3 (by have aa:=al.resolve_left (by rw [hg]; decide); have ah:=aq.resolve_left (by rw [hg]; decide); first | exact aa | exact aa.1 | exact aa.2 | exact ah | exact ah.1 | exact ah.2 | omega | (have aj:=hg; simp at aj; omega)) (by have aa:=al.resolve_left (by rw [hg]; decide); have ah:=aq.resolve_left (by rw [hg]; decide); first | exact aa | exact aa.1 | exact aa.2 | exact ah | exact ah.1 | exact ah.2 | omega | (have aj:=hg; simp at aj; omega))))<|g_val (ar==0) (gy_t rfl) (fun hg=>x_ld (v:=I (au.getD ((Int.toNat ab)*13+(Int.toNat ac)) 0)) (gd_of hg (.pointer (some ⟨ao,(2+Int.toNat ab*13)+Int.toNat ac*1,none⟩))) (ldS (α:=Int) (k:=1) (off:=2) (i:=(Int.toNat ab)*13+(Int.toNat ac)) (f:=0) (sz:=1) 0 Sc3 (H.bl 0) rfl (sgo1 rfl) rfl (by decide) (by have aX:=aw; have aa:=al.resolve_left (by rw [hg]; decide); have ah:=aq.resolve_left (by rw [hg]; decide); first | exact aa | exact aa.1 | exact aa.2 | exact ah | exact ah.1 | exact ah.2 | omega | (have aj:=hg; simp at aj; omega)) (by omega) rfl)) ?_;refine kg 3 ?_
 refine W.cond ((ar==0)&&((au.getD ((Int.toNat ab)*13+(Int.toNat ac)) 0)==1099511627776)) rfl (fun ax=>?_) (fun ax=>?_)
 ·replace hM:=M.e_t hM ax;refine kg 10 ?_;refine W.ret ?_
  have ag:=M.e_pure hM
  exact ⟨_,resE_tmp2 rfl,.inr (⟨aC,au,aD,5,ao,ag,rfl,(H.pk [0]),aw,aE⟩)⟩
 replace hM:=M.e_f hM ax;refine kg 8 ?_;refine W.ret ?_
 have ag:=M.e_pure hM
 exact ⟨_,resE_tmp2 rfl,.inr (⟨aC,au,aD,ar,ao,ag,rfl,(H.pk [0]),aw,aE⟩)⟩

def zaj (n_Marks:Int) (n_Lines:List Line) (aa ab:Int):M (Int × Int × Int) :=
  M.bind (zaD n_Marks n_Lines aa ab true) fun x_=>match x_ with
  | (.inl r1)=>(
  bif r1 != 0 then (
  M.pure (0,0,r1))
  else (
  M.fail))
  | (.inr (ag,ac,ah,ae))=>(
  bif ae != 0 then (
  M.pure (0,0,ae))
  else (
  M.grd (decide ((0:Int)<=ab)&&decide (ab<(13:Int))) <|
  M.grd (decide ((0:Int)<=aa)&&decide (aa<(13:Int))) <|
  M.grd (decide (-9223372036854775807<=(ac.getD ((Int.toNat ab)*13+(Int.toNat aa)) 0))&&decide ((ac.getD ((Int.toNat ab)*13+(Int.toNat aa)) 0)<=9223372036854775807)) <|
  M.pure ((-(ac.getD ((Int.toNat ab)*13+(Int.toNat aa)) 0)),(ac.getD ((Int.toNat aa)*13+(Int.toNat ab)) 0),0)))
theorem zcI {R:List Chunk} {ao:Cells} {ah:Value} (n_Marks:Int) (n_Lines:List Line) (aa:Int) (ab:Int) (ar:Reads R ao) (au:Sl ao ah n_Lines) {r:(Int × Int × Int)} (hM:(zaj n_Marks n_Lines aa ab).Ends r) (w:World) (H:St w w [] R):Ret Tryz.prog 9 #[.agg #[I n_Marks,ah],I aa,I ab] w fun v w'=>∃ (y0:Int) (y1:Int) (y2:Int),(y0,y1,y2)=r/\v = .tuple #[.agg #[I y0,I y1],I y2]/\St w w' [] R:=by
 refine ret_of_W Tryz.func9 rfl rfl rfl ?_;refine kg 2 ?_;refine t_bx [I n_Marks,ah] H rfl ?_;intro av aF H;refine t_alloc (cs:=[I 0,I 0]) H Al42 rfl ?_;intro aG aH H;refine kg 7 ?_;obtain ⟨aI,aw,hM⟩:=M.e_bind hM;refine s_call cf42 [.agg #[I n_Marks,ah],I aa,I ab,B true] rfl (zdi n_Marks n_Lines aa ab true (ar.app _) au aw _ (H.gt 2)) ?_
 rintro vq aJ (⟨r1,ax,hvq,ai⟩ | ⟨ay,ac,az,am,aj,aA,hvq,ai,ap,aK⟩)
 ·subst ax;subst vq;(try dsimp only at hM);replace H:=H.bk ai;clear ai;refine kg 12 ?_
  refine W.cond (r1 != 0) rfl (fun ae=>?_) (fun ae=>?_)
  ·replace hM:=M.e_t hM ae
   replace ae:=dI ae
   refine kg 2 ?_;refine s_val (x_bld (ps:=[]) (zs:=[I 0,I 0]) (L':=[I 0,I 0]) rfl Tryz.underlying42 Al42 rfl (Bd42 Tryz.underlying42) (.nil)) ?_;refine kg 1 ?_;refine t_sw 0 0 [I 0,I 0] (.agg #[I 0,I 0]) H rfl rfl Sz42 rfl rfl rfl rfl ?_;intro aL H;refine kg 2 ?_;refine W.ret ?_
   have aB:=(H.bl 0)
   have al:=M.e_pure hM
   exact ⟨_,(resE_ofn (vs:=[.agg #[I 0,I 0],I r1]) rfl rfl (.cell (v:=.agg #[I 0,I 0]) rfl (run_loadVar_ag (ds:=[I 0,I 0]) Ag42 Sz42 aB rfl rfl)<|.tmp (v:=I r1) rfl<|.nil)),⟨0,0,r1,al,rfl,(H.pk [])⟩⟩
  replace hM:=M.e_f hM ae
  replace ae:=dI ae
  refine kg 2 ?_
  exact (M.e_fail hM).elim
 subst aA;subst vq;(try dsimp only at hM);replace H:=H.bk ai;clear ai;refine kg 12 ?_
 refine W.cond (am != 0) rfl (fun ag=>?_) (fun ag=>?_)
 ·replace hM:=M.e_t hM ag
  replace ag:=dI ag
  refine kg 2 ?_;refine s_val (x_bld (ps:=[]) (zs:=[I 0,I 0]) (L':=[I 0,I 0]) rfl Tryz.underlying42 Al42 rfl (Bd42 Tryz.underlying42) (.nil)) ?_;refine kg 1 ?_;refine t_sw 1 0 [I 0,I 0] (.agg #[I 0,I 0]) H rfl rfl Sz42 rfl rfl rfl rfl ?_;intro aM H;refine kg 2 ?_;refine W.ret ?_
  have aC:=(H.bl 1)
  have al:=M.e_pure hM
  exact ⟨_,(resE_ofn (vs:=[.agg #[I 0,I 0],I am]) rfl rfl (.cell (v:=.agg #[I 0,I 0]) rfl (run_loadVar_ag (ds:=[I 0,I 0]) Ag42 Sz42 aC rfl rfl)<|.tmp (v:=I am) rfl<|.nil)),⟨0,0,am,al,rfl,(H.pk [])⟩⟩
 replace hM:=M.e_f hM ag
 replace ag:=dI ag
 refine kg 2 ?_;refine W.draw (fun W=>St w W [cBlk aj (List.flatten [[I ay,ah],encF (α:=Int) ac,encF (α:=Leg) az]) 102,cBlk av [I n_Marks,ah] 25] R) [(0,true),(1,true),(2,true),(3,true),(4,true),(5,true),(6,true),(7,true),(8,true),(9,true),(10,true),(11,true),(12,true),(13,true),(14,true),(15,true),(16,true),(17,true),(18,false),(19,true)] mixed (by decide +kernel) rfl ?_;intro aN aq;replace H:=H.ext aq;clear aq
 refine ⟨(H.pk [0,2]),?_⟩
 obtain ⟨aO,hM⟩:=M.e_gd hM;refine kg 5 ?_;refine d_q rfl (fun w' H=>x_ix (v:=.pointer (some ⟨aj,2+Int.toNat ab*13,none⟩)) rfl rfl (run_indexS Tryz.underlying98 Sz96 (by omega) (by omega))) ?_;obtain ⟨aP,hM⟩:=M.e_gd hM;refine d_q rfl (fun w' H=>x_ix (v:=.pointer (some ⟨aj,(2+Int.toNat ab*13)+Int.toNat aa*1,none⟩)) rfl rfl (run_indexS Tryz.underlying96 Sz3 (by omega) (by omega)))<|d_q rfl (fun w' H=>x_ld (v:=I (ac.getD ((Int.toNat ab)*13+(Int.toNat aa)) 0)) rfl (ldS (α:=Int) (k:=1) (off:=2) (i:=(Int.toNat ab)*13+(Int.toNat aa)) (f:=0) (sz:=1) 0 Sc3 (H.bl 0) rfl (sgo1 rfl) rfl (by decide) (by have aD:=ap; omega) (by omega) rfl)) ?_;obtain ⟨aQ,hM⟩:=M.e_gd hM;refine d_q rfl (fun w' H=>x_neg (a:=ac.getD ((Int.toNat ab)*13+(Int.toNat aa)) 0) rfl (by omega)) ?_;refine kg 5 ?_;refine d_q rfl (fun w' H=>x_ix (v:=.pointer (some ⟨aj,2+Int.toNat aa*13,none⟩)) rfl rfl (run_indexS Tryz.underlying98 Sz96 (by omega) (by omega)))<|d_q rfl (fun w' H=>x_ix (v:=.pointer (some ⟨aj,(2+Int.toNat aa*13)+Int.toNat ab*1,none⟩)) rfl rfl (run_indexS Tryz.underlying96 Sz3 (by omega) (by omega)))<|d_q rfl (fun w' H=>x_ld (v:=I (ac.getD ((Int.toNat aa)*13+(Int.toNat ab)) 0)) rfl (ldS (α:=Int) (k:=1) (off:=2) (i:=(Int.toNat aa)*13+(Int.toNat ab)) (f:=0) (sz:=1) 0 Sc3 (H.bl 0) rfl (sgo1 rfl) rfl (by decide) (by have aD:=ap; omega) (by omega) rfl))<|d_q rfl (fun w' H=>x_bld (ps:=[(0,I (-(ac.getD ((Int.toNat ab)*13+(Int.toNat aa)) 0))),(1,I (ac.getD ((Int.toNat aa)*13+(Int.toNat ab)) 0))]) (zs:=[I 0,I 0]) (L':=[I (-(ac.getD ((Int.toNat ab)*13+(Int.toNat aa)) 0)),I (ac.getD ((Int.toNat aa)*13+(Int.toNat ab)) 0)]) rfl Tryz.underlying42 Al42 rfl (Bd42 Tryz.underlying42) (.cons (cs:=[I (-(ac.getD ((Int.toNat ab)*13+(Int.toNat aa)) 0))]) rfl rfl rfl rfl rfl<|.cons (cs:=[I (ac.getD ((Int.toNat aa)*13+(Int.toNat ab)) 0)]) rfl rfl rfl rfl rfl<|.nil))<|d_l rfl ?_;refine t_sw 1 0 [I (-(ac.getD ((Int.toNat ab)*13+(Int.toNat aa)) 0)),I (ac.getD ((Int.toNat aa)*13+(Int.toNat ab)) 0)] (.agg #[I (-(ac.getD ((Int.toNat ab)*13+(Int.toNat aa)) 0)),I (ac.getD ((Int.toNat aa)*13+(Int.toNat ab)) 0)]) H rfl rfl Sz42 rfl rfl rfl rfl ?_;intro aR H
 refine s_nil ⟨(H.pk [0,2]),?_⟩
 refine kg 2 ?_;refine W.ret ?_
 have aE:=(H.bl 1)
 have al:=M.e_pure hM
 exact ⟨_,(resE_ofn (vs:=[.agg #[I (-(ac.getD ((Int.toNat ab)*13+(Int.toNat aa)) 0)),I (ac.getD ((Int.toNat aa)*13+(Int.toNat ab)) 0)],I 0]) rfl rfl (.cell (v:=.agg #[I (-(ac.getD ((Int.toNat ab)*13+(Int.toNat aa)) 0)),I (ac.getD ((Int.toNat aa)*13+(Int.toNat ab)) 0)]) rfl (run_loadVar_ag (ds:=[I (-(ac.getD ((Int.toNat ab)*13+(Int.toNat aa)) 0)),I (ac.getD ((Int.toNat aa)*13+(Int.toNat ab)) 0)]) Ag42 Sz42 aE rfl rfl)<|.tmp (v:=I 0) rfl<|.nil)),⟨(-(ac.getD ((Int.toNat ab)*13+(Int.toNat aa)) 0)),(ac.getD ((Int.toNat aa)*13+(Int.toNat ab)) 0),0,al,rfl,(H.pk [])⟩⟩

def zbu (s:List Leg) (f:Leg->M Bool):Nat->M (Nat ⊕ (Int ⊕ Unit)):=fun s2 =>
  bif decide ((s2:Int)<(s.length:Int)) then (
  M.grd (decide ((s2:Int)<(s.length:Int))) <|
  M.bind (f (s.getD s2 default)) fun r2 =>
  bif r2 then (
  M.pure (.inr (.inl (s2:Int))))
  else (
  M.pure (.inl (s2+1))))
  else (
  M.pure (.inr (.inr ())))
def zct (s:List Leg) (f:Leg->M Bool):M Int :=
  M.bind (M.iter (zbu s f) 0) fun x_=>match x_ with
  | (.inl s3)=>(
  M.pure s3)
  | (.inr (_:Unit))=>(
  M.pure (-1))
theorem zdJ {R:List Chunk} {aj:Cells} {ab:Value} {ac:Value} (s:List Leg) (f:Leg->M Bool) (ay:Reads R aj) (ao:Sl aj ab s) (ap:FnM Tryz.prog R ac f) {r:Int} (hM:(zct s f).Ends r) (w:World) (H:St w w [] R):Ret Tryz.prog 84 #[ab,ac] w fun v w'=>∃ (y0:Int),y0=r/\v=I y0/\St w w' [] R:=by
 refine ret_of_W Tryz.func84 rfl rfl rfl ?_
 have az:=(ao).len_le
 refine kg 12 ?_;obtain ⟨aq,ae,al⟩:=M.e_bind hM
 obtain ⟨aA,ae⟩:=M.e_iter ae
 refine W.loop (fun m σ W=>∃ (s2:Nat) (ρ:Env),σ=upds ρ [(0,ab),(1,ac),(7,I (s.length:Int)),(8,I (s2:Int))]/\M.iterN (zbu s f) m s2=some aq/\St w W [] R) ?_ ?_
 ·exact ⟨_,0,_,upds_of _ _ ⟨rfl,rfl,rfl,rfl,trivial⟩,ae,H⟩
 rintro aB σ aC ⟨s2,ρ,rfl,am,H⟩
 obtain ⟨ar,au,aD,hM,ag⟩:=M.e_iterN am
 simp only [zbu] at hM
 clear am;refine kg 5 ?_
 refine W.cond (decide ((s2:Int)<(s.length:Int))) rfl (fun aa=>?_) (fun aa=>?_)
 ·replace hM:=M.e_t hM aa
  replace aa:=dI aa
  obtain ⟨aE,hM⟩:=M.e_gd hM;refine kg 15 ?_;obtain ⟨r2,av,hM⟩:=M.e_bind hM;refine t_callM H ap rfl rfl (s.getD s2 default) Reads.none ⟨_,rfl,rfl⟩ av ?_;intro aF H;refine s_nil ?_
  refine W.cond r2 rfl (fun ah=>?_) (fun ah=>?_)
  ·replace hM:=M.e_t hM ah;refine kg 5 ?_;refine W.ret ?_
   have aw:=M.e_inr hM ag
   subst aw;replace hM:=al;(try dsimp only at hM)
   have ai:=M.e_pure hM
   exact ⟨_,resE_tmp rfl,⟨(s2:Int),ai,rfl,H⟩⟩
  replace hM:=M.e_f hM ah;refine kg 5 ?_
  exact ⟨ar,au,s2+1,_,upds_of _ _ ⟨rfl,rfl,rfl,rfl,trivial⟩,M.e_inl hM ag,H⟩
 replace hM:=M.e_f hM aa
 replace aa:=dI aa
 refine W.exit ?_
 have ax:=M.e_inr hM ag
 subst ax;replace hM:=al;(try dsimp only at hM);refine kg 4 ?_;refine W.ret ?_
 have ai:=M.e_pure hM
 exact ⟨_,resE_tmp rfl,⟨(-1),ai,rfl,H⟩⟩

def zc4 (s:List Leg) (f:Leg->M Bool):M Bool :=
  M.bind (zct s f) fun r2 =>
  M.pure (decide (0<=r2))
theorem zdH {R:List Chunk} {ac:Cells} {aa:Value} {ab:Value} (s:List Leg) (f:Leg->M Bool) (ag:Reads R ac) (ah:Sl ac aa s) (ai:FnM Tryz.prog R ab f) {r:Bool} (hM:(zc4 s f).Ends r) (w:World) (H:St w w [] R):Ret Tryz.prog 74 #[aa,ab] w fun v w'=>∃ (y0:Bool),y0=r/\v=B y0/\St w w' [] R:=by
 refine ret_of_W Tryz.func74 rfl rfl rfl ?_;refine kg 8 ?_;obtain ⟨am,aj,hM⟩:=M.e_bind hM;refine s_call cf84 [aa,ab] rfl (zdJ s f (ag.app _) ah (ai.app _) aj _ (H.gt 0)) ?_
 rintro vq ao ⟨r2,rfl,hvq,ae⟩
 subst vq;(try dsimp only at hM);replace H:=H.bk ae;clear ae;refine kg 3 ?_;refine W.ret ?_
 have al:=M.e_pure hM
 exact ⟨_,resE_tmp rfl,⟨(decide (0<=r2)),al,rfl,H⟩⟩

def zci (x:Leg) (aa:Leg->M Bool):M Bool :=
  M.bind (aa x) fun r2 =>
  M.pure (!r2)
theorem zdA {R:List Chunk} {aa:Nat} {ab:Value} (x:Leg) (ac:Leg->M Bool) (ae:FnM Tryz.prog R ab ac) (ai:Has R (cBlk aa [ab] 118)) {r:Bool} (hM:(zci x ac).Ends r) (w:World) (H:St w w [] R):Ret Tryz.prog 75 #[.agg #[I x.line,B x.back],Pq aa] w fun v w'=>∃ (y0:Bool),y0=r/\v=B y0/\St w w' [] R:=by
 refine ret_of_W Tryz.func75 rfl rfl rfl ?_;refine kg 2 ?_;refine t_bx [I x.line,B x.back] H rfl ?_;intro aj al H;refine kg 6 ?_;obtain ⟨r2,ag,hM⟩:=M.e_bind hM;refine t_callM H ae rfl rfl x Reads.none ⟨_,rfl,rfl⟩ ag ?_;intro am H;refine kg 3 ?_;refine W.ret ?_
 have ah:=M.e_pure hM
 exact ⟨_,resE_tmp rfl,⟨(!r2),ah,rfl,(H.pk [])⟩⟩

def zcG (l:List Leg) (so:Leg->M Bool):M Bool :=
  M.bind (zc4 l (fun aa=>zci aa so)) fun r2 =>
  M.pure (!r2)
theorem zdW {R:List Chunk} {ag:Cells} {ab:Value} {aa:Value} (l:List Leg) (so:Leg->M Bool) (al:Reads R ag) (am:Sl ag ab l) (ah:FnM Tryz.prog R aa so) {r:Bool} (hM:(zcG l so).Ends r) (w:World) (H:St w w [] R):Ret Tryz.prog 58 #[ab,aa] w fun v w'=>∃ (y0:Bool),y0=r/\v=B y0/\St w w' [] R:=by
 refine ret_of_W Tryz.func58 rfl rfl rfl ?_;refine kg 2 ?_;refine t_box (v:=aa) (cs:=[aa]) H rfl (FnM.cells ah) ?_;intro ac az H;refine kg 5 ?_;refine s_val (x_mf (fs:=[]) (cs:=[Pq ac]) rfl rfl) ?_;obtain ⟨aA,ao,hM⟩:=M.e_bind hM;refine s_call cf74 [ab,.func (.func 75) #[] #[Pq ac]] rfl (zdH l (fun ae=>zci ae so) (al.app _) am ⟨75,[Pq ac],rfl,cf75,fun ai aB aC ap ae aD aq aE ar au=>by obtain rfl:=Leg_arg ar; exact (zdA ae so (FnM.app (ah.app _) _) (Has.app (Has.here (k:=0) rfl) _) au ai (St.refl aq)).mono fun ap ai ⟨aF,av,aw,ax⟩=>by subst av; exact ⟨aw,ax⟩⟩ ao _ (H.gt 1)) ?_
 rintro vq aG ⟨r2,rfl,hvq,aj⟩
 subst vq;(try dsimp only at hM);replace H:=H.bk aj;clear aj;refine kg 3 ?_;refine W.ret ?_
 have ay:=M.e_pure hM
 exact ⟨_,resE_tmp rfl,⟨(!r2),ay,rfl,(H.pk [])⟩⟩

def zcP (g:Leg) (ab:Int) (aa:List Line):M Bool :=
  M.bind (zae g.line 0 ((aa.length:Int)-1)) fun r2 =>
  M.pure r2
theorem zdO {R:List Chunk} {ab:Nat} {ac:Cells} {ae:Value} (g:Leg) (ag:Int) (aa:List Line) (am:Reads R ac) (ai:Sl ac ae aa) (ao:Has R (cBlk ab [I ag,ae] 25)) {r:Bool} (hM:(zcP g ag aa).Ends r) (w:World) (H:St w w [] R):Ret Tryz.prog 59 #[.agg #[I g.line,B g.back],Pq ab] w fun v w'=>∃ (y0:Bool),y0=r/\v=B y0/\St w w' [] R:=by
 refine ret_of_W Tryz.func59 rfl rfl rfl ?_;refine kg 2 ?_;refine t_bx [I g.line,B g.back] H rfl ?_;intro ap aq H
 have ar:=(ai).len_le
 refine kg 10 ?_;obtain ⟨au,aj,hM⟩:=M.e_bind hM;refine s_call cf39 [I g.line,I 0,I ((aa.length:Int)-1)] rfl (zah g.line 0 ((aa.length:Int)-1) aj _ (H.gt 1)) ?_
 rintro vq av ⟨r2,rfl,hvq,ah⟩
 subst vq;(try dsimp only at hM);replace H:=H.bk ah;clear ah;refine kg 2 ?_;refine W.ret ?_
 have al:=M.e_pure hM
 exact ⟨_,resE_tmp rfl,⟨r2,al,rfl,(H.pk [])⟩⟩

def za1 (n_Marks:Int) (n_Lines:List Line) (walk:List Leg):(Int × Int × Nat)->M ((Int × Int × Nat) ⊕ (Unit ⊕ (Int × Int))):=fun (s,rise,s2) =>
  bif decide ((s2:Int)<(walk.length:Int)) then (
  M.grd (decide ((s2:Int)<(walk.length:Int))) <|
  M.bind (zaq n_Marks n_Lines (walk.getD s2 default)) fun r6 =>
  bif r6 != s then (
  M.pure (.inr (.inl ())))
  else (
  M.bind (zay n_Marks n_Lines (walk.getD s2 default)) fun r7 =>
  M.bind (zaI n_Marks n_Lines (walk.getD s2 default)) fun r8 =>
  M.grd (decide ((-9223372036854775808:Int)<=(rise+r8))&&decide ((rise+r8)<=(9223372036854775807:Int))) <|
  M.pure (.inl (r7,rise+r8,s2+1))))
  else (
  M.pure (.inr (.inr (s,rise))))
def zbs (n_Marks:Int) (n_Lines:List Line) (walk:List Leg):M (Int × Int × Int × Int) :=
  M.bind (zak n_Marks n_Lines) fun r2 =>
  bif r2 != 0 then (
  M.pure (0,0,0,r2))
  else (
  M.bind (zae (walk.length:Int) 1 60) fun r3 =>
  bif !r3 then (
  M.pure (0,0,0,3))
  else (
  M.bind (zcG walk (fun aa=>zcP aa n_Marks n_Lines)) fun r4 =>
  bif !r4 then (
  M.pure (0,0,0,2))
  else (
  M.grd (decide (0<(walk.length:Int))) <|
  M.bind (zaq n_Marks n_Lines (walk.getD 0 default)) fun r5 =>
  M.bind (M.iter (za1 n_Marks n_Lines walk) (r5,0,0)) fun x_=>match x_ with
  | (.inl (_:Unit))=>(
  M.pure (0,0,0,9))
  | (.inr (s3,rise2))=>(
  M.pure (r5,s3,rise2,0)))))
theorem zcT {R:List Chunk} {ax:Cells} {ab:Value} {ay:Cells} {am:Value} (n_Marks:Int) (n_Lines:List Line) (walk:List Leg) (ai:Reads R ax) (aj:Sl ax ab n_Lines) (aC:Reads R ay) (ap:Sl ay am walk) {r:(Int × Int × Int × Int)} (hM:(zbs n_Marks n_Lines walk).Ends r) (w:World) (H:St w w [] R):Ret Tryz.prog 25 #[.agg #[I n_Marks,ab],am] w fun v w'=>∃ (y0:Int) (y1:Int) (y2:Int) (y3:Int),(y0,y1,y2,y3)=r/\v = .tuple #[I y0,I y1,I y2,I y3]/\St w w' [] R:=by
 refine ret_of_W Tryz.func25 rfl rfl rfl ?_;refine kg 2 ?_;refine t_bx [I n_Marks,ab] H rfl ?_;intro ao aW H;refine kg 8 ?_;refine s_val (x_bld (ps:=[(0,.agg #[I n_Marks,ab])]) (zs:=(List.flatten [[I 0,.slice none 0 0],encF (α:=Int) (List.replicate 169 0),encF (α:=Leg) (List.replicate 169 default)])) (L':=(List.flatten [[I n_Marks,ab],encF (α:=Int) (List.replicate 169 0),encF (α:=Leg) (List.replicate 169 default)])) rfl Tryz.underlying102 Al102 rfl (Bd102 Tryz.underlying102) (.cons (cs:=[I n_Marks,ab]) rfl rfl rfl (by kernel_rfl) rfl<|.nil)) ?_;refine t_box (v:=.agg (List.flatten [[I n_Marks,ab],encF (α:=Int) (List.replicate 169 0),encF (α:=Leg) (List.replicate 169 default)]).toArray) (cs:=(List.flatten [[I n_Marks,ab],encF (α:=Int) (List.replicate 169 0),encF (α:=Leg) (List.replicate 169 default)])) H rfl rfl ?_;intro al aX H;refine kg 5 ?_;obtain ⟨aY,aD,hM⟩:=M.e_bind hM;refine s_call cf8 [.agg #[I n_Marks,ab]] rfl (zaC n_Marks n_Lines (ai.app _) aj aD _ (H.gt 2)) ?_
 rintro vq aZ ⟨r2,rfl,hvq,aa⟩
 subst vq;(try dsimp only at hM);replace H:=H.bk aa;clear aa;refine kg 10 ?_
 refine W.cond (r2 != 0) rfl (fun ae=>?_) (fun ae=>?_)
 ·replace hM:=M.e_t hM ae
  replace ae:=dI ae
  refine kg 8 ?_;refine W.ret ?_
  have ac:=M.e_pure hM
  exact ⟨_,resE_tmp4 rfl,⟨0,0,0,r2,ac,rfl,(H.pk [])⟩⟩
 replace hM:=M.e_f hM ae
 replace ae:=dI ae
 have a7:=(ap).len_le
 refine kg 4 ?_;obtain ⟨a8,aE,hM⟩:=M.e_bind hM;refine s_call cf39 [I (walk.length:Int),I 1,I 60] rfl (zah (walk.length:Int) 1 60 aE _ (H.gt 2)) ?_
 rintro vq ba ⟨r3,rfl,hvq,aa⟩
 subst vq;(try dsimp only at hM);replace H:=H.bk aa;clear aa;refine kg 3 ?_
 refine W.cond (!r3) rfl (fun aq=>?_) (fun aq=>?_)
 ·replace hM:=M.e_t hM aq;refine kg 7 ?_;refine W.ret ?_
  have ac:=M.e_pure hM
  exact ⟨_,resE_tmp4 rfl,⟨0,0,0,3,ac,rfl,(H.pk [])⟩⟩
 replace hM:=M.e_f hM aq;refine kg 3 ?_;refine s_val (x_mf (fs:=[]) (cs:=[Pq ao]) rfl rfl) ?_;obtain ⟨bb,aF,hM⟩:=M.e_bind hM;refine s_call cf58 [am,.func (.func 59) #[] #[Pq ao]] rfl (zdW walk (fun ar=>zcP ar n_Marks n_Lines) (aC.app _) ap ⟨59,[Pq ao],rfl,cf59,fun az bc bg aG ar bh aH bi aI aJ=>by obtain rfl:=Leg_arg aI; exact (zdO ar n_Marks n_Lines (Reads.app (ai.app _) _) aj (Has.app (Has.here (k:=1) rfl) _) aJ az (St.refl aH)).mono fun aG az ⟨bj,aK,aL,aM⟩=>by subst aK; exact ⟨aL,aM⟩⟩ aF _ (H.gt 2)) ?_
 rintro vq bn ⟨r4,rfl,hvq,aa⟩
 subst vq;(try dsimp only at hM);replace H:=H.bk aa;clear aa;refine kg 3 ?_
 refine W.cond (!r4) rfl (fun au=>?_) (fun au=>?_)
 ·replace hM:=M.e_t hM au;refine kg 7 ?_;refine W.ret ?_
  have ac:=M.e_pure hM
  exact ⟨_,resE_tmp4 rfl,⟨0,0,0,2,ac,rfl,(H.pk [])⟩⟩
 replace hM:=M.e_f hM au;obtain ⟨bp,hM⟩:=M.e_gd hM;refine kg 7 ?_;obtain ⟨br,aN,hM⟩:=M.e_bind hM;refine s_call cf60 [Pq al,.agg #[I ((walk.getD 0 default).line),B ((walk.getD 0 default).back)]] rfl (zaH n_Marks n_Lines (walk.getD 0 default) (ai.app _) aj (Fld.here (k:=0) rfl rfl) aN _ (H.gt 2)) ?_
 rintro vq bt ⟨r5,rfl,hvq,aa⟩
 subst vq;(try dsimp only at hM);replace H:=H.bk aa;clear aa
 have bu:=(ap).len_le
 refine kg 15 ?_;obtain ⟨aO,av,aA⟩:=M.e_bind hM
 obtain ⟨bv,av⟩:=M.e_iter av
 refine W.loop (fun m σ W=>∃ (s:Int) (rise:Int) (s2:Nat) (ρ:Env),σ=upds ρ [(4,I r5),(5,I s),(6,I rise),(8,Pq al),(36,am),(37,I (walk.length:Int)),(38,I (s2:Int))]/\M.iterN (za1 n_Marks n_Lines walk) m (s,rise,s2)=some aO/\St w W [cBlk al (List.flatten [[I n_Marks,ab],encF (α:=Int) (List.replicate 169 0),encF (α:=Leg) (List.replicate 169 default)]) 102,cBlk ao [I n_Marks,ab] 25] R) ?_ ?_
 ·exact ⟨_,r5,0,0,_,upds_of _ _ ⟨rfl,rfl,rfl,rfl,rfl,rfl,rfl,trivial⟩,av,H⟩
 rintro bw σ bx ⟨s,rise,s2,ρ,rfl,aB,H⟩
 obtain ⟨aP,aQ,bz,hM,aw⟩:=M.e_iterN aB
 simp only [za1] at hM
 clear aB;refine kg 5 ?_
 refine W.cond (decide ((s2:Int)<(walk.length:Int))) rfl (fun ag=>?_) (fun ag=>?_)
 ·replace hM:=M.e_t hM ag
  replace ag:=dI ag
  obtain ⟨bA,hM⟩:=M.e_gd hM;refine kg 7 ?_;refine t_alloc (cs:=[I 0,B false]) H Al28 rfl ?_;intro bB bC H;refine t_sw 0 0 [I ((walk.getD s2 default).line),B ((walk.getD s2 default).back)] (.agg #[I ((walk.getD s2 default).line),B ((walk.getD s2 default).back)]) H rfl rfl Sz28 rfl rfl rfl rfl ?_;intro bD H;refine kg 6 ?_;obtain ⟨bE,aR,hM⟩:=M.e_bind hM;refine s_call cf60 [Pq al,.agg #[I ((walk.getD s2 default).line),B ((walk.getD s2 default).back)]] rfl (zaH n_Marks n_Lines (walk.getD s2 default) (ai.app _) aj (Fld.here (k:=1) rfl rfl) aR _ (H.gt 3)) ?_
  rintro vq bF ⟨r6,rfl,hvq,aa⟩
  subst vq;(try dsimp only at hM);replace H:=H.bk aa;clear aa;refine kg 3 ?_
  refine W.cond (r6 != s) rfl (fun ah=>?_) (fun ah=>?_)
  ·replace hM:=M.e_t hM ah
   replace ah:=dI ah
   refine kg 7 ?_;refine W.ret ?_
   have aS:=M.e_inr hM aw
   subst aS;replace hM:=aA;(try dsimp only at hM)
   have ac:=M.e_pure hM
   exact ⟨_,resE_tmp4 rfl,⟨0,0,0,9,ac,rfl,(H.pk [])⟩⟩
  replace hM:=M.e_f hM ah
  replace ah:=dI ah
  refine kg 5 ?_;obtain ⟨bG,aT,hM⟩:=M.e_bind hM;refine s_call cf61 [Pq al,.agg #[I ((walk.getD s2 default).line),B ((walk.getD s2 default).back)]] rfl (zat n_Marks n_Lines (walk.getD s2 default) (ai.app _) aj (Fld.here (k:=1) rfl rfl) aT _ (H.gt 3)) ?_
  rintro vq bH ⟨r7,rfl,hvq,aa⟩
  subst vq;(try dsimp only at hM);replace H:=H.bk aa;clear aa;refine kg 6 ?_;obtain ⟨bI,aU,hM⟩:=M.e_bind hM;refine s_call cf62 [Pq al,.agg #[I ((walk.getD s2 default).line),B ((walk.getD s2 default).back)]] rfl (zbS n_Marks n_Lines (walk.getD s2 default) (ai.app _) aj (Fld.here (k:=1) rfl rfl) aU _ (H.gt 3)) ?_
  rintro vq bJ ⟨r8,rfl,hvq,aa⟩
  subst vq;(try dsimp only at hM);replace H:=H.bk aa;clear aa;obtain ⟨bK,hM⟩:=M.e_gd hM;refine kg 7 ?_
  exact ⟨aP,aQ,r7,rise+r8,s2+1,_,upds_of _ _ ⟨rfl,rfl,rfl,rfl,rfl,rfl,rfl,trivial⟩,M.e_inl hM aw,(H.pk [1,2])⟩
 replace hM:=M.e_f hM ag
 replace ag:=dI ag
 refine W.exit ?_
 have aV:=M.e_inr hM aw
 subst aV;replace hM:=aA;(try dsimp only at hM);refine kg 10 ?_;refine W.ret ?_
 have ac:=M.e_pure hM
 exact ⟨_,resE_tmp4 rfl,⟨r5,s,rise,0,ac,rfl,(H.pk [])⟩⟩

def zaY (n_Marks:Int) (n_Lines:List Line):M (Bool × Int) :=
  M.bind (zao n_Marks n_Lines) fun x_=>match x_ with
  | (.inl r1)=>(
  bif r1 != 0 then (
  M.pure (false,r1))
  else (
  M.fail))
  | (.inr (aa,ab,ac,ae))=>(
  bif ae != 0 then (
  M.fail)
  else (
  M.bind (zav aa n_Lines ab ac) fun r2 =>
  M.pure ((!r2),0)))
theorem zc9 {R:List Chunk} {ah:Cells} {ae:Value} (n_Marks:Int) (n_Lines:List Line) (ai:Reads R ah) (aj:Sl ah ae n_Lines) {r:(Bool × Int)} (hM:(zaY n_Marks n_Lines).Ends r) (w:World) (H:St w w [] R):Ret Tryz.prog 16 #[.agg #[I n_Marks,ae]] w fun v w'=>∃ (y0:Bool) (y1:Int),(y0,y1)=r/\v = .tuple #[B y0,I y1]/\St w w' [] R:=by
 refine ret_of_W Tryz.func16 rfl rfl rfl ?_;refine kg 2 ?_;refine t_bx [I n_Marks,ae] H rfl ?_;intro az aA H;refine kg 6 ?_;obtain ⟨aB,al,hM⟩:=M.e_bind hM;refine s_call cf47 [.agg #[I n_Marks,ae]] rfl (zcC n_Marks n_Lines (ai.app _) aj al _ (H.gt 1)) ?_
 rintro vq aC (⟨r1,am,hvq,aa⟩ | ⟨ao,ap,aq,ar,au,av,hvq,aa,aw,ax⟩)
 ·subst am;subst vq;(try dsimp only at hM);replace H:=H.bk aa;clear aa;refine kg 12 ?_
  refine W.cond (r1 != 0) rfl (fun ab=>?_) (fun ab=>?_)
  ·replace hM:=M.e_t hM ab
   replace ab:=dI ab
   refine kg 6 ?_;refine W.ret ?_
   have ag:=M.e_pure hM
   exact ⟨_,resE_tmp2 rfl,⟨false,r1,ag,rfl,(H.pk [])⟩⟩
  replace hM:=M.e_f hM ab
  exact (M.e_fail hM).elim
 subst av;subst vq;(try dsimp only at hM);replace H:=H.bk aa;clear aa;refine kg 12 ?_
 refine W.cond (ar != 0) rfl (fun ac=>?_) (fun ac=>?_)
 ·replace hM:=M.e_t hM ac
  exact (M.e_fail hM).elim
 replace hM:=M.e_f hM ac
 replace ac:=dI ac
 refine kg 4 ?_;obtain ⟨aD,ay,hM⟩:=M.e_bind hM;refine s_call cf48 [Pq au] rfl (zbY ao n_Lines ap aq (ai.app _) aj aw ax (Has.here (k:=0) rfl) ay _ (H.gt 2)) ?_
 rintro vq aE ⟨r2,rfl,hvq,aa⟩
 subst vq;(try dsimp only at hM);replace H:=H.bk aa;clear aa;refine kg 4 ?_;refine W.ret ?_
 have ag:=M.e_pure hM
 exact ⟨_,resE_tmp2 rfl,⟨(!r2),0,ag,rfl,(H.pk [])⟩⟩

end Go.Proofs.YtfdgkdkfbaghpaaGreat
end
namespace Go.Nm
open Go
theorem x_eqnilA {P:Program} {w:World} {σ:Env} {d:Nat} {ty:TypeId} {pos:String} {af:Array Edge} {g:Option (Nat × Bool)} {t e yt:TypeId} {x y:Operand} {a:Option Addr} {n c:Nat} (ht:P.underlying t=some (.slice e)) (hx:ev σ x = .slice a n c) (hy:ev σ y = .slice none 0 0) :
    (execOp (ev σ) ⟨some d,.binOp .eql t x y yt,ty,pos,af,g⟩).run P w = .ok (.value (.bool a.isNone)) w:=by
  simp [execOp,hx,hy,eqGuard,binOp,run_equal_slice_nil w t e a n c ht]
end Go.Nm
namespace Go.Proofs.YtfdgkdkfbaghpaaGreat
open Go Go.Nm
theorem cfr93:CF Tryz.prog 70:=⟨_,Tryz.func70,rfl,by decide +kernel⟩
set_option maxRecDepth 100000 in
theorem clone_any {R:List Chunk} {C_s:Cells} {v_s:Value} (s:List Line) (hC_s:Reads R C_s) (hs_s:Sl C_s v_s s) (hlen:s.length*40<=140737488355328) (w:World) (hsep:Sep w R) :
    Ret Tryz.prog 70 #[v_s] w fun v w'=>St w w' [cOwn (α:=Line) 34 v s] R:=by
 have H:St w w [] R:=St.refl hsep
 obtain ⟨a,c,hv,hc,hm,hk⟩:=hs_s.ex
 refine ret_of_W Tryz.func70 rfl rfl rfl ?_
 refine W.seq ?_
 refine W.region rfl ?_
 refine s_val (x_as (v:=.slice none 0 0) rfl) ?_
 refine s_nil ?_
 refine W.seq ?_
 refine W.seq ?_
 refine W.region rfl ?_
 refine s_val (x_mv (v:=v_s) rfl) ?_
 refine s_val (v:=B a.isNone) (x_eqnilA (a:=a) (n:=s.length) (c:=c) Tryz.underlying23 hv rfl) ?_
 refine s_nil ?_
 refine W.cond a.isNone rfl (fun h=>?_) (fun h=>?_)
 ·have e:s=[]:=by
   cases s with
   | nil=>rfl
   | cons x s =>
    obtain ⟨b,o,cs,ha,_⟩:=hk 0 x rfl
    subst ha
    cases h
  subst e
  refine W.seq ?_
  refine W.region rfl ?_
  refine s_val (x_as (v:=.slice none 0 0) rfl) ?_
  refine s_nil ?_
  refine W.ret ?_
  exact ⟨_,resE_tmp rfl,H.nilOwn (α:=Line) 34⟩
 ·refine W.skip ?_
  refine W.seq ?_
  refine W.region rfl ?_
  refine t_bs0 (α:=Line) T23 H ?_
  intro v3z w4z H
  refine s_val (x_mv (v:=v_s) rfl) ?_
  refine t_app (α:=Line) (k:=0) (l:=[]) (l2:=s) (l':=s) (vy:=v_s) T23 rfl H rfl rfl rfl hs_s (hC_s.at H) (List.nil_append _) (by simp only [List.length_nil]; omega) ?_
  intro v6z w7z H
  refine s_val (x_as (v:=v6z) rfl) ?_
  refine s_nil ?_
  refine W.ret ?_
  exact ⟨_,resE_tmp rfl,H⟩
end Go.Proofs.YtfdgkdkfbaghpaaGreat
section
set_option maxRecDepth 100000
set_option maxHeartbeats 16000000
namespace Go.Proofs.YtfdgkdkfbaghpaaGreat
open Go Go.Nm
attribute [local irreducible] gd execOp SL SLD SLT WR
def zaL (aa:List Line):(List Int)->Leg->M ((List Int) ⊕ Unit):=fun mp x =>
  M.grd (decide ((0:Int)<=x.line)&&decide (x.line<(aa.length:Int))) <|
  M.grd (decide ((-9223372036854775808:Int)<=(((aa.getD (Int.toNat x.line) default).day)+1))&&decide ((((aa.getD (Int.toNat x.line) default).day)+1)<=(9223372036854775807:Int))) <|
  M.pure (.inl (insK mp (((aa.getD (Int.toNat x.line) default).day)+1)))
def zcp (ab:Int) (aa:List Line) (mark:Int):M (List Int) :=
  M.bind (zaN ab aa mark) fun ac =>
  M.bind (zai (M.yl (zaL aa)) (.inl (insK ([]:List Int) 1)) ab aa ac) fun x_=>match x_ with
  | .inl mp=>(
  M.grd (decide (∀ k_∈(mp.erase 40001),(-9223372036854775808:Int)<=k_/\k_<=(9223372036854775807:Int))&&decide ((mp.erase 40001).length<=1000000)) <|
  M.pure (isort (mp.erase 40001)))
  | .inr _=>M.fail
theorem zdE {R:List Chunk} {ab:Nat} {aD:Cells} {ar:Value} (am:Int) (ac:List Line) (mark:Int) (au:Reads R aD) (ay:Sl aD ar ac) (ao:Fld R ab [I am,ar]) {r:(List Int)} (hM:(zcp am ac mark).Ends r) (w:World) (H:St w w [] R):Ret Tryz.prog 66 #[Pq ab,I mark] w fun v w'=>∃ (y0:List Int) (u0:Value),y0=r/\v=u0/\St w w' [cOwn (α:=Int) 3 u0 y0] R:=by
 refine ret_of_WD Tryz.func66 rfl rfl rfl ?_
 replace H:St w w [cMk ([])] R:=H.mk0
 have aV:=ay.len_le
 unfold zcp at hM
 refine WD.seq<|WD.of<|W.region rfl ?_;refine t_b1 (Pq ab) H rfl rfl ?_;intro ae aW H;refine kg 2 ?_;refine WD.seq<|WD.of<|W.region rfl ?_;refine t_mkKs H ?_;intro aa aX H;refine t_insK (i:=0) (ks:=[]) (k:=1) (L':=[cKs aa (insK ([]:List Int) 1),cBlk ae [Pq ab] 93,cMk ([])]) keyIntB Tryz.underlying137 H rfl rfl rfl rfl rfl ?_;intro aY H;refine kg 1 ?_;refine t_alloc (cs:=[.map none]) H Al137 rfl ?_;intro aj aZ H;refine t_sw 0 0 [.map (some aa)] (.map (some aa)) H rfl rfl Sz137 rfl rfl rfl rfl ?_;intro a7 H;refine s_nil<|WD.seq<|WD.seq<|WD.of ?_;refine kg 3 ?_;obtain ⟨a8,aL,hM⟩:=M.e_bind hM;refine s_call cf71 [Pq ab,I mark] rfl (zco am ac mark (au.app _) ay (ao.app _) aL _ (H.gt 4)) ?_
 rintro vq ba ⟨ag,ah,ai,rfl,hvq,ap⟩
 subst vq;(try dsimp only at hM);replace H:=H.bk ap;clear ap;refine s_nil<|WD.block ?_;obtain ⟨bb,aM,hM⟩:=M.e_bind hM;refine WD.range (L:=[cKs aa (insK ([]:List Int) 1),cBlk ah [Pq ab] 93,cBlk ai [I ag] 3,cBlk aj [.map (some aa)] 137,cBlk ae [Pq ab] 93]) [Pq ah,Pq ai] (H.pk [5,3,0,1,2,4]) rfl cf82 ?_;intro av al az aN aA H
 have hYC:YieldC Tryz.prog ([cMk (al :: ([])),cBlk ah [Pq ab] 93,cBlk ai [I ag] 3,cBlk aj [.map (some aa)] 137,cBlk ae [Pq ab] 93]++R) arLeg (yJ av az (fun mp aw=>aw=[cKs aa mp]) (fun (_:Unit) _=>False) (fun _=>.ret)) (.func (.yield av) #[] #[]) (M.yl (zaL ac)):=by
  refine YieldC.mk2 aA (fun mp aw=>aw=[cKs aa mp]) (fun (_:Unit) _=>False) (fun _=>.ret) (zaL ac) (by rintro mp _ h_; obtain ⟨rfl⟩:=h_; rfl) (fun _ _ h_=>h_.elim) rfl (arLeg_len rfl) ?_;intro C_ bc x aO
  obtain rfl:=aO
  intro w R ax aw s_ r aP hM H
  skip
  obtain ⟨mp,aQ⟩:∃ y_,y_=s_:=⟨_,rfl⟩
  subst aQ
  obtain ⟨rfl⟩:=aP
  replace H:=H.nf;refine W.region rfl ?_;refine t_alloc (cs:=[I 0,B false]) H Al28 rfl ?_;intro aB bg H;refine t_sw 0 0 [I x.line,B x.back] (.agg #[I x.line,B x.back]) H rfl rfl Sz28 rfl rfl rfl rfl ?_;intro bh H;refine s_nil ?_
  refine ⟨rfl,[cBlk aB [I x.line,B x.back] 28],H.pick [0,1,2,3,4,5,6] (by decide) rfl,?_⟩
  clear H ax
  intro w R ax H
  replace au:=au.sub ax
  replace ao:=ao.sub ax
  replace hM:(zaL ac mp x).Ends r:=hM
  simp only [zaL] at hM
  replace H:=H.nf;refine W.block ?_;refine W.draw (fun W=>St w W [cBlk aB [I x.line,B x.back] 28,cMk (al :: ([])),cBlk ah [Pq ab] 93,cBlk ai [I ag] 3,cBlk aj [.map (some aa)] 137,cBlk ae [Pq ab] 93] R) [(0,true),(1,true),(2,true),(3,true),(4,true),(5,true),(6,true),(7,true),(8,true),(9,true),(10,true),(11,true),(12,false)] mixed (by decide +kernel) rfl ?_;intro bi aE;replace H:=H.ext aE;clear aE
  refine ⟨(H.pk [0,2,3,4,5,6]),?_⟩
  refine kg 5 ?_;refine d_q rfl (fun w' H=>x_ld (v:=ar) rfl (fld_sc (pre:=[I am,ar]) (i:=1) Sc23 (ao.at H) rfl)) ?_;obtain ⟨bj,hM⟩:=M.e_gd hM;obtain ⟨bn,hM⟩:=M.e_gd hM;refine kg 6 ?_;refine d_l rfl ?_;refine t_putK (i:=1) (ks:=mp) (k:=((ac.getD (Int.toNat x.line) default).day)+1) (L':=[cBlk aB [I x.line,B x.back] 28,cKs aa (insK mp (((ac.getD (Int.toNat x.line) default).day)+1)),cMk (al :: ([])),cBlk ah [Pq ab] 93,cBlk ai [I ag] 3,cBlk aj [.map (some aa)] 137,cBlk ae [Pq ab] 93]) keyIntB Tryz.underlying137 H rfl rfl rfl rfl rfl ?_;intro bp H
  refine s_nil ⟨(H.pk [0,2,3,4,5,6]),?_⟩
  refine d_nil ?_
  exact ⟨insK mp (((ac.getD (Int.toNat x.line) default).day)+1),[cKs aa (insK mp (((ac.getD (Int.toNat x.line) default).day)+1))],(M.e_pure hM).symm,rfl,H.pick [1,2,3,4,5,6] (by decide) rfl⟩
 replace H:St w aN (cAll (cObj av (.loop az) :: [cKs aa (insK ([]:List Int) 1)]) :: [cMk (al :: ([])),cBlk ah [Pq ab] 93,cBlk ai [I ag] 3,cBlk aj [.map (some aa)] 137,cBlk ae [Pq ab] 93]) R:=St.bundleB (A:=cObj av (.loop az) :: [cKs aa (insK ([]:List Int) 1)]) (T:=[cMk (al :: ([])),cBlk ah [Pq ab] 93,cBlk ai [I ag] 3,cBlk aj [.map (some aa)] 137,cBlk ae [Pq ab] 93]) rfl (H.pk [0,2,1,3,4,5,6])
 refine (zcl (M.yl (zaL ac)) (.inl (insK ([]:List Int) 1)) am ac ag hYC ⟨_,rfl,rfl⟩ (au.app _) ay (fun _ _ _=>Fld.cons (ao.app _) _) (Has.here (k:=1) rfl) (Has.here (k:=2) rfl) aM _ (H.gt 5)).mono ?_
 rintro vq br ⟨aR,bt,rfl,hvq,ap,aF⟩
 replace H:=H.back ap rfl
 clear ap hYC
 rcases aR with mp | _
 ·(try dsimp only at hM)
  obtain ⟨_,rfl,rfl⟩:=aF
  refine ⟨_,[cKs aa mp,cBlk ah [Pq ab] 93,cBlk ai [I ag] 3,cBlk aj [.map (some aa)] 137,cBlk ae [Pq ab] 93],H.unbundle.pick [0,2,1,3,4,5,6] (by decide) rfl,aA.nb,?_⟩
  intro bu H
  rw [aA.pd]
  replace H:=H.nf
  try simp only []
  refine WD.seq<|WD.of ?_;refine kg 2 ?_;refine t_delK (i:=1) (ks:=mp) (k:=40001) (L':=[cMk (al :: ([])),cKs aa (mp.erase 40001),cBlk ah [Pq ab] 93,cBlk ai [I ag] 3,cBlk aj [.map (some aa)] 137,cBlk ae [Pq ab] 93]) keyIntB rfl Tryz.underlying137 H rfl rfl rfl rfl ?_;intro bv H;refine s_nil<|WD.seq<|WD.of ?_;refine kg 2 ?_;refine s_call cf79 [.map (some aa)] rfl (keys_any aa _) ?_
  rintro _ aS ⟨aC,rfl,aq⟩
  replace H:St w aS [cBlk aC [.map (some aa)] 137,cMk (al :: ([])),cKs aa (mp.erase 40001),cBlk ah [Pq ab] 93,cBlk ai [I ag] 3,cBlk aj [.map (some aa)] 137,cBlk ae [Pq ab] 93] R:=H.freshB aq
  clear aq;obtain ⟨bw,hM⟩:=M.e_gd hM
  obtain ⟨bx,n_,aG,aH,aq⟩:=H.get (k:=2) rfl
  refine s_call cf78 [.func (.func 89) #[] #[Pq aC]] rfl (sortedKeys_any aG aH aq (by first | assumption | simp_all) (by omega) (H.bl 0)) ?_
  rintro aI aT ⟨aJ,aK⟩
  replace H:St w aT [cOwn (α:=Int) 3 aI (isort (mp.erase 40001)),cBlk aC [.map (some aa)] 137,cMk (al :: ([])),cKs aa (mp.erase 40001),cBlk ah [Pq ab] 93,cBlk ai [I ag] 3,cBlk aj [.map (some aa)] 137,cBlk ae [Pq ab] 93] R:=H.belowOwn aK aJ
  clear aK aJ aG aH aq
  refine kg 2 ?_;refine WD.of ?_;refine W.ret ?_;refine bodyD_r (H.pk [2,0,1,3,4,5,6,7]) ?_;intro bz H;replace H:=H.nf
  have aU:=M.e_pure hM
  exact ⟨_,resE_tmp rfl,⟨(isort (mp.erase 40001)),aI,aU,rfl,(H.pk [0])⟩⟩
 obtain ⟨_,_,h_⟩:=aF; exact h_.elim

def zaS (n_Marks:Int) (n_Lines:List Line) (m_:Mv):(Nat × (List Line))->M ((Nat × (List Line)) ⊕ ((List Line) × (List Line))):=fun (s,l) =>
  bif decide ((s:Int)<(n_Lines.length:Int)) then (
  M.grd (decide ((s:Int)<(l.length:Int))) <|
  bif decide (((l.getD s default).day)<m_.day) then (
  M.pure (.inl (s+1,l)))
  else (
  bif ((l.getD s default).src)==m_.mark then (
  bif (((l.set s ({ (l.getD s default) with src:=n_Marks })).getD s default).dst)==m_.mark then (
  M.pure (.inl (s+1,(l.set s ({ (l.getD s default) with src:=n_Marks })).set s ({ ((l.set s ({ (l.getD s default) with src:=n_Marks })).getD s default) with dst:=n_Marks }))))
  else (
  M.pure (.inl (s+1,l.set s ({ (l.getD s default) with src:=n_Marks })))))
  else (
  bif ((l.getD s default).dst)==m_.mark then (
  M.pure (.inl (s+1,l.set s ({ (l.getD s default) with dst:=n_Marks }))))
  else (
  M.pure (.inl (s+1,l))))))
  else (
  M.pure (.inr (l,l)))
def zaK (n_Marks:Int) (n_Lines:List Line) (m_:Mv):M (Int × (List Line)) :=
  M.grd (decide ((-9223372036854775808:Int)<=(n_Marks+1))&&decide ((n_Marks+1)<=(9223372036854775807:Int))) <|
  M.grd (decide (n_Lines.length*40<=140737488355328)) <|
  M.bind (M.iter (zaS n_Marks n_Lines m_) (0,n_Lines)) fun (l2,l3) =>
  M.pure ((n_Marks+1),l3)
theorem zdf {R:List Chunk} {aJ:Cells} {ac:Value} (n_Marks:Int) (n_Lines:List Line) (m_:Mv) (aK:Reads R aJ) (aL:Sl aJ ac n_Lines) {r:(Int × (List Line))} (hM:(zaK n_Marks n_Lines m_).Ends r) (w:World) (H:St w w [] R):Ret Tryz.prog 43 #[.agg #[I n_Marks,ac],.agg #[I m_.mark,I m_.day]] w fun v w'=>∃ (y0:Int) (y1:List Line) (u0:Value),(y0,y1)=r/\v = .agg #[I y0,u0]/\St w w' [cOwn (α:=Line) 34 u0 y1] R:=by
 refine ret_of_W Tryz.func43 rfl rfl rfl ?_;refine kg 2 ?_;refine t_bx [I n_Marks,ac] H rfl ?_;intro ae aZ H;refine t_bx [I m_.mark,I m_.day] H rfl ?_;intro ag a7 H;refine t_alloc (cs:=[I 0,.slice none 0 0]) H Al25 rfl ?_;intro ah a8 H;refine kg 2 ?_;refine W.drawT (fun W=>St w W [cBlk ah [I 0,.slice none 0 0] 25,cBlk ag [I m_.mark,I m_.day] 31,cBlk ae [I n_Marks,ac] 25] R) (.q 0 (.q 1 (.q 2 (.q 3 (.q 4 (.l2 5 (.q 6 (.l 7 (.l 8 .nil))) 7 (.l 5 (.q 6 (.l 8 .nil))))))))) mixed (by decide +kernel) rfl ?_;intro ba ab;replace H:=H.ext ab;clear ab
 refine ⟨(H.pk [0,1,2]),?_⟩
 obtain ⟨bb,hM⟩:=M.e_gd hM;obtain ⟨bc,hM⟩:=M.e_gd hM;refine kg 5 ?_;refine t_l2 rfl rfl ?_ ?_
 ·skip
  refine s_call cfr93 [ac] rfl (clone_any n_Lines (aK.app _) aL (by omega) _ H.sep) ?_
  rintro ax bg aB
  replace H:=H.bk aB;clear aB
  have aO:=Sl.cells (H.os 0)
  have bh:=Sl.oc (H.os 0)
  refine s_nil ⟨(H.pk [1,2,3]),?_⟩
  refine t_q rfl (fun w' H=>x_bld (ps:=[(0,I (n_Marks+1)),(1,ax)]) (zs:=[I 0,.slice none 0 0]) (L':=[I (n_Marks+1),ax]) rfl Tryz.underlying25 Al25 rfl (Bd25 Tryz.underlying25) (.cons (cs:=[I (n_Marks+1)]) rfl rfl rfl rfl rfl<|.cons (cs:=[ax]) aO rfl rfl rfl rfl<|.nil))<|t_l rfl ?_;refine t_alloc (cs:=[I 0,.slice none 0 0]) H Al25 rfl ?_;intro ai bi H
  refine s_nil ⟨(H.pk [2,3,4]),?_⟩
  refine t_l rfl ?_;refine t_sw 0 0 [I (n_Marks+1),ax] (.agg #[I (n_Marks+1),ax]) H rfl rfl Sz25 rfl rfl rfl (by simp only [List.all_cons,List.all_nil,Bool.true_and,Bool.and_true,Sl.oc (H.os 1)]; try rfl) ?_;intro bj H
  refine s_nil ⟨(H.pk [2,3,4]),?_⟩
  have bn:=((H.os 1)).len_le
  refine kg 10 ?_;obtain ⟨aP,aG,aQ⟩:=M.e_bind hM
  obtain ⟨aR,aG⟩:=M.e_iter aG
  refine W.loop (fun m σ W=>∃ (s:Nat) (l:List Line) (aa:Value) (ρ:Env),σ=upds ρ [(2,Pq ae),(3,Pq ag),(4,Pq ah),(5,Pq ai),(17,I (n_Lines.length:Int)),(18,I (s:Int))]/\M.iterN (zaS n_Marks n_Lines m_) m (s,l)=some aP/\St w W [cBlk ai [I (n_Marks+1),aa] 25,cOwn (α:=Line) 34 aa l,cBlk ah [I 0,.slice none 0 0] 25,cBlk ag [I m_.mark,I m_.day] 31,cBlk ae [I n_Marks,ac] 25] R) ?_ ?_
  ·exact ⟨_,0,n_Lines,ax,_,upds_of _ _ ⟨rfl,rfl,rfl,rfl,rfl,rfl,trivial⟩,aG,H⟩
  rintro bp σ br ⟨s,l,aa,ρ,rfl,aM,H⟩
  obtain ⟨aC,aD,bt,hM,ay⟩:=M.e_iterN aM
  simp only [zaS] at hM
  clear aM;refine kg 5 ?_
  refine W.cond (decide ((s:Int)<(n_Lines.length:Int))) rfl (fun aj=>?_) (fun aj=>?_)
  ·replace hM:=M.e_t hM aj
   replace aj:=dI aj
   obtain ⟨bu,hM⟩:=M.e_gd hM;refine kg 18 ?_;refine W.draw (fun W=>St w W [cBlk ai [I (n_Marks+1),aa] 25,cOwn (α:=Line) 34 aa l,cBlk ah [I 0,.slice none 0 0] 25,cBlk ag [I m_.mark,I m_.day] 31,cBlk ae [I n_Marks,ac] 25] R) [(0,true),(1,true),(2,true),(3,true),(4,true),(5,true),(6,true)] mixed (by decide +kernel) rfl ?_;intro bv ab;replace H:=H.ext ab;clear ab
   refine ⟨(H.pk [0,1,2,3,4]),?_⟩
   refine kg 1 ?_;refine d_q rfl (fun w' H=>x_ncE (p:=vat aa 5 (Int.toNat (s:Int))) rfl (Sl.pl (i:=(s:Int)) (H.os 1) (by omega) (by omega))) ?_;refine kg 6 ?_
   refine W.cond (decide (((l.getD s default).day)<m_.day)) rfl (fun al=>?_) (fun al=>?_)
   ·replace hM:=M.e_t hM al
    replace al:=dI al
    refine W.exit ?_;refine kg 4 ?_
    exact ⟨aC,aD,s+1,l,aa,_,upds_of _ _ ⟨rfl,rfl,rfl,rfl,rfl,rfl,trivial⟩,M.e_inl hM ay,H⟩
   replace hM:=M.e_f hM al
   replace al:=dI al
   refine kg 3 ?_;refine W.draw (fun W=>St w W [cBlk ai [I (n_Marks+1),aa] 25,cOwn (α:=Line) 34 aa l,cBlk ah [I 0,.slice none 0 0] 25,cBlk ag [I m_.mark,I m_.day] 31,cBlk ae [I n_Marks,ac] 25] R) [(0,true),(1,true),(2,true),(3,true),(4,true),(5,true),(6,true)] mixed (by decide +kernel) rfl ?_;intro bw ab;replace H:=H.ext ab;clear ab
   refine ⟨(H.pk [0,1,2,3,4]),?_⟩
   refine kg 1 ?_;refine d_q rfl (fun w' H=>x_ncE (p:=vat aa 5 (Int.toNat (s:Int))) rfl (Sl.pl (i:=(s:Int)) (H.os 1) (by omega) (by omega))) ?_;refine kg 6 ?_
   refine W.cond (((l.getD s default).src)==m_.mark) rfl (fun am=>?_) (fun am=>?_)
   ·replace hM:=M.e_t hM am
    replace am:=dI am
    refine kg 4 ?_;refine s_val (x_ncE (p:=vat aa 5 (Int.toNat (s:Int))) rfl (Sl.pl (i:=(s:Int)) (H.os 1) (by omega) (by omega))) ?_;refine kg 1 ?_;refine t_fst (α:=Line) (k:=1) (i:=(s:Int)) (off:=0) (l:=l) (l':=l.set s ({ (l.getD s default) with src:=n_Marks })) (val:=I n_Marks) (L':=[cBlk ai [I (n_Marks+1),aa] 25,cOwn (α:=Line) 34 aa (l.set s ({ (l.getD s default) with src:=n_Marks })),cBlk ah [I 0,.slice none 0 0] 25,cBlk ag [I m_.mark,I m_.day] 31,cBlk ae [I n_Marks,ac] 25]) H rfl Sz3 (by omega) (by omega) (l.getD s default) ({ (l.getD s default) with src:=n_Marks }) (getD_some _ (by omega) _) rfl rfl [I n_Marks] rfl rfl rfl rfl rfl rfl rfl ?_;intro bx H
    have bz:(l.set s ({ (l.getD s default) with src:=n_Marks })).length=(l).length:=List.length_set
    refine kg 2 ?_;refine W.draw (fun W=>St w W [cBlk ai [I (n_Marks+1),aa] 25,cOwn (α:=Line) 34 aa (l.set s ({ (l.getD s default) with src:=n_Marks })),cBlk ah [I 0,.slice none 0 0] 25,cBlk ag [I m_.mark,I m_.day] 31,cBlk ae [I n_Marks,ac] 25] R) [(0,true),(1,true),(2,true),(3,true),(4,true),(5,true),(6,true)] mixed (by decide +kernel) rfl ?_;intro bA ab;replace H:=H.ext ab;clear ab
    refine ⟨(H.pk [0,1,2,3,4]),?_⟩
    refine kg 1 ?_;refine d_q rfl (fun w' H=>x_ncE (p:=vat aa 5 (Int.toNat (s:Int))) rfl (Sl.pl (i:=(s:Int)) (H.os 1) (by omega) (by omega))) ?_;refine kg 6 ?_
    refine W.cond ((((l.set s ({ (l.getD s default) with src:=n_Marks })).getD s default).dst)==m_.mark) rfl (fun ao=>?_) (fun ao=>?_)
    ·replace hM:=M.e_t hM ao
     replace ao:=dI ao
     refine kg 4 ?_;refine s_val (x_ncE (p:=vat aa 5 (Int.toNat (s:Int))) rfl (Sl.pl (i:=(s:Int)) (H.os 1) (by omega) (by omega))) ?_;refine kg 1 ?_;refine t_fst (α:=Line) (k:=1) (i:=(s:Int)) (off:=1) (l:=l.set s ({ (l.getD s default) with src:=n_Marks })) (l':=(l.set s ({ (l.getD s default) with src:=n_Marks })).set s ({ ((l.set s ({ (l.getD s default) with src:=n_Marks })).getD s default) with dst:=n_Marks })) (val:=I n_Marks) (L':=[cBlk ai [I (n_Marks+1),aa] 25,cOwn (α:=Line) 34 aa ((l.set s ({ (l.getD s default) with src:=n_Marks })).set s ({ ((l.set s ({ (l.getD s default) with src:=n_Marks })).getD s default) with dst:=n_Marks })),cBlk ah [I 0,.slice none 0 0] 25,cBlk ag [I m_.mark,I m_.day] 31,cBlk ae [I n_Marks,ac] 25]) H rfl Sz3 (by omega) (by omega) ((l.set s ({ (l.getD s default) with src:=n_Marks })).getD s default) ({ ((l.set s ({ (l.getD s default) with src:=n_Marks })).getD s default) with dst:=n_Marks }) (getD_some _ (by omega) _) rfl rfl [I n_Marks] rfl rfl rfl rfl rfl rfl rfl ?_;intro bB H
     have bC:((l.set s ({ (l.getD s default) with src:=n_Marks })).set s ({ ((l.set s ({ (l.getD s default) with src:=n_Marks })).getD s default) with dst:=n_Marks })).length=(l.set s ({ (l.getD s default) with src:=n_Marks })).length:=List.length_set
     refine kg 5 ?_
     exact ⟨aC,aD,s+1,(l.set s ({ (l.getD s default) with src:=n_Marks })).set s ({ ((l.set s ({ (l.getD s default) with src:=n_Marks })).getD s default) with dst:=n_Marks }),aa,_,upds_of _ _ ⟨rfl,rfl,rfl,rfl,rfl,rfl,trivial⟩,M.e_inl hM ay,H⟩
    replace hM:=M.e_f hM ao
    replace ao:=dI ao
    refine kg 5 ?_
    exact ⟨aC,aD,s+1,l.set s ({ (l.getD s default) with src:=n_Marks }),aa,_,upds_of _ _ ⟨rfl,rfl,rfl,rfl,rfl,rfl,trivial⟩,M.e_inl hM ay,H⟩
   replace hM:=M.e_f hM am
   replace am:=dI am
   refine kg 2 ?_;refine W.draw (fun W=>St w W [cBlk ai [I (n_Marks+1),aa] 25,cOwn (α:=Line) 34 aa l,cBlk ah [I 0,.slice none 0 0] 25,cBlk ag [I m_.mark,I m_.day] 31,cBlk ae [I n_Marks,ac] 25] R) [(0,true),(1,true),(2,true),(3,true),(4,true),(5,true),(6,true)] mixed (by decide +kernel) rfl ?_;intro bD ab;replace H:=H.ext ab;clear ab
   refine ⟨(H.pk [0,1,2,3,4]),?_⟩
   refine kg 1 ?_;refine d_q rfl (fun w' H=>x_ncE (p:=vat aa 5 (Int.toNat (s:Int))) rfl (Sl.pl (i:=(s:Int)) (H.os 1) (by omega) (by omega))) ?_;refine kg 6 ?_
   refine W.cond (((l.getD s default).dst)==m_.mark) rfl (fun ap=>?_) (fun ap=>?_)
   ·replace hM:=M.e_t hM ap
    replace ap:=dI ap
    refine kg 4 ?_;refine s_val (x_ncE (p:=vat aa 5 (Int.toNat (s:Int))) rfl (Sl.pl (i:=(s:Int)) (H.os 1) (by omega) (by omega))) ?_;refine kg 1 ?_;refine t_fst (α:=Line) (k:=1) (i:=(s:Int)) (off:=1) (l:=l) (l':=l.set s ({ (l.getD s default) with dst:=n_Marks })) (val:=I n_Marks) (L':=[cBlk ai [I (n_Marks+1),aa] 25,cOwn (α:=Line) 34 aa (l.set s ({ (l.getD s default) with dst:=n_Marks })),cBlk ah [I 0,.slice none 0 0] 25,cBlk ag [I m_.mark,I m_.day] 31,cBlk ae [I n_Marks,ac] 25]) H rfl Sz3 (by omega) (by omega) (l.getD s default) ({ (l.getD s default) with dst:=n_Marks }) (getD_some _ (by omega) _) rfl rfl [I n_Marks] rfl rfl rfl rfl rfl rfl rfl ?_;intro bE H
    have bF:(l.set s ({ (l.getD s default) with dst:=n_Marks })).length=(l).length:=List.length_set
    refine kg 5 ?_
    exact ⟨aC,aD,s+1,l.set s ({ (l.getD s default) with dst:=n_Marks }),aa,_,upds_of _ _ ⟨rfl,rfl,rfl,rfl,rfl,rfl,trivial⟩,M.e_inl hM ay,H⟩
   replace hM:=M.e_f hM ap
   replace ap:=dI ap
   refine kg 5 ?_
   exact ⟨aC,aD,s+1,l,aa,_,upds_of _ _ ⟨rfl,rfl,rfl,rfl,rfl,rfl,trivial⟩,M.e_inl hM ay,H⟩
  replace hM:=M.e_f hM aj
  replace aj:=dI aj
  refine W.exit ?_
  have aS:=M.e_inr hM ay
  subst aS;replace hM:=aQ;(try dsimp only at hM);refine kg 3 ?_;refine t_sw 2 0 [I (n_Marks+1),aa] (.agg #[I (n_Marks+1),aa]) H rfl rfl Sz25 rfl rfl rfl (by simp only [List.all_cons,List.all_nil,Bool.true_and,Bool.and_true,Sl.oc (H.os 1)]; try rfl) ?_;intro bG H;refine s_nil ?_;refine W.ret ?_
  have aT:=(H.bl 2)
  have aH:=M.e_pure hM
  exact ⟨_,(resE_of1 (v:=.agg #[I (n_Marks+1),aa]) rfl (.cell (v:=.agg #[I (n_Marks+1),aa]) rfl (run_loadVar_ag (ds:=[I (n_Marks+1),aa]) Ag25 Sz25 aT rfl rfl)<|.nil)),⟨(n_Marks+1),l,aa,aH,rfl,(H.pk [1])⟩⟩
 skip
 refine t_alloc (cs:=[I 0,.slice none 0 0]) H Al25 rfl ?_;intro ai bH H
 refine s_nil ⟨(H.pk [1,2,3]),?_⟩
 refine t_l rfl ?_;refine s_call cfr93 [ac] rfl (clone_any n_Lines (aK.app _) aL (by omega) _ H.sep) ?_
 rintro az bI aB
 replace H:=H.bk aB;clear aB
 have aU:=Sl.cells (H.os 0)
 have bJ:=Sl.oc (H.os 0)
 refine s_nil ⟨(H.pk [2,3,4]),?_⟩
 refine t_q rfl (fun w' H=>x_bld (ps:=[(0,I (n_Marks+1)),(1,az)]) (zs:=[I 0,.slice none 0 0]) (L':=[I (n_Marks+1),az]) rfl Tryz.underlying25 Al25 rfl (Bd25 Tryz.underlying25) (.cons (cs:=[I (n_Marks+1)]) rfl rfl rfl rfl rfl<|.cons (cs:=[az]) aU rfl rfl rfl rfl<|.nil))<|t_l rfl ?_;refine t_sw 1 0 [I (n_Marks+1),az] (.agg #[I (n_Marks+1),az]) H rfl rfl Sz25 rfl rfl rfl (by simp only [List.all_cons,List.all_nil,Bool.true_and,Bool.and_true,Sl.oc (H.os 0)]; try rfl) ?_;intro bK H
 refine s_nil ⟨(H.pk [2,3,4]),?_⟩
 have bL:=((H.os 0)).len_le
 refine kg 10 ?_;obtain ⟨aV,aI,aW⟩:=M.e_bind hM
 obtain ⟨aR,aI⟩:=M.e_iter aI
 refine W.loop (fun m σ W=>∃ (s:Nat) (l:List Line) (aa:Value) (ρ:Env),σ=upds ρ [(2,Pq ae),(3,Pq ag),(4,Pq ah),(5,Pq ai),(17,I (n_Lines.length:Int)),(18,I (s:Int))]/\M.iterN (zaS n_Marks n_Lines m_) m (s,l)=some aV/\St w W [cOwn (α:=Line) 34 aa l,cBlk ai [I (n_Marks+1),aa] 25,cBlk ah [I 0,.slice none 0 0] 25,cBlk ag [I m_.mark,I m_.day] 31,cBlk ae [I n_Marks,ac] 25] R) ?_ ?_
 ·exact ⟨_,0,n_Lines,az,_,upds_of _ _ ⟨rfl,rfl,rfl,rfl,rfl,rfl,trivial⟩,aI,H⟩
 rintro bM σ bN ⟨s,l,aa,ρ,rfl,aN,H⟩
 obtain ⟨aE,aF,bO,hM,aA⟩:=M.e_iterN aN
 simp only [zaS] at hM
 clear aN;refine kg 5 ?_
 refine W.cond (decide ((s:Int)<(n_Lines.length:Int))) rfl (fun aq=>?_) (fun aq=>?_)
 ·replace hM:=M.e_t hM aq
  replace aq:=dI aq
  obtain ⟨bP,hM⟩:=M.e_gd hM;refine kg 18 ?_;refine W.draw (fun W=>St w W [cOwn (α:=Line) 34 aa l,cBlk ai [I (n_Marks+1),aa] 25,cBlk ah [I 0,.slice none 0 0] 25,cBlk ag [I m_.mark,I m_.day] 31,cBlk ae [I n_Marks,ac] 25] R) [(0,true),(1,true),(2,true),(3,true),(4,true),(5,true),(6,true)] mixed (by decide +kernel) rfl ?_;intro bQ ab;replace H:=H.ext ab;clear ab
  refine ⟨(H.pk [0,1,2,3,4]),?_⟩
  refine kg 1 ?_;refine d_q rfl (fun w' H=>x_ncE (p:=vat aa 5 (Int.toNat (s:Int))) rfl (Sl.pl (i:=(s:Int)) (H.os 0) (by omega) (by omega))) ?_;refine kg 6 ?_
  refine W.cond (decide (((l.getD s default).day)<m_.day)) rfl (fun ar=>?_) (fun ar=>?_)
  ·replace hM:=M.e_t hM ar
   replace ar:=dI ar
   refine W.exit ?_;refine kg 4 ?_
   exact ⟨aE,aF,s+1,l,aa,_,upds_of _ _ ⟨rfl,rfl,rfl,rfl,rfl,rfl,trivial⟩,M.e_inl hM aA,H⟩
  replace hM:=M.e_f hM ar
  replace ar:=dI ar
  refine kg 3 ?_;refine W.draw (fun W=>St w W [cOwn (α:=Line) 34 aa l,cBlk ai [I (n_Marks+1),aa] 25,cBlk ah [I 0,.slice none 0 0] 25,cBlk ag [I m_.mark,I m_.day] 31,cBlk ae [I n_Marks,ac] 25] R) [(0,true),(1,true),(2,true),(3,true),(4,true),(5,true),(6,true)] mixed (by decide +kernel) rfl ?_;intro bR ab;replace H:=H.ext ab;clear ab
  refine ⟨(H.pk [0,1,2,3,4]),?_⟩
  refine kg 1 ?_;refine d_q rfl (fun w' H=>x_ncE (p:=vat aa 5 (Int.toNat (s:Int))) rfl (Sl.pl (i:=(s:Int)) (H.os 0) (by omega) (by omega))) ?_;refine kg 6 ?_
  refine W.cond (((l.getD s default).src)==m_.mark) rfl (fun au=>?_) (fun au=>?_)
  ·replace hM:=M.e_t hM au
   replace au:=dI au
   refine kg 4 ?_;refine s_val (x_ncE (p:=vat aa 5 (Int.toNat (s:Int))) rfl (Sl.pl (i:=(s:Int)) (H.os 0) (by omega) (by omega))) ?_;refine kg 1 ?_;refine t_fst (α:=Line) (k:=0) (i:=(s:Int)) (off:=0) (l:=l) (l':=l.set s ({ (l.getD s default) with src:=n_Marks })) (val:=I n_Marks) (L':=[cOwn (α:=Line) 34 aa (l.set s ({ (l.getD s default) with src:=n_Marks })),cBlk ai [I (n_Marks+1),aa] 25,cBlk ah [I 0,.slice none 0 0] 25,cBlk ag [I m_.mark,I m_.day] 31,cBlk ae [I n_Marks,ac] 25]) H rfl Sz3 (by omega) (by omega) (l.getD s default) ({ (l.getD s default) with src:=n_Marks }) (getD_some _ (by omega) _) rfl rfl [I n_Marks] rfl rfl rfl rfl rfl rfl rfl ?_;intro bS H
   have bT:(l.set s ({ (l.getD s default) with src:=n_Marks })).length=(l).length:=List.length_set
   refine kg 2 ?_;refine W.draw (fun W=>St w W [cOwn (α:=Line) 34 aa (l.set s ({ (l.getD s default) with src:=n_Marks })),cBlk ai [I (n_Marks+1),aa] 25,cBlk ah [I 0,.slice none 0 0] 25,cBlk ag [I m_.mark,I m_.day] 31,cBlk ae [I n_Marks,ac] 25] R) [(0,true),(1,true),(2,true),(3,true),(4,true),(5,true),(6,true)] mixed (by decide +kernel) rfl ?_;intro bU ab;replace H:=H.ext ab;clear ab
   refine ⟨(H.pk [0,1,2,3,4]),?_⟩
   refine kg 1 ?_;refine d_q rfl (fun w' H=>x_ncE (p:=vat aa 5 (Int.toNat (s:Int))) rfl (Sl.pl (i:=(s:Int)) (H.os 0) (by omega) (by omega))) ?_;refine kg 6 ?_
   refine W.cond ((((l.set s ({ (l.getD s default) with src:=n_Marks })).getD s default).dst)==m_.mark) rfl (fun av=>?_) (fun av=>?_)
   ·replace hM:=M.e_t hM av
    replace av:=dI av
    refine kg 4 ?_;refine s_val (x_ncE (p:=vat aa 5 (Int.toNat (s:Int))) rfl (Sl.pl (i:=(s:Int)) (H.os 0) (by omega) (by omega))) ?_;refine kg 1 ?_;refine t_fst (α:=Line) (k:=0) (i:=(s:Int)) (off:=1) (l:=l.set s ({ (l.getD s default) with src:=n_Marks })) (l':=(l.set s ({ (l.getD s default) with src:=n_Marks })).set s ({ ((l.set s ({ (l.getD s default) with src:=n_Marks })).getD s default) with dst:=n_Marks })) (val:=I n_Marks) (L':=[cOwn (α:=Line) 34 aa ((l.set s ({ (l.getD s default) with src:=n_Marks })).set s ({ ((l.set s ({ (l.getD s default) with src:=n_Marks })).getD s default) with dst:=n_Marks })),cBlk ai [I (n_Marks+1),aa] 25,cBlk ah [I 0,.slice none 0 0] 25,cBlk ag [I m_.mark,I m_.day] 31,cBlk ae [I n_Marks,ac] 25]) H rfl Sz3 (by omega) (by omega) ((l.set s ({ (l.getD s default) with src:=n_Marks })).getD s default) ({ ((l.set s ({ (l.getD s default) with src:=n_Marks })).getD s default) with dst:=n_Marks }) (getD_some _ (by omega) _) rfl rfl [I n_Marks] rfl rfl rfl rfl rfl rfl rfl ?_;intro bV H
    have bW:((l.set s ({ (l.getD s default) with src:=n_Marks })).set s ({ ((l.set s ({ (l.getD s default) with src:=n_Marks })).getD s default) with dst:=n_Marks })).length=(l.set s ({ (l.getD s default) with src:=n_Marks })).length:=List.length_set
    refine kg 5 ?_
    exact ⟨aE,aF,s+1,(l.set s ({ (l.getD s default) with src:=n_Marks })).set s ({ ((l.set s ({ (l.getD s default) with src:=n_Marks })).getD s default) with dst:=n_Marks }),aa,_,upds_of _ _ ⟨rfl,rfl,rfl,rfl,rfl,rfl,trivial⟩,M.e_inl hM aA,H⟩
   replace hM:=M.e_f hM av
   replace av:=dI av
   refine kg 5 ?_
   exact ⟨aE,aF,s+1,l.set s ({ (l.getD s default) with src:=n_Marks }),aa,_,upds_of _ _ ⟨rfl,rfl,rfl,rfl,rfl,rfl,trivial⟩,M.e_inl hM aA,H⟩
  replace hM:=M.e_f hM au
  replace au:=dI au
  refine kg 2 ?_;refine W.draw (fun W=>St w W [cOwn (α:=Line) 34 aa l,cBlk ai [I (n_Marks+1),aa] 25,cBlk ah [I 0,.slice none 0 0] 25,cBlk ag [I m_.mark,I m_.day] 31,cBlk ae [I n_Marks,ac] 25] R) [(0,true),(1,true),(2,true),(3,true),(4,true),(5,true),(6,true)] mixed (by decide +kernel) rfl ?_;intro bX ab;replace H:=H.ext ab;clear ab
  refine ⟨(H.pk [0,1,2,3,4]),?_⟩
  refine kg 1 ?_;refine d_q rfl (fun w' H=>x_ncE (p:=vat aa 5 (Int.toNat (s:Int))) rfl (Sl.pl (i:=(s:Int)) (H.os 0) (by omega) (by omega))) ?_;refine kg 6 ?_
  refine W.cond (((l.getD s default).dst)==m_.mark) rfl (fun aw=>?_) (fun aw=>?_)
  ·replace hM:=M.e_t hM aw
   replace aw:=dI aw
   refine kg 4 ?_;refine s_val (x_ncE (p:=vat aa 5 (Int.toNat (s:Int))) rfl (Sl.pl (i:=(s:Int)) (H.os 0) (by omega) (by omega))) ?_;refine kg 1 ?_;refine t_fst (α:=Line) (k:=0) (i:=(s:Int)) (off:=1) (l:=l) (l':=l.set s ({ (l.getD s default) with dst:=n_Marks })) (val:=I n_Marks) (L':=[cOwn (α:=Line) 34 aa (l.set s ({ (l.getD s default) with dst:=n_Marks })),cBlk ai [I (n_Marks+1),aa] 25,cBlk ah [I 0,.slice none 0 0] 25,cBlk ag [I m_.mark,I m_.day] 31,cBlk ae [I n_Marks,ac] 25]) H rfl Sz3 (by omega) (by omega) (l.getD s default) ({ (l.getD s default) with dst:=n_Marks }) (getD_some _ (by omega) _) rfl rfl [I n_Marks] rfl rfl rfl rfl rfl rfl rfl ?_;intro bY H
   have bZ:(l.set s ({ (l.getD s default) with dst:=n_Marks })).length=(l).length:=List.length_set
   refine kg 5 ?_
   exact ⟨aE,aF,s+1,l.set s ({ (l.getD s default) with dst:=n_Marks }),aa,_,upds_of _ _ ⟨rfl,rfl,rfl,rfl,rfl,rfl,trivial⟩,M.e_inl hM aA,H⟩
  replace hM:=M.e_f hM aw
  replace aw:=dI aw
  refine kg 5 ?_
  exact ⟨aE,aF,s+1,l,aa,_,upds_of _ _ ⟨rfl,rfl,rfl,rfl,rfl,rfl,trivial⟩,M.e_inl hM aA,H⟩
 replace hM:=M.e_f hM aq
 replace aq:=dI aq
 refine W.exit ?_
 have aX:=M.e_inr hM aA
 subst aX;replace hM:=aW;(try dsimp only at hM);refine kg 3 ?_;refine t_sw 2 0 [I (n_Marks+1),aa] (.agg #[I (n_Marks+1),aa]) H rfl rfl Sz25 rfl rfl rfl (by simp only [List.all_cons,List.all_nil,Bool.true_and,Bool.and_true,Sl.oc (H.os 0)]; try rfl) ?_;intro b0 H;refine s_nil ?_;refine W.ret ?_
 have aY:=(H.bl 2)
 have aH:=M.e_pure hM
 exact ⟨_,(resE_of1 (v:=.agg #[I (n_Marks+1),aa]) rfl (.cell (v:=.agg #[I (n_Marks+1),aa]) rfl (run_loadVar_ag (ds:=[I (n_Marks+1),aa]) Ag25 Sz25 aY rfl rfl)<|.nil)),⟨(n_Marks+1),l,aa,aH,rfl,(H.pk [0])⟩⟩

def za3 (n_Marks:Int) (n_Lines:List Line) (s2:Nat) (r3:List Int):(Nat × (List Mv))->M ((Nat × (List Mv)) ⊕ ((List Mv) × (List Mv))):=fun (s,l4) =>
  bif decide ((s:Int)<(r3.length:Int)) then (
  M.grd (decide ((s:Int)<(r3.length:Int))) <|
  M.grd (decide ((-9223372036854775808:Int)<=((l4.length:Int)-1))&&decide (((l4.length:Int)-1)<=(9223372036854775807:Int))) <|
  M.grd ((!(decide (0<=((l4.length:Int)-1)))||(decide ((0:Int)<=((l4.length:Int)-1))&&decide (((l4.length:Int)-1)<(l4.length:Int))))) <|
  bif ((decide (0<=((l4.length:Int)-1)))&&(decide ((l4.getD (Int.toNat ((l4.length:Int)-1)) default)=(⟨(s2:Int),((l4.getD (Int.toNat ((l4.length:Int)-1)) default).day:Int)⟩:Mv)))) then (
  M.pure (.inl (s+1,l4)))
  else (
  M.bind (zaK n_Marks n_Lines (⟨(s2:Int),(r3.getD s 0:Int)⟩:Mv)) fun (r0,aa) =>
  M.bind (zby r0 aa) fun (ab,ac,ae) =>
  M.bind (zav ab aa ac ae) fun r4 =>
  bif !r4 then (
  M.grd (decide ((l4.length+([(⟨(s2:Int),(r3.getD s 0:Int)⟩:Mv)]).length)*16<=140737488355328)) <|
  M.pure (.inl (s+1,l4++([(⟨(s2:Int),(r3.getD s 0:Int)⟩:Mv)]))))
  else (
  M.pure (.inl (s+1,l4)))))
  else (
  M.pure (.inr (l4,l4)))
def zbN (n_Marks:Int) (n_Lines:List Line) (aa:Int):(Nat × (List Mv))->M ((Nat × (List Mv)) ⊕ ((List Mv) × (List Mv))):=fun (s2,l6) =>
  bif decide ((s2:Int)<n_Marks) then (
  M.bind (zcp aa n_Lines (s2:Int)) fun r3 =>
  M.bind (M.iter (za3 n_Marks n_Lines s2 r3) (0,l6)) fun (l2,l5) =>
  M.grd (decide ((-9223372036854775808:Int)<=((s2:Int)+1))&&decide (((s2:Int)+1)<=(9223372036854775807:Int))) <|
  M.pure (.inl (s2+1,l5)))
  else (
  M.pure (.inr (l6,l6)))
def zaz (n_Marks:Int) (n_Lines:List Line):M ((List Mv) × Int) :=
  M.bind (zao n_Marks n_Lines) fun x_=>match x_ with
  | (.inl r1)=>(
  bif r1 != 0 then (
  M.pure (([]),r1))
  else (
  M.fail))
  | (.inr (aa,ab,ac,ae))=>(
  bif ae != 0 then (
  M.fail)
  else (
  M.bind (zav aa n_Lines ab ac) fun r2 =>
  bif !r2 then (
  M.pure (([]),8))
  else (
  bif n_Marks==12 then (
  M.pure (([]),3))
  else (
  M.bind (M.iter (zbN n_Marks n_Lines aa) (0,[])) fun (l7,l8) =>
  M.pure (l8,0)))))
theorem zbz {R:List Chunk} {aH:Cells} {ab:Value} (n_Marks:Int) (n_Lines:List Line) (ar:Reads R aH) (au:Sl aH ab n_Lines) {r:((List Mv) × Int)} (hM:(zaz n_Marks n_Lines).Ends r) (w:World) (H:St w w [] R):Ret Tryz.prog 34 #[.agg #[I n_Marks,ab]] w fun v w'=>∃ (y0:List Mv) (y1:Int) (u0:Value),(y0,y1)=r/\v = .tuple #[u0,I y1]/\St w w' [cOwn (α:=Mv) 31 u0 y0] R:=by
 refine ret_of_W Tryz.func34 rfl rfl rfl ?_;refine kg 2 ?_;refine t_bx [I n_Marks,ab] H rfl ?_;intro am bz H;refine kg 6 ?_;obtain ⟨bA,aN,hM⟩:=M.e_bind hM;refine s_call cf47 [.agg #[I n_Marks,ab]] rfl (zcC n_Marks n_Lines (ar.app _) au aN _ (H.gt 1)) ?_
 rintro vq bB (⟨r1,aO,hvq,aa⟩ | ⟨al,av,aw,aP,ac,aQ,hvq,aa,aR,aS⟩)
 ·subst aO;subst vq;(try dsimp only at hM);replace H:=H.bk aa;clear aa;refine kg 14 ?_
  refine W.cond (r1 != 0) rfl (fun ao=>?_) (fun ao=>?_)
  ·replace hM:=M.e_t hM ao
   replace ao:=dI ao
   refine kg 6 ?_;refine W.ret ?_
   have ae:=M.e_pure hM
   replace H:=H.nilOwn (α:=Mv) 31
   exact ⟨_,resE_tmp2 rfl,⟨([]),r1,(.slice none 0 0),ae,rfl,(H.pk [0])⟩⟩
  replace hM:=M.e_f hM ao
  exact (M.e_fail hM).elim
 subst aQ;subst vq;(try dsimp only at hM);replace H:=H.bk aa;clear aa;refine kg 14 ?_
 refine W.cond (aP != 0) rfl (fun ap=>?_) (fun ap=>?_)
 ·replace hM:=M.e_t hM ap
  exact (M.e_fail hM).elim
 replace hM:=M.e_f hM ap
 replace ap:=dI ap
 refine kg 3 ?_;obtain ⟨bC,aT,hM⟩:=M.e_bind hM;refine s_call cf48 [Pq ac] rfl (zbY al n_Lines av aw (ar.app _) au aR aS (Has.here (k:=0) rfl) aT _ (H.gt 2)) ?_
 rintro vq bD ⟨r2,rfl,hvq,aa⟩
 subst vq;(try dsimp only at hM);replace H:=H.bk aa;clear aa;refine kg 3 ?_
 refine W.cond (!r2) rfl (fun ay=>?_) (fun ay=>?_)
 ·replace hM:=M.e_t hM ay;refine kg 5 ?_;refine W.ret ?_
  have ae:=M.e_pure hM
  replace H:=H.nilOwn (α:=Mv) 31
  exact ⟨_,resE_tmp2 rfl,⟨([]),8,(.slice none 0 0),ae,rfl,(H.pk [0])⟩⟩
 replace hM:=M.e_f hM ay;refine kg 7 ?_
 refine W.cond (n_Marks==12) rfl (fun ag=>?_) (fun ag=>?_)
 ·replace hM:=M.e_t hM ag
  replace ag:=dI ag
  refine kg 5 ?_;refine W.ret ?_
  have ae:=M.e_pure hM
  replace H:=H.nilOwn (α:=Mv) 31
  exact ⟨_,resE_tmp2 rfl,⟨([]),3,(.slice none 0 0),ae,rfl,(H.pk [0])⟩⟩
 replace hM:=M.e_f hM ag
 replace ag:=dI ag
 refine kg 13 ?_
 replace H:=H.nilOwn (α:=Mv) 31
 obtain ⟨aU,az,aV⟩:=M.e_bind hM
 obtain ⟨aW,az⟩:=M.e_iter az
 refine W.loop (fun m σ W=>∃ (s2:Nat) (l6:List Mv) (aq:Value) (ρ:Env),σ=upds ρ [(1,Pq am),(4,Pq ac),(6,aq),(30,I n_Marks),(31,I (s2:Int))]/\M.iterN (zbN n_Marks n_Lines al) m (s2,l6)=some aU/\St w W [cOwn (α:=Mv) 31 aq l6,cBlk ac (List.flatten [[I al,ab],encF (α:=Int) av,encF (α:=Leg) aw]) 102,cBlk am [I n_Marks,ab] 25] R) ?_ ?_
 ·exact ⟨_,0,[],(.slice none 0 0),_,upds_of _ _ ⟨rfl,rfl,rfl,rfl,rfl,trivial⟩,az,H⟩
 rintro bE σ bF ⟨s2,l6,aq,ρ,rfl,aI,H⟩
 obtain ⟨aX,aY,bG,hM,aJ⟩:=M.e_iterN aI
 simp only [zbN] at hM
 clear aI;refine kg 5 ?_
 refine W.cond (decide ((s2:Int)<n_Marks)) rfl (fun ah=>?_) (fun ah=>?_)
 ·replace hM:=M.e_t hM ah
  replace ah:=dI ah
  refine kg 12 ?_;obtain ⟨bH,aZ,hM⟩:=M.e_bind hM;refine s_call cf66 [Pq ac,I (s2:Int)] rfl (zdE al n_Lines (s2:Int) (ar.app _) au (Fld.here (k:=1) rfl rfl) aZ _ (H.gt 3)) ?_
  rintro vq bI ⟨r3,aA,rfl,hvq,aa⟩
  subst vq;(try dsimp only at hM);replace H:=H.bk aa;clear aa
  have bJ:=((H.os 0)).len_le
  refine kg 4 ?_;obtain ⟨a7,aB,a8⟩:=M.e_bind hM
  obtain ⟨aW,aB⟩:=M.e_iter aB
  refine W.loop (fun m σ W=>∃ (s:Nat) (l4:List Mv) (ai:Value) (ρ:Env),σ=upds ρ [(1,Pq am),(4,Pq ac),(6,ai),(7,I (s2:Int)),(30,I n_Marks),(31,I (s2:Int)),(36,aA),(37,I (r3.length:Int)),(38,I (s:Int))]/\M.iterN (za3 n_Marks n_Lines s2 r3) m (s,l4)=some a7/\St w W [cOwn (α:=Int) 3 aA r3,cOwn (α:=Mv) 31 ai l4,cBlk ac (List.flatten [[I al,ab],encF (α:=Int) av,encF (α:=Leg) aw]) 102,cBlk am [I n_Marks,ab] 25] R) ?_ ?_
  ·exact ⟨_,0,l6,aq,_,upds_of _ _ ⟨rfl,rfl,rfl,rfl,rfl,rfl,rfl,rfl,rfl,trivial⟩,aB,H⟩
  rintro bK σ bL ⟨s,l4,ai,ρ,rfl,aK,H⟩
  obtain ⟨aC,aD,bM,hM,ax⟩:=M.e_iterN aK
  simp only [za3] at hM
  clear aK;refine kg 5 ?_
  refine W.cond (decide ((s:Int)<(r3.length:Int))) rfl (fun aj=>?_) (fun aj=>?_)
  ·replace hM:=M.e_t hM aj
   replace aj:=dI aj
   obtain ⟨bN,hM⟩:=M.e_gd hM;refine kg 13 ?_;refine s_val (x_bld (ps:=[(0,I (s2:Int)),(1,I (r3.getD s 0))]) (zs:=[I 0,I 0]) (L':=[I (s2:Int),I (r3.getD s 0)]) rfl Tryz.underlying31 Al31 rfl (Bd31 Tryz.underlying31) (.cons (cs:=[I (s2:Int)]) rfl rfl rfl rfl rfl<|.cons (cs:=[I (r3.getD s 0)]) rfl rfl rfl rfl rfl<|.nil)) ?_;refine t_alloc (cs:=[I 0,I 0]) H Al31 rfl ?_;intro ba bO H;refine t_sw 0 0 [I (s2:Int),I (r3.getD s 0)] (.agg #[I (s2:Int),I (r3.getD s 0)]) H rfl rfl Sz31 rfl rfl rfl rfl ?_;intro bP H
   have bQ:=((H.os 2)).len_le
   obtain ⟨bR,hM⟩:=M.e_gd hM;refine kg 10 ?_;refine W.draw (fun W=>St w W [cBlk ba [I (s2:Int),I (r3.getD s 0)] 31,cOwn (α:=Int) 3 aA r3,cOwn (α:=Mv) 31 ai l4,cBlk ac (List.flatten [[I al,ab],encF (α:=Int) av,encF (α:=Leg) aw]) 102,cBlk am [I n_Marks,ab] 25] R) [(0,true),(1,true),(2,true),(3,true),(4,true),(5,true),(6,true),(7,true),(8,true),(9,true),(10,true),(11,true),(12,true),(13,true),(14,true),(15,true)] mixed (by decide +kernel) rfl ?_;intro bS aL;replace H:=H.ext aL;clear aL
   refine ⟨(H.pk [0,1,2,3,4]),?_⟩
   obtain ⟨aE,hM⟩:=M.e_grd hM
   replace aE:=M.imp_of aE
   simp only [Bool.and_eq_true,decide_eq_true_eq] at aE
   refine kg 13 ?_;refine d_qg (decide (0<=((l4.length:Int)-1))) rfl (gy_t rfl) (fun hg=>(fun w' H=>x_bld (ps:=[(0,I (s2:Int)),(1,I ((l4.getD (Int.toNat ((l4.length:Int)-1)) default).day))]) (zs:=[I 0,I 0]) (L':=[I (s2:Int),I ((l4.getD (Int.toNat ((l4.length:Int)-1)) default).day)]) (by exact prs2 (gd_of hg (I (s2:Int))) (gd_of hg (I ((l4.getD (Int.toNat ((l4.length:Int)-1)) default).day)))) Tryz.underlying31 Al31 rfl (Bd31 Tryz.underlying31) (.cons (cs:=[I (s2:Int)]) rfl rfl rfl rfl rfl<|.cons (cs:=[I ((l4.getD (Int.toNat ((l4.length:Int)-1)) default).day)]) rfl rfl rfl rfl rfl<|.nil)))<|d_qg (decide (0<=((l4.length:Int)-1))) rfl (gy_t rfl) (fun hg=>(fun w' H=>x_eqS (eqT31 (l4.getD (Int.toNat ((l4.length:Int)-1)) default) (⟨(s2:Int),((l4.getD (Int.toNat ((l4.length:Int)-1)) default).day:Int)⟩:Mv) _) gdT31 (gd_of hg (.agg #[I ((l4.getD (Int.toNat ((l4.length:Int)-1)) default).mark),I ((l4.getD (Int.toNat ((l4.length:Int)-1)) default).day)])) (gd_of hg (.agg #[I (s2:Int),I ((l4.getD (Int.toNat ((l4.length:Int)-1)) default).day)])))) ?_;refine kg 2 ?_
   refine W.cond ((decide (0<=((l4.length:Int)-1)))&&(decide ((l4.getD (Int.toNat ((l4.length:Int)-1)) default)=(⟨(s2:Int),((l4.getD (Int.toNat ((l4.length:Int)-1)) default).day:Int)⟩:Mv)))) rfl (fun aF=>?_) (fun aF=>?_)
   ·replace hM:=M.e_t hM aF;refine W.exit ?_;refine kg 4 ?_
    exact ⟨aC,aD,s+1,l4,ai,_,upds_of _ _ ⟨rfl,rfl,rfl,rfl,rfl,rfl,rfl,rfl,rfl,trivial⟩,M.e_inl hM ax,(H.pk [1,2,3,4])⟩
   replace hM:=M.e_f hM aF;refine kg 5 ?_;obtain ⟨bT,bb,hM⟩:=M.e_bind hM;refine s_call cf43 [.agg #[I n_Marks,ab],.agg #[I (s2:Int),I (r3.getD s 0)]] rfl (zdf n_Marks n_Lines (⟨(s2:Int),(r3.getD s 0:Int)⟩:Mv) (ar.app _) au bb _ (H.gt 5)) ?_
   rintro vq bU ⟨r0,aM,bc,rfl,hvq,aa⟩
   subst vq;(try dsimp only at hM);replace H:=H.bk aa;clear aa;obtain ⟨bV,bg,hM⟩:=M.e_bind hM;refine s_call cf67 [.agg #[I r0,bc]] rfl (zdh r0 aM (rdo 0) (H.os 0) bg _ (H.gt 6)) ?_
   rintro vq bW ⟨bh,bi,bj,bn,rfl,hvq,aa,bp,br⟩
   subst vq;(try dsimp only at hM);replace H:=H.bk aa;clear aa;obtain ⟨bX,bt,hM⟩:=M.e_bind hM;refine s_call cf48 [Pq bn] rfl (zbY bh aM bi bj (rdo 1) (H.os 1) bp br (Has.here (k:=0) rfl) bt _ (H.gt 7)) ?_
   rintro vq bY ⟨r4,rfl,hvq,aa⟩
   subst vq;(try dsimp only at hM);replace H:=H.bk aa;clear aa;refine kg 2 ?_
   refine W.cond (!r4) rfl (fun aG=>?_) (fun aG=>?_)
   ·replace hM:=M.e_t hM aG;refine kg 3 ?_;refine t_bs (α:=Mv) T81 [.agg #[I (s2:Int),I (r3.getD s 0)]] [(⟨(s2:Int),(r3.getD s 0:Int)⟩:Mv)] H rfl (.cons rfl (Flat.rep_enc _ (⟨(s2:Int),(r3.getD s 0:Int)⟩:Mv))<|.nil) rfl rfl rfl ?_;intro bu bZ H;obtain ⟨b0,hM⟩:=M.e_gd hM;refine t_app (α:=Mv) (k:=5) (l:=l4) (l2:=[(⟨(s2:Int),(r3.getD s 0:Int)⟩:Mv)]) (l':=l4++([(⟨(s2:Int),(r3.getD s 0:Int)⟩:Mv)])) (vy:=bu) T81 rfl H rfl rfl rfl (H.os 0) (H.ol 0) (rfl) (by first | omega | (simp only [List.length_nil] at *; omega)) ?_;intro bv b7 H;replace H:=H.nf;refine kg 6 ?_
    exact ⟨aC,aD,s+1,l4++([(⟨(s2:Int),(r3.getD s 0:Int)⟩:Mv)]),bv,_,upds_of _ _ ⟨rfl,rfl,rfl,rfl,rfl,rfl,rfl,rfl,rfl,trivial⟩,M.e_inl hM ax,(H.pk [4,5,6,7])⟩
   replace hM:=M.e_f hM aG;refine kg 5 ?_
   exact ⟨aC,aD,s+1,l4,ai,_,upds_of _ _ ⟨rfl,rfl,rfl,rfl,rfl,rfl,rfl,rfl,rfl,trivial⟩,M.e_inl hM ax,(H.pk [3,4,5,6])⟩
  replace hM:=M.e_f hM aj
  replace aj:=dI aj
  refine W.exit ?_
  have bw:=M.e_inr hM ax
  subst bw;replace hM:=a8;(try dsimp only at hM);obtain ⟨b8,hM⟩:=M.e_gd hM;refine kg 4 ?_
  exact ⟨aX,aY,s2+1,l4,ai,_,upds_of _ _ ⟨rfl,rfl,rfl,rfl,rfl,trivial⟩,M.e_inl hM aJ,(H.pk [1,2,3])⟩
 replace hM:=M.e_f hM ah
 replace ah:=dI ah
 refine W.exit ?_
 have bx:=M.e_inr hM aJ
 subst bx;replace hM:=aV;(try dsimp only at hM);refine kg 6 ?_;refine W.ret ?_
 have ae:=M.e_pure hM
 exact ⟨_,resE_tmp2 rfl,⟨l6,0,aq,ae,rfl,(H.pk [0])⟩⟩

def zaU (n_Marks:Int) (n_Lines:List Line):M (Int × Int) :=
  M.bind (zaz n_Marks n_Lines) fun (r0,r1) =>
  bif r1 != 0 then (
  M.pure (0,r1))
  else (
  bif (r0.length:Int)==0 then (
  M.pure (0,5))
  else (
  bif decide (1<(r0.length:Int)) then (
  M.pure (0,11))
  else (
  M.grd (decide (0<(r0.length:Int))) <|
  M.pure (((r0.getD 0 default).mark),0))))
theorem zb1 {R:List Chunk} {ah:Cells} {ag:Value} (n_Marks:Int) (n_Lines:List Line) (aj:Reads R ah) (al:Sl ah ag n_Lines) {r:(Int × Int)} (hM:(zaU n_Marks n_Lines).Ends r) (w:World) (H:St w w [] R):Ret Tryz.prog 36 #[.agg #[I n_Marks,ag]] w fun v w'=>∃ (y0:Int) (y1:Int),(y0,y1)=r/\v = .tuple #[I y0,I y1]/\St w w' [] R:=by
 refine ret_of_W Tryz.func36 rfl rfl rfl ?_;refine kg 2 ?_;refine t_bx [I n_Marks,ag] H rfl ?_;intro ao ap H;refine kg 6 ?_;obtain ⟨aq,am,hM⟩:=M.e_bind hM;refine s_call cf34 [.agg #[I n_Marks,ag]] rfl (zbz n_Marks n_Lines (aj.app _) al am _ (H.gt 1)) ?_
 rintro vq ar ⟨r0,r1,au,rfl,hvq,ai⟩
 subst vq;(try dsimp only at hM);replace H:=H.bk ai;clear ai;refine kg 14 ?_
 refine W.cond (r1 != 0) rfl (fun aa=>?_) (fun aa=>?_)
 ·replace hM:=M.e_t hM aa
  replace aa:=dI aa
  refine kg 6 ?_;refine W.ret ?_
  have ab:=M.e_pure hM
  exact ⟨_,resE_tmp2 rfl,⟨0,r1,ab,rfl,(H.pk [])⟩⟩
 replace hM:=M.e_f hM aa
 replace aa:=dI aa
 have av:=((H.os 0)).len_le
 refine kg 7 ?_
 refine W.cond ((r0.length:Int)==0) rfl (fun ac=>?_) (fun ac=>?_)
 ·replace hM:=M.e_t hM ac
  replace ac:=dI ac
  refine kg 5 ?_;refine W.ret ?_
  have ab:=M.e_pure hM
  exact ⟨_,resE_tmp2 rfl,⟨0,5,ab,rfl,(H.pk [])⟩⟩
 replace hM:=M.e_f hM ac
 replace ac:=dI ac
 have aw:=((H.os 0)).len_le
 refine kg 7 ?_
 refine W.cond (decide (1<(r0.length:Int))) rfl (fun ae=>?_) (fun ae=>?_)
 ·replace hM:=M.e_t hM ae
  replace ae:=dI ae
  refine kg 5 ?_;refine W.ret ?_
  have ab:=M.e_pure hM
  exact ⟨_,resE_tmp2 rfl,⟨0,11,ab,rfl,(H.pk [])⟩⟩
 replace hM:=M.e_f hM ae
 replace ae:=dI ae
 obtain ⟨ax,hM⟩:=M.e_gd hM;refine kg 10 ?_;refine W.ret ?_
 have ab:=M.e_pure hM
 exact ⟨_,resE_tmp2 rfl,⟨((r0.getD 0 default).mark),0,ab,rfl,(H.pk [])⟩⟩

end Go.Proofs.YtfdgkdkfbaghpaaGreat
end
section
set_option maxRecDepth 100000
set_option maxHeartbeats 16000000
namespace Go.Proofs.YtfdgkdkfbaghpaaGreat
open Go Go.Nm
attribute [local irreducible] gd execOp SL SLD SLT WR
def zag (rise:Int):M (Int × (List Line)) :=
  M.pure (3,([(⟨(0:Int),(1:Int),(5:Int),(100:Int),(2:Int)⟩:Line),(⟨(1:Int),(2:Int),(5:Int),(50:Int),(1:Int)⟩:Line),(⟨(0:Int),(2:Int),(9:Int),(rise:Int),(3:Int)⟩:Line)]))
theorem zar {R:List Chunk}  (rise:Int)  {r:(Int × (List Line))} (hM:(zag rise).Ends r) (w:World) (H:St w w [] R):Ret Tryz.prog 4 #[I rise] w fun v w'=>∃ (y0:Int) (y1:List Line) (u0:Value),(y0,y1)=r/\v = .agg #[I y0,u0]/\St w w' [cOwn (α:=Line) 34 u0 y1] R:=by
 refine ret_of_W Tryz.func4 rfl rfl rfl ?_;refine kg 2 ?_;refine t_alloc (cs:=[I 0,.slice none 0 0]) H Al25 rfl ?_;intro ae ag H;refine kg 3 ?_;refine s_val (x_bld (ps:=[(0,I 0),(1,I 1),(2,I 5),(3,I 100),(4,I 2)]) (zs:=[I 0,I 0,I 0,I 0,I 0]) (L':=[I 0,I 1,I 5,I 100,I 2]) rfl Tryz.underlying34 Al34 rfl (Bd34 Tryz.underlying34) (.cons (cs:=[I 0]) rfl rfl rfl rfl rfl<|.cons (cs:=[I 1]) rfl rfl rfl rfl rfl<|.cons (cs:=[I 5]) rfl rfl rfl rfl rfl<|.cons (cs:=[I 100]) rfl rfl rfl rfl rfl<|.cons (cs:=[I 2]) rfl rfl rfl rfl rfl<|.nil))<|s_val (x_bld (ps:=[(0,I 1),(1,I 2),(2,I 5),(3,I 50),(4,I 1)]) (zs:=[I 0,I 0,I 0,I 0,I 0]) (L':=[I 1,I 2,I 5,I 50,I 1]) rfl Tryz.underlying34 Al34 rfl (Bd34 Tryz.underlying34) (.cons (cs:=[I 1]) rfl rfl rfl rfl rfl<|.cons (cs:=[I 2]) rfl rfl rfl rfl rfl<|.cons (cs:=[I 5]) rfl rfl rfl rfl rfl<|.cons (cs:=[I 50]) rfl rfl rfl rfl rfl<|.cons (cs:=[I 1]) rfl rfl rfl rfl rfl<|.nil)) ?_;refine kg 1 ?_;refine s_val (x_bld (ps:=[(0,I 0),(1,I 2),(2,I 9),(3,I rise),(4,I 3)]) (zs:=[I 0,I 0,I 0,I 0,I 0]) (L':=[I 0,I 2,I 9,I rise,I 3]) rfl Tryz.underlying34 Al34 rfl (Bd34 Tryz.underlying34) (.cons (cs:=[I 0]) rfl rfl rfl rfl rfl<|.cons (cs:=[I 2]) rfl rfl rfl rfl rfl<|.cons (cs:=[I 9]) rfl rfl rfl rfl rfl<|.cons (cs:=[I rise]) rfl rfl rfl rfl rfl<|.cons (cs:=[I 3]) rfl rfl rfl rfl rfl<|.nil)) ?_;refine t_bs (α:=Line) T23 [.agg #[I 0,I 1,I 5,I 100,I 2],.agg #[I 1,I 2,I 5,I 50,I 1],.agg #[I 0,I 2,I 9,I rise,I 3]] [(⟨(0:Int),(1:Int),(5:Int),(100:Int),(2:Int)⟩:Line),(⟨(1:Int),(2:Int),(5:Int),(50:Int),(1:Int)⟩:Line),(⟨(0:Int),(2:Int),(9:Int),(rise:Int),(3:Int)⟩:Line)] H rfl (.cons rfl (Flat.rep_enc _ (⟨(0:Int),(1:Int),(5:Int),(100:Int),(2:Int)⟩:Line))<|.cons rfl (Flat.rep_enc _ (⟨(1:Int),(2:Int),(5:Int),(50:Int),(1:Int)⟩:Line))<|.cons rfl (Flat.rep_enc _ (⟨(0:Int),(2:Int),(9:Int),(rise:Int),(3:Int)⟩:Line))<|.nil) rfl rfl rfl ?_;intro aa ah H;refine s_val (x_bld (ps:=[(0,I 3),(1,aa)]) (zs:=[I 0,.slice none 0 0]) (L':=[I 3,aa]) rfl Tryz.underlying25 Al25 rfl (Bd25 Tryz.underlying25) (.cons (cs:=[I 3]) rfl rfl rfl rfl rfl<|.cons (cs:=[aa]) (Sl.cells (H.os 0)) rfl rfl rfl rfl<|.nil)) ?_;refine t_sw 1 0 [I 3,aa] (.agg #[I 3,aa]) H rfl rfl Sz25 rfl rfl rfl (by simp only [List.all_cons,List.all_nil,Bool.true_and,Bool.and_true,Sl.oc (H.os 0)]; try rfl) ?_;intro ai H;refine s_nil ?_;refine W.ret ?_
 have ab:=(H.bl 1)
 have ac:=M.e_pure hM
 exact ⟨_,(resE_of1 (v:=.agg #[I 3,aa]) rfl (.cell (v:=.agg #[I 3,aa]) rfl (run_loadVar_ag (ds:=[I 3,aa]) Ag25 Sz25 ab rfl rfl)<|.nil)),⟨3,([(⟨(0:Int),(1:Int),(5:Int),(100:Int),(2:Int)⟩:Line),(⟨(1:Int),(2:Int),(5:Int),(50:Int),(1:Int)⟩:Line),(⟨(0:Int),(2:Int),(9:Int),(rise:Int),(3:Int)⟩:Line)]),aa,ac,rfl,(H.pk [0])⟩⟩

def zc5 (a b:List Mv):Nat->M (Nat ⊕ (Unit ⊕ Unit)):=fun i =>
  bif decide ((i:Int)<(a.length:Int)) then (
  M.grd (decide ((i:Int)<(a.length:Int))) <|
  M.grd (decide ((i:Int)<(b.length:Int))) <|
  bif !(decide ((a.getD i default)=(b.getD i default))) then (
  M.pure (.inr (.inl ())))
  else (
  M.pure (.inl (i+1))))
  else (
  M.pure (.inr (.inr ())))
def zdb (a b:List Mv):M Bool :=
  bif (a.length:Int) != (b.length:Int) then (
  M.pure false)
  else (
  M.bind (M.iter (zc5 a b) 0) fun x_=>match x_ with
  | (.inl (_:Unit))=>(
  M.pure false)
  | (.inr (_:Unit))=>(
  M.pure true))
theorem zd1 {R:List Chunk} {al:Cells} {ae:Value} {am:Cells} {ag:Value} (a:List Mv) (b:List Mv) (aA:Reads R al) (ao:Sl al ae a) (aB:Reads R am) (au:Sl am ag b) {r:Bool} (hM:(zdb a b).Ends r) (w:World) (H:St w w [] R):Ret Tryz.prog 44 #[ae,ag] w fun v w'=>∃ (y0:Bool),y0=r/\v=B y0/\St w w' [] R:=by
 refine ret_of_W Tryz.func44 rfl rfl rfl ?_
 have aC:=(ao).len_le
 have aD:=(au).len_le
 refine kg 13 ?_
 refine W.cond ((a.length:Int) != (b.length:Int)) rfl (fun aa=>?_) (fun aa=>?_)
 ·replace hM:=M.e_t hM aa
  replace aa:=dI aa
  refine kg 4 ?_;refine W.ret ?_
  have ac:=M.e_pure hM
  exact ⟨_,resE_tmp rfl,⟨false,ac,rfl,H⟩⟩
 replace hM:=M.e_f hM aa
 replace aa:=dI aa
 refine kg 7 ?_;obtain ⟨av,ah,ap⟩:=M.e_bind hM
 obtain ⟨aE,ah⟩:=M.e_iter ah
 refine W.loop (fun m σ W=>∃ (i:Nat) (ρ:Env),σ=upds ρ [(0,ae),(1,ag),(5,I (i:Int))]/\M.iterN (zc5 a b) m i=some av/\St w W [] R) ?_ ?_
 ·exact ⟨_,0,_,upds_of _ _ ⟨rfl,rfl,rfl,trivial⟩,ah,H⟩
 rintro aF σ aG ⟨i,ρ,rfl,aq,H⟩
 obtain ⟨aw,ax,aH,hM,ai⟩:=M.e_iterN aq
 simp only [zc5] at hM
 clear aq
 have aI:=(ao).len_le
 refine kg 8 ?_
 refine W.cond (decide ((i:Int)<(a.length:Int))) rfl (fun ab=>?_) (fun ab=>?_)
 ·replace hM:=M.e_t hM ab
  replace ab:=dI ab
  refine kg 4 ?_;refine W.draw (fun W=>St w W [] R) [(0,true),(1,true),(2,true),(3,true),(4,true),(5,true),(6,true),(7,true),(8,true)] mixed (by decide +kernel) rfl ?_;intro aJ ar;replace H:=H.ext ar;clear ar
  refine ⟨(H.pk []),?_⟩
  obtain ⟨aK,hM⟩:=M.e_gd hM;obtain ⟨aL,hM⟩:=M.e_gd hM;refine kg 8 ?_;refine d_q rfl (fun w' H=>x_neS (eqT31 (a.getD i default) (b.getD i default) _) gdT31 rfl rfl) ?_;refine d_nil ?_
  refine W.cond (!(decide ((a.getD i default)=(b.getD i default)))) rfl (fun aj=>?_) (fun aj=>?_)
  ·replace hM:=M.e_t hM aj;refine kg 4 ?_;refine W.ret ?_
   have ay:=M.e_inr hM ai
   subst ay;replace hM:=ap;(try dsimp only at hM)
   have ac:=M.e_pure hM
   exact ⟨_,resE_tmp rfl,⟨false,ac,rfl,H⟩⟩
  replace hM:=M.e_f hM aj;refine kg 6 ?_
  exact ⟨aw,ax,i+1,_,upds_of _ _ ⟨rfl,rfl,rfl,trivial⟩,M.e_inl hM ai,H⟩
 replace hM:=M.e_f hM ab
 replace ab:=dI ab
 refine W.exit ?_
 have az:=M.e_inr hM ai
 subst az;replace hM:=ap;(try dsimp only at hM);refine kg 4 ?_;refine W.ret ?_
 have ac:=M.e_pure hM
 exact ⟨_,resE_tmp rfl,⟨true,ac,rfl,H⟩⟩

def zax  : M Bool :=
  M.bind (zag 148) fun (r0,r1) =>
  M.bind (zaj r0 r1 0 2) fun (al,am,ao) =>
  M.bind (zag 148) fun (ap,aq) =>
  M.bind (zaj ap aq 0 1) fun (ar,au,av) =>
  M.bind (zag 148) fun (aw,ax) =>
  M.bind (zbs aw ax ([(⟨(1:Int),true⟩:Leg),(⟨(0:Int),true⟩:Leg)])) fun (aL,aM,r2,r3) =>
  M.bind (zag 160) fun (ay,az) =>
  M.bind (zaY ay az) fun (aA,aB) =>
  bif ((((((((ao != 0)||(av != 0))||(r3 != 0))||(aB != 0))||(!(decide ((⟨(al:Int),(am:Int)⟩:Span)=(⟨(147:Int),(151:Int)⟩:Span)))))||(!(decide ((⟨(ar:Int),(au:Int)⟩:Span)=(⟨(98:Int),(102:Int)⟩:Span)))))||(r2 != (-147)))||aA) then (
  M.pure false)
  else (
  M.bind (zag 160) fun (aC,aD) =>
  M.bind (zbs aC aD ([(⟨(0:Int),false⟩:Leg),(⟨(1:Int),false⟩:Leg),(⟨(2:Int),true⟩:Leg)])) fun (aa,ab,ac,ae) =>
  M.bind (zag 160) fun (aE,aF) =>
  M.bind (zaz aE aF) fun (aG,ag) =>
  M.bind (zag 160) fun (aH,aI) =>
  M.bind (zaU aH aI) fun (aN,ah) =>
  M.bind (zag 160) fun (aJ,ai) =>
  M.grd (decide ((ai.length+([(⟨(2:Int),(1:Int),(9:Int),(-50:Int),(1:Int)⟩:Line)]).length)*40<=140737488355328)) <|
  M.bind (zaU aJ (ai++([(⟨(2:Int),(1:Int),(9:Int),(-50:Int),(1:Int)⟩:Line)]))) fun (aK,aj) =>
  M.bind (M.opt (((((((ae==0)&&(ag==0))&&(ah==11))&&(aj==0))&&(aa==0))&&(ab==0))&&(ac==(-4))) (zdb aG ([(⟨(0:Int),(6:Int)⟩:Mv),(⟨(2:Int),(6:Int)⟩:Mv)])) false) fun r4 =>
  M.pure (((((((((ae==0)&&(ag==0))&&(ah==11))&&(aj==0))&&(aa==0))&&(ab==0))&&(ac==(-4)))&&r4)&&(aK==0)))
theorem zau {R:List Chunk}    {r:Bool} (hM:(zax).Ends r) (w:World) (H:St w w [] R):Ret Tryz.prog 11 #[] w fun v w'=>∃ (y0:Bool),y0=r/\v=B y0/\St w w' [] R:=by
 refine ret_of_W Tryz.func11 rfl rfl rfl ?_;refine kg 6 ?_;obtain ⟨bD,aJ,hM⟩:=M.e_bind hM;refine s_call cf4 [I 148] rfl (zar 148 aJ _ (H.gt 0)) ?_
 rintro vq bE ⟨r0,r1,aK,rfl,hvq,aa⟩
 subst vq;(try dsimp only at hM);replace H:=H.bk aa;clear aa;obtain ⟨bF,aL,hM⟩:=M.e_bind hM;refine s_call cf9 [.agg #[I r0,aK],I 0,I 2] rfl (zcI r0 r1 0 2 (rdo 0) (H.os 0) aL _ (H.gt 1)) ?_
 rintro vq bG ⟨ab,ac,ae,rfl,hvq,aa⟩
 subst vq;(try dsimp only at hM);replace H:=H.bk aa;clear aa;refine kg 3 ?_;refine t_alloc (cs:=[I 0,I 0]) H Al42 rfl ?_;intro bH bI H;refine t_sw 0 0 [I ab,I ac] (.agg #[I ab,I ac]) H rfl rfl Sz42 rfl rfl rfl rfl ?_;intro bJ H;refine kg 4 ?_;obtain ⟨bK,aM,hM⟩:=M.e_bind hM;refine s_call cf4 [I 148] rfl (zar 148 aM _ (H.gt 2)) ?_
 rintro vq bL ⟨aA,aN,aO,rfl,hvq,aa⟩
 subst vq;(try dsimp only at hM);replace H:=H.bk aa;clear aa;obtain ⟨bM,aP,hM⟩:=M.e_bind hM;refine s_call cf9 [.agg #[I aA,aO],I 0,I 1] rfl (zcI aA aN 0 1 (rdo 0) (H.os 0) aP _ (H.gt 3)) ?_
 rintro vq bN ⟨ag,ah,ai,rfl,hvq,aa⟩
 subst vq;(try dsimp only at hM);replace H:=H.bk aa;clear aa;refine kg 3 ?_;refine t_alloc (cs:=[I 0,I 0]) H Al42 rfl ?_;intro bO bP H;refine t_sw 0 0 [I ag,I ah] (.agg #[I ag,I ah]) H rfl rfl Sz42 rfl rfl rfl rfl ?_;intro bQ H;refine kg 4 ?_;obtain ⟨bR,aQ,hM⟩:=M.e_bind hM;refine s_call cf4 [I 148] rfl (zar 148 aQ _ (H.gt 4)) ?_
 rintro vq bS ⟨aB,aR,aS,rfl,hvq,aa⟩
 subst vq;(try dsimp only at hM);replace H:=H.bk aa;clear aa;refine s_val (x_bld (ps:=[(0,I 1),(1,B true)]) (zs:=[I 0,B false]) (L':=[I 1,B true]) rfl Tryz.underlying28 Al28 rfl (Bd28 Tryz.underlying28) (.cons (cs:=[I 1]) rfl rfl rfl rfl rfl<|.cons (cs:=[B true]) rfl rfl rfl rfl rfl<|.nil))<|s_val (x_bld (ps:=[(0,I 0),(1,B true)]) (zs:=[I 0,B false]) (L':=[I 0,B true]) rfl Tryz.underlying28 Al28 rfl (Bd28 Tryz.underlying28) (.cons (cs:=[I 0]) rfl rfl rfl rfl rfl<|.cons (cs:=[B true]) rfl rfl rfl rfl rfl<|.nil)) ?_;refine t_bs (α:=Leg) T29 [.agg #[I 1,B true],.agg #[I 0,B true]] [(⟨(1:Int),true⟩:Leg),(⟨(0:Int),true⟩:Leg)] H rfl (.cons rfl (Flat.rep_enc _ (⟨(1:Int),true⟩:Leg))<|.cons rfl (Flat.rep_enc _ (⟨(0:Int),true⟩:Leg))<|.nil) rfl rfl rfl ?_;intro aT bT H;obtain ⟨bU,aU,hM⟩:=M.e_bind hM;refine s_call cf25 [.agg #[I aB,aS],aT] rfl (zcT aB aR ([(⟨(1:Int),true⟩:Leg),(⟨(0:Int),true⟩:Leg)]) (rdo 1) (H.os 1) (rdo 0) (H.os 0) aU _ (H.gt 6)) ?_
 rintro vq bV ⟨bW,bX,r2,r3,rfl,hvq,aa⟩
 subst vq;(try dsimp only at hM);replace H:=H.bk aa;clear aa;refine kg 12 ?_;obtain ⟨bY,aV,hM⟩:=M.e_bind hM;refine s_call cf4 [I 160] rfl (zar 160 aV _ (H.gt 6)) ?_
 rintro vq bZ ⟨aC,aW,aX,rfl,hvq,aa⟩
 subst vq;(try dsimp only at hM);replace H:=H.bk aa;clear aa;obtain ⟨b0,aY,hM⟩:=M.e_bind hM;refine s_call cf16 [.agg #[I aC,aX]] rfl (zc9 aC aW (rdo 0) (H.os 0) aY _ (H.gt 7)) ?_
 rintro vq b7 ⟨aZ,aj,rfl,hvq,aa⟩
 subst vq;(try dsimp only at hM);replace H:=H.bk aa;clear aa;refine kg 25 ?_;refine g_val (!((((ae != 0)||(ai != 0))||(r3 != 0))||(aj != 0))) (gy_f rfl) (fun hg=>x_bld (ps:=[(0,I 147),(1,I 151)]) (zs:=[I 0,I 0]) (L':=[I 147,I 151]) rfl Tryz.underlying42 Al42 rfl (Bd42 Tryz.underlying42) (.cons (cs:=[I 147]) rfl rfl rfl rfl rfl<|.cons (cs:=[I 151]) rfl rfl rfl rfl rfl<|.nil))<|g_val (!((((ae != 0)||(ai != 0))||(r3 != 0))||(aj != 0))) (gy_f rfl) (fun hg=>x_neS (eqT42 (⟨(ab:Int),(ac:Int)⟩:Span) (⟨(147:Int),(151:Int)⟩:Span) _) gdT42 (gd_of hg (.agg #[I ab,I ac])) (gd_of hg (.agg #[I 147,I 151]))) ?_;refine kg 3 ?_;refine g_val (!(((((ae != 0)||(ai != 0))||(r3 != 0))||(aj != 0))||(!(decide ((⟨(ab:Int),(ac:Int)⟩:Span)=(⟨(147:Int),(151:Int)⟩:Span)))))) (gy_f rfl) (fun hg=>x_bld (ps:=[(0,I 98),(1,I 102)]) (zs:=[I 0,I 0]) (L':=[I 98,I 102]) rfl Tryz.underlying42 Al42 rfl (Bd42 Tryz.underlying42) (.cons (cs:=[I 98]) rfl rfl rfl rfl rfl<|.cons (cs:=[I 102]) rfl rfl rfl rfl rfl<|.nil))<|g_val (!(((((ae != 0)||(ai != 0))||(r3 != 0))||(aj != 0))||(!(decide ((⟨(ab:Int),(ac:Int)⟩:Span)=(⟨(147:Int),(151:Int)⟩:Span)))))) (gy_f rfl) (fun hg=>x_neS (eqT42 (⟨(ag:Int),(ah:Int)⟩:Span) (⟨(98:Int),(102:Int)⟩:Span) _) gdT42 (gd_of hg (.agg #[I ag,I ah])) (gd_of hg (.agg #[I 98,I 102]))) ?_;refine kg 9 ?_
 refine W.cond ((((((((ae != 0)||(ai != 0))||(r3 != 0))||(aj != 0))||(!(decide ((⟨(ab:Int),(ac:Int)⟩:Span)=(⟨(147:Int),(151:Int)⟩:Span)))))||(!(decide ((⟨(ag:Int),(ah:Int)⟩:Span)=(⟨(98:Int),(102:Int)⟩:Span)))))||(r2 != (-147)))||aZ) rfl (fun ax=>?_) (fun ax=>?_)
 ·replace hM:=M.e_t hM ax;refine kg 4 ?_;refine W.ret ?_
  have al:=M.e_pure hM
  exact ⟨_,resE_tmp rfl,⟨false,al,rfl,(H.pk [])⟩⟩
 replace hM:=M.e_f hM ax;refine kg 3 ?_;obtain ⟨b8,a7,hM⟩:=M.e_bind hM;refine s_call cf4 [I 160] rfl (zar 160 a7 _ (H.gt 7)) ?_
 rintro vq b9 ⟨aD,a8,ba,rfl,hvq,aa⟩
 subst vq;(try dsimp only at hM);replace H:=H.bk aa;clear aa;refine s_val (x_bld (ps:=[(0,I 0)]) (zs:=[I 0,B false]) (L':=[I 0,B false]) rfl Tryz.underlying28 Al28 rfl (Bd28 Tryz.underlying28) (.cons (cs:=[I 0]) rfl rfl rfl rfl rfl<|.nil))<|s_val (x_bld (ps:=[(0,I 1)]) (zs:=[I 0,B false]) (L':=[I 1,B false]) rfl Tryz.underlying28 Al28 rfl (Bd28 Tryz.underlying28) (.cons (cs:=[I 1]) rfl rfl rfl rfl rfl<|.nil))<|s_val (x_bld (ps:=[(0,I 2),(1,B true)]) (zs:=[I 0,B false]) (L':=[I 2,B true]) rfl Tryz.underlying28 Al28 rfl (Bd28 Tryz.underlying28) (.cons (cs:=[I 2]) rfl rfl rfl rfl rfl<|.cons (cs:=[B true]) rfl rfl rfl rfl rfl<|.nil)) ?_;refine t_bs (α:=Leg) T29 [.agg #[I 0,B false],.agg #[I 1,B false],.agg #[I 2,B true]] [(⟨(0:Int),false⟩:Leg),(⟨(1:Int),false⟩:Leg),(⟨(2:Int),true⟩:Leg)] H rfl (.cons rfl (Flat.rep_enc _ (⟨(0:Int),false⟩:Leg))<|.cons rfl (Flat.rep_enc _ (⟨(1:Int),false⟩:Leg))<|.cons rfl (Flat.rep_enc _ (⟨(2:Int),true⟩:Leg))<|.nil) rfl rfl rfl ?_;intro bb ca H;obtain ⟨cb,bc,hM⟩:=M.e_bind hM;refine s_call cf25 [.agg #[I aD,ba],bb] rfl (zcT aD a8 ([(⟨(0:Int),false⟩:Leg),(⟨(1:Int),false⟩:Leg),(⟨(2:Int),true⟩:Leg)]) (rdo 1) (H.os 1) (rdo 0) (H.os 0) bc _ (H.gt 9)) ?_
 rintro vq cd ⟨am,ao,ap,aq,rfl,hvq,aa⟩
 subst vq;(try dsimp only at hM);replace H:=H.bk aa;clear aa;refine kg 12 ?_;obtain ⟨ce,bg,hM⟩:=M.e_bind hM;refine s_call cf4 [I 160] rfl (zar 160 bg _ (H.gt 9)) ?_
 rintro vq cf ⟨aE,bh,bi,rfl,hvq,aa⟩
 subst vq;(try dsimp only at hM);replace H:=H.bk aa;clear aa;obtain ⟨cg,bj,hM⟩:=M.e_bind hM;refine s_call cf34 [.agg #[I aE,bi]] rfl (zbz aE bh (rdo 0) (H.os 0) bj _ (H.gt 10)) ?_
 rintro vq ch ⟨bn,ar,aF,rfl,hvq,aa⟩
 subst vq;(try dsimp only at hM);replace H:=H.bk aa;clear aa;refine kg 8 ?_;obtain ⟨ci,bp,hM⟩:=M.e_bind hM;refine s_call cf4 [I 160] rfl (zar 160 bp _ (H.gt 11)) ?_
 rintro vq cj ⟨aG,br,bt,rfl,hvq,aa⟩
 subst vq;(try dsimp only at hM);replace H:=H.bk aa;clear aa;obtain ⟨ck,bu,hM⟩:=M.e_bind hM;refine s_call cf36 [.agg #[I aG,bt]] rfl (zb1 aG br (rdo 0) (H.os 0) bu _ (H.gt 12)) ?_
 rintro vq cm ⟨cn,au,rfl,hvq,aa⟩
 subst vq;(try dsimp only at hM);replace H:=H.bk aa;clear aa;refine kg 7 ?_;obtain ⟨co,bv,hM⟩:=M.e_bind hM;refine s_call cf4 [I 160] rfl (zar 160 bv _ (H.gt 12)) ?_
 rintro vq cp ⟨aw,ay,aH,rfl,hvq,aa⟩
 subst vq;(try dsimp only at hM);replace H:=H.bk aa;clear aa;refine t_alloc (cs:=[I 0,.slice none 0 0]) H Al25 rfl ?_;intro cq cr H;refine t_sw 0 0 [I aw,aH] (.agg #[I aw,aH]) H rfl rfl Sz25 rfl rfl rfl (by simp only [List.all_cons,List.all_nil,Bool.true_and,Bool.and_true,Sl.oc (H.os 1)]; try rfl) ?_;intro ct H;refine kg 5 ?_;refine s_val (x_bld (ps:=[(0,I 2),(1,I 1),(2,I 9),(3,I (-50)),(4,I 1)]) (zs:=[I 0,I 0,I 0,I 0,I 0]) (L':=[I 2,I 1,I 9,I (-50),I 1]) rfl Tryz.underlying34 Al34 rfl (Bd34 Tryz.underlying34) (.cons (cs:=[I 2]) rfl rfl rfl rfl rfl<|.cons (cs:=[I 1]) rfl rfl rfl rfl rfl<|.cons (cs:=[I 9]) rfl rfl rfl rfl rfl<|.cons (cs:=[I (-50)]) rfl rfl rfl rfl rfl<|.cons (cs:=[I 1]) rfl rfl rfl rfl rfl<|.nil)) ?_;refine t_bs (α:=Line) T23 [.agg #[I 2,I 1,I 9,I (-50),I 1]] [(⟨(2:Int),(1:Int),(9:Int),(-50:Int),(1:Int)⟩:Line)] H rfl (.cons rfl (Flat.rep_enc _ (⟨(2:Int),(1:Int),(9:Int),(-50:Int),(1:Int)⟩:Line))<|.nil) rfl rfl rfl ?_;intro bw cu H;obtain ⟨cv,hM⟩:=M.e_gd hM;refine t_app (α:=Line) (k:=2) (l:=ay) (l2:=[(⟨(2:Int),(1:Int),(9:Int),(-50:Int),(1:Int)⟩:Line)]) (l':=ay++([(⟨(2:Int),(1:Int),(9:Int),(-50:Int),(1:Int)⟩:Line)])) (vy:=bw) T23 rfl H rfl rfl rfl (H.os 0) (H.ol 0) (rfl) (by first | omega | (simp only [List.length_nil] at *; omega)) ?_;intro az cw H;replace H:=H.nf;refine kg 1 ?_;refine t_sw 1 1 [az] az H rfl rfl Sz23 (Sl.cells (H.os 2)) rfl rfl (by simp only [List.all_cons,List.all_nil,Bool.true_and,Bool.and_true,Sl.oc (H.os 2)]; try rfl) ?_;intro cx H;refine kg 4 ?_;obtain ⟨cy,bx,hM⟩:=M.e_bind hM;refine s_call cf36 [.agg #[I aw,az]] rfl (zb1 aw (ay++([(⟨(2:Int),(1:Int),(9:Int),(-50:Int),(1:Int)⟩:Line)])) (rdo 2) (H.os 2) bx _ (H.gt 15)) ?_
 rintro vq cz ⟨bz,av,rfl,hvq,aa⟩
 subst vq;(try dsimp only at hM);replace H:=H.bk aa;clear aa;refine kg 36 ?_;refine g_val (((((((aq==0)&&(ar==0))&&(au==11))&&(av==0))&&(am==0))&&(ao==0))&&(ap==(-4))) (gy_t rfl) (fun hg=>x_bld (ps:=[(0,I 0),(1,I 6)]) (zs:=[I 0,I 0]) (L':=[I 0,I 6]) rfl Tryz.underlying31 Al31 rfl (Bd31 Tryz.underlying31) (.cons (cs:=[I 0]) rfl rfl rfl rfl rfl<|.cons (cs:=[I 6]) rfl rfl rfl rfl rfl<|.nil))<|g_val (((((((aq==0)&&(ar==0))&&(au==11))&&(av==0))&&(am==0))&&(ao==0))&&(ap==(-4))) (gy_t rfl) (fun hg=>x_bld (ps:=[(0,I 2),(1,I 6)]) (zs:=[I 0,I 0]) (L':=[I 2,I 6]) rfl Tryz.underlying31 Al31 rfl (Bd31 Tryz.underlying31) (.cons (cs:=[I 2]) rfl rfl rfl rfl rfl<|.cons (cs:=[I 6]) rfl rfl rfl rfl rfl<|.nil)) ?_;refine t_gbs (α:=Mv) T81 (((((((aq==0)&&(ar==0))&&(au==11))&&(av==0))&&(am==0))&&(ao==0))&&(ap==(-4))) (gy_t rfl) [.agg #[I 0,I 6],.agg #[I 2,I 6]] [(⟨(0:Int),(6:Int)⟩:Mv),(⟨(2:Int),(6:Int)⟩:Mv)] H (fun hg=>by exact prs2 (gd_of hg (.agg #[I 0,I 6])) (gd_of hg (.agg #[I 2,I 6]))) (.cons rfl (Flat.rep_enc _ (⟨(0:Int),(6:Int)⟩:Mv))<|.cons rfl (Flat.rep_enc _ (⟨(2:Int),(6:Int)⟩:Mv))<|.nil) rfl rfl rfl ?_;intro aI cA cB H bA;obtain ⟨r4,bB,hM⟩:=M.e_bind hM;refine t_gcall (((((((aq==0)&&(ar==0))&&(au==11))&&(av==0))&&(am==0))&&(ao==0))&&(ap==(-4))) (gy_t rfl) cf44 (B r4) (fun _=>[aF,aI]) (fun hg=>lst2 (gd_of hg (aF)) (gd_of hg (aI))) H (fun hg=>(zd1 bn ([(⟨(0:Int),(6:Int)⟩:Mv),(⟨(2:Int),(6:Int)⟩:Mv)]) (rdo 5) (H.os 5) (Reads.of (k:=0) rfl roLe) (bA hg) (M.e_opt bB hg) _ (H.give (A:=[]) rfl)).mono fun v_ w_ ⟨y_,al,bC,H_⟩=>by subst al; exact ⟨bC,H.via H_⟩) ?_;intro cC H;refine kg 7 ?_;refine W.ret ?_
 have al:=M.e_pure hM
 exact ⟨_,resE_tmp rfl,⟨(((((((((aq==0)&&(ar==0))&&(au==11))&&(av==0))&&(am==0))&&(ao==0))&&(ap==(-4)))&&r4)&&(bz==0)),al,rfl,(H.pk [])⟩⟩

end Go.Proofs.YtfdgkdkfbaghpaaGreat
end
section
set_option maxRecDepth 100000
set_option maxHeartbeats 16000000
namespace Go.Proofs.YtfdgkdkfbaghpaaGreat
open Go Go.Nm
attribute [local irreducible] gd execOp SL SLD SLT WR
def zc2 (l:List Line):M (List Line) :=
  M.grd (decide ((([]:List Line).length+l.length)*40<=140737488355328)) <|
  M.pure l
theorem zdv {R:List Chunk} {ab:Cells} {aa:Value} (l:List Line) (ac:Reads R ab) (ae:Sl ab aa l) {r:(List Line)} (hM:(zc2 l).Ends r) (w:World) (H:St w w [] R):Ret Tryz.prog 45 #[aa] w fun v w'=>∃ (y0:List Line) (u0:Value),y0=r/\v=u0/\St w w' [cOwn (α:=Line) 34 u0 y0] R:=by
 refine ret_of_W Tryz.func45 rfl rfl rfl ?_;refine kg 12 ?_
 replace H:=H.nilOwn (α:=Line) 34
 obtain ⟨ai,hM⟩:=M.e_gd hM;refine t_app (α:=Line) (k:=0) (l:=[]) (l2:=l) (l':=l) (vy:=aa) T23 rfl H rfl rfl rfl ae (ac.at H) (List.nil_append _) (by first | omega | (simp only [List.length_nil] at *; omega)) ?_;intro ag aj H;replace H:=H.nf;refine kg 2 ?_;refine W.ret ?_
 have ah:=M.e_pure hM
 exact ⟨_,resE_tmp rfl,⟨l,ag,ah,rfl,H⟩⟩

def za2 (n_Marks:Int) (n_Lines:List Line):M (Int × (List Line)) :=
  M.bind (zc2 n_Lines) fun r2 =>
  M.pure (n_Marks,r2)
theorem zcX {R:List Chunk} {ac:Cells} {ab:Value} (n_Marks:Int) (n_Lines:List Line) (ah:Reads R ac) (ai:Sl ac ab n_Lines) {r:(Int × (List Line))} (hM:(za2 n_Marks n_Lines).Ends r) (w:World) (H:St w w [] R):Ret Tryz.prog 12 #[.agg #[I n_Marks,ab]] w fun v w'=>∃ (y0:Int) (y1:List Line) (u0:Value),(y0,y1)=r/\v = .agg #[I y0,u0]/\St w w' [cOwn (α:=Line) 34 u0 y1] R:=by
 refine ret_of_W Tryz.func12 rfl rfl rfl ?_;refine kg 2 ?_;refine t_bx [I n_Marks,ab] H rfl ?_;intro aj aq H;refine t_alloc (cs:=[I 0,.slice none 0 0]) H Al25 rfl ?_;intro ar au H;refine kg 2 ?_;refine W.draw (fun W=>St w W [cBlk aj [I n_Marks,ab] 25] R) [(0,true),(1,true),(2,true),(3,true),(4,false),(5,true),(6,false)] mixed (by decide +kernel) rfl ?_;intro av ae;replace H:=H.ext ae;clear ae
 refine ⟨(H.pk [1]),?_⟩
 refine kg 4 ?_;refine d_l rfl ?_;obtain ⟨aw,al,hM⟩:=M.e_bind hM;refine s_call cf45 [ab] rfl (zdv n_Lines (ah.app _) ai al _ (H.gt 2)) ?_
 rintro vq ax ⟨r2,aa,rfl,hvq,ag⟩
 subst vq;(try dsimp only at hM);replace H:=H.bk ag;clear ag
 have am:=Sl.cells (H.os 0)
 have ay:=Sl.oc (H.os 0)
 refine s_nil ⟨(H.pk [2]),?_⟩
 refine d_q rfl (fun w' H=>x_bld (ps:=[(0,I n_Marks),(1,aa)]) (zs:=[I 0,.slice none 0 0]) (L':=[I n_Marks,aa]) rfl Tryz.underlying25 Al25 rfl (Bd25 Tryz.underlying25) (.cons (cs:=[I n_Marks]) rfl rfl rfl rfl rfl<|.cons (cs:=[aa]) am rfl rfl rfl rfl<|.nil))<|d_l rfl ?_;refine t_sw 1 0 [I n_Marks,aa] (.agg #[I n_Marks,aa]) H rfl rfl Sz25 rfl rfl rfl (by simp only [List.all_cons,List.all_nil,Bool.true_and,Bool.and_true,Sl.oc (H.os 0)]; try rfl) ?_;intro az H
 refine s_nil ⟨(H.pk [2]),?_⟩
 refine d_nil ?_;refine W.ret ?_
 have ao:=(H.bl 1)
 have ap:=M.e_pure hM
 exact ⟨_,(resE_of1 (v:=.agg #[I n_Marks,aa]) rfl (.cell (v:=.agg #[I n_Marks,aa]) rfl (run_loadVar_ag (ds:=[I n_Marks,aa]) Ag25 Sz25 ao rfl rfl)<|.nil)),⟨n_Marks,r2,aa,ap,rfl,(H.pk [0])⟩⟩

end Go.Proofs.YtfdgkdkfbaghpaaGreat
end
namespace Go.Nm
open Go
section
variable {P:Program} {ops:Array Oper} {md:Region.Mode} {C:World->Prop} {z:Nat}
def wpAnyZ (P:Program) (md:Region.Mode) (ops:Array Oper) (C:World->Prop) (z:Nat) (Q:Act->World->Prop):Nat->Array Bool->Act->World->Prop
  | 0,listed,a,w=>Region.ready md ops listed=[]/\Q a w
  | fuel+1,listed,a,w =>
    (Region.ready md ops listed=[]->Q a w) ∧
    ∀ i∈Region.ready md ops listed,lOp P ops i (fun a' w'=>(i ≠ z->C w')/\wpAnyZ P md ops C z Q fuel (listed.setIfInBounds i true) a' w') a w
theorem wpAny_of_Z {r:Option Nat} {Q:Act->World->Prop} {Q':Exit->Act->World->Prop} (hQ:∀ a w,Q a w->Q' .normal a w):∀ (fuel:Nat) (listed:Array Bool) (a:Act) (w:World),
    wpAnyZ P md ops C z Q fuel listed a w->wpAnyIn (FR r) 0 P md ops Q' fuel listed a w
  | 0,_,_,_,h=>⟨h.1,hQ _ _ h.2⟩
  | fuel+1,_,_,_,h=>⟨fun h0=>hQ _ _ (h.1 h0),fun i hi=>lOp_wpOp (lOp_mono (fun a' w' hh=>wpAny_of_Z hQ fuel _ a' w' hh.2) (h.2 i hi))⟩
def bindsOn (md:Region.Mode) (ops:Array Oper) (z i:Nat):Bool:=match ops[z]? with
  | some o=>o.after.toList.any fun e=>Region.binds md e&&(e.on==i)
  | none=>false
theorem wpAnyZ_first {Q:Act->World->Prop} {i:Nat} {oi:Oper} {v:Value} (hi:ops[i]?=some oi) (hz:i ≠ z) (hb:bindsOn md ops z i=true) (hsel:∀ (j:Nat) (o:Oper) cs b,ops[j]?=some o->o.op ≠ .select cs b) :
    ∀ (fuel:Nat) (listed:Array Bool) (a:Act) (w:World),C w →
      (∀ j oj,ops[j]?=some oj->j ≠ i->listed.getD j true=false->(∀ e∈oj.after,Region.binds md e=true->e.on ≠ i)->oi.apart ops oj=true) →
      i∈Region.ready md ops listed->YV P ops C oi v a →
      wpAnyZ P md ops C z Q fuel (listed.setIfInBounds i true) (a.put oi.dst v) w->wpAnyZ P md ops C z Q (fuel+1) listed a w:=by
  intro fuel
  induction fuel with
  | zero =>
    intro listed a w hC _ hr hy H
    refine ⟨fun h=>(by rw [h] at hr; cases hr),fun j hj=>?_⟩
    by_cases hji:j=i
    · subst hji; exact hy.lOp hi hC ⟨fun _=>hC,H⟩
    · have:=ready_mono hj hji
      rw [H.1] at this
      cases this
  | succ fuel ih =>
    intro listed a w hC hfree hr hy H
    refine ⟨fun h=>(by rw [h] at hr; cases hr),fun j hj=>?_⟩
    by_cases hji:j=i
    · subst hji; exact hy.lOp hi hC ⟨fun _=>hC,H⟩
    · have h1:=H.2 j (ready_mono hj hji)
      obtain ⟨hjun,oj,hoj,hall⟩:=mem_ready.1 hj
      have hnot:∀ e∈oj.after,Region.binds md e=true->e.on ≠ i:=fun e he hb heq=>by
        have h1:=hall e he hb
        have h0:=(mem_ready.1 hr).1
        rw [heq] at h1
        rcases Nat.lt_or_ge i listed.size with h' | h'
        · simp [h'] at h0 h1; rw [h0] at h1; cases h1
        · simp [Array.getElem?_eq_none h'] at h1
      have hjz:j ≠ z:=fun e=>by
        subst e
        unfold bindsOn at hb
        simp only [hoj] at hb
        obtain ⟨e,he,h2⟩:=List.any_eq_true.1 hb
        rw [Bool.and_eq_true,beq_iff_eq] at h2
        exact hnot e (by simpa using he) h2.1 h2.2
      have h2:=lOp_put hoj (hfree j oj hoj hji hjun hnot) (fun cs b=>hsel i oi cs b hi) (fun cs b=>hsel j oj cs b hoj) hy h1
      have hfree':∀ k ok,ops[k]?=some ok->k ≠ i->(listed.setIfInBounds j true).getD k true=false →
          (∀ e∈ok.after,Region.binds md e=true->e.on ≠ i)->oi.apart ops ok=true:=fun k ok hk hki hun hno=>by
        refine hfree k ok hk hki ?_ hno
        by_cases hjk:j=k
        · subst hjk; exact hjun
        · rw [getD_set_ne true hjk] at hun; exact hun
      refine lOp_mono (fun a' w' h3=>⟨fun _=>h3.2.1 hjz,ih (listed.setIfInBounds j true) a' w' (h3.2.1 hjz) hfree' (ready_mono hr (Ne.symm hji)) h3.1 ?_⟩) h2
      rw [Array.setIfInBounds_comm _ _ hji]
      exact h3.2.2
def canonZ (md:Region.Mode) (ops:Array Oper) (z:Nat):List Nat->Array Bool->Bool
  | [],listed=>(Region.ready md ops listed==[z])&&(Region.ready md ops (listed.setIfInBounds z true)).isEmpty
  | k :: r,listed=>(Region.ready md ops listed).contains k&&Region.free md ops listed k&&(k != z)&&bindsOn md ops z k&&canonZ md ops z r (listed.setIfInBounds k true)
def runZ (P:Program) (ops:Array Oper) (C:World->Prop) (z:Nat) (Q:Act->World->Prop):List Nat->Act->World->Prop
  | [],a,w=>lOp P ops z Q a w
  | k :: r,a,w=>∃ o v,ops[k]?=some o/\YV P ops C o v a/\runZ P ops C z Q r (a.put o.dst v) w
theorem wpAnyZ_canon {Q:Act->World->Prop} (hs:Region.noSelect ops=true):∀ (l:List Nat) (listed:Array Bool) (a:Act) (w:World),C w →
    canonZ md ops z l listed=true->runZ P ops C z Q l a w->wpAnyZ P md ops C z Q (l.length+1) listed a w
  | [],listed,a,w,_,hB,h=>by
    simp only [canonZ,Bool.and_eq_true,beq_iff_eq] at hB
    obtain ⟨hr,he⟩:=hB
    refine ⟨fun h0=>by rw [hr] at h0; simp at h0,fun i hi=>?_⟩
    rw [hr] at hi
    obtain rfl:i=z:=by simpa using hi
    exact lOp_mono (fun a' w' hh=>⟨fun h=>absurd rfl h,by simpa using he,hh⟩) h
  | k :: r,listed,a,w,hC,hB,h=>by
    simp only [canonZ,Bool.and_eq_true,bne_iff_ne,ne_eq] at hB
    obtain ⟨⟨⟨⟨hr,hf⟩,hz⟩,hb⟩,hB'⟩:=hB
    obtain ⟨o,v,h0,hy,hK⟩:=h
    exact wpAnyZ_first h0 hz hb (Region.noSelect_spec hs) (r.length+1) listed a w hC (Region.free_spec h0 hf) (by simpa using hr) hy (wpAnyZ_canon hs r _ _ _ hC hB' hK)
end
def SLZ (P:Program) (all:List Oper) (C:World->Prop) (z:Nat) (Q:Post):List Nat->Env->World->Prop
  | [],σ,w=>∃ o,all[z]?=some o/\SL P all (loudQ (fun _=>True) (Q .normal)) [o] σ w
  | k :: r,σ,w=>∃ o v,all[k]?=some o/\(bif wantedE all o σ then ∀ w',C w'->(execOp (ev σ) o).run P w' = .ok (.value v) w' else v=undef)/\SLZ P all C z Q r (updo σ o.dst v) w
theorem SLZ_runZ {P:Program} {ds:List Deferred} {n:Nat} {C:World->Prop} {z:Nat} {Q:Post} (all:List Oper) (hok:∀ o∈all,∀ d,o.dst=some d->d<n):∀ (l:List Nat) (σ:Env) (w:World) (a:Act),Fr ds n σ a →
    SLZ P all C z Q l σ w->runZ P all.toArray C z (fun a' w'=>∃ σ',Fr ds n σ' a'/\Q .normal σ' w') l a w
  | [],σ,w,a,ha,⟨o,ho,h⟩=>lOp_mono (fun _ _ hh=>hh.2) (SL_lOp (K':=fun a' w'=>∃ σ',Fr ds n σ' a'/\Q .normal σ' w') all hok (fun σ' w' a' ha' h'=>⟨σ',ha',h'⟩) ho ha h)
  | k :: r,σ,w,a,ha,⟨o,v,ho,hv,hK⟩=>by
    have hmem:o∈all:=List.mem_of_getElem? ho
    refine ⟨o,v,by simpa using ho,?_,SLZ_runZ all hok r _ _ _ (ha.puto (hok o hmem) v) hK⟩
    unfold YV
    rw [wanted_eq ha all hok,ha.eval]
    cases hw:wantedE all o σ with
    | true=>rw [hw] at hv; exact .inl ⟨rfl,hv⟩
    | false=>rw [hw] at hv; exact .inr ⟨rfl,hv⟩
theorem W.drawZ {r:Option Nat} {P:Program} {n:Nat} {Q:Post} {σ:Env} {w:World} {id:Nat} {l:List Oper} (C:World->Prop) (order:List Nat) (z:Nat) (hm:P.follows .mixedOrders=true)
    (hB:(Region.noSelect l.toArray&&Nat.beq (order.length+1) l.length&&canonZ .any l.toArray z order (Array.replicate l.length false))=true)
    (hok:okDst n l=true) (h:∀ w1,Ext w w1->C w1/\SLZ P l C z Q order σ w1):WR r P n (.region id l.toArray true) Q σ w:=by
  intro ds a ha
  simp only [Bool.and_eq_true] at hB
  obtain ⟨⟨hs,hl⟩,hB⟩:=hB
  have hl':=Nat.eq_of_beq_eq_true hl
  obtain ⟨hC,hS⟩:=h w.drew (.drew w)
  refine wpIn_region_any hm (wpAny_of_Z (C:=C) (z:=z) (Q:=fun a' w'=>∃ σ',Fr ds n σ' a'/\Q .normal σ' w') (fun _ _ h=>h) _ _ _ _ ?_)
  have:=wpAnyZ_canon (P:=P) (md:=.any) (Q:=fun a' w'=>∃ σ',Fr ds n σ' a'/\Q .normal σ' w') hs order (Array.replicate l.length false) a w.drew hC hB (SLZ_runZ l (okDst_spec hok) order σ w.drew a ha hS)
  rw [hl'] at this
  simpa using this
section
variable {P:Program} {all:List Oper} {C:World->Prop} {z:Nat} {Q:Post} {r:List Nat} {σ:Env} {w:World}
theorem z_q {k d:Nat} {op:Op} {ty:TypeId} {pos:String} {af:Array Edge} {v:Value} (ho:all[k]?=some ⟨some d,op,ty,pos,af,none⟩)
    (h:∀ w',C w'->(execOp (ev σ) ⟨some d,op,ty,pos,af,none⟩).run P w' = .ok (.value v) w') (hk:SLZ P all C z Q r (upd σ d v) w):SLZ P all C z Q (k :: r) σ w :=
  ⟨_,v,ho,h,hk⟩
theorem z_l {o:Oper} (ho:all[z]?=some o) (h:SL P all (loudQ (fun _=>True) (Q .normal)) [o] σ w):SLZ P all C z Q [] σ w:=⟨o,ho,h⟩
end
end Go.Nm
