/- Part 2 of the texts on which the proof rests. Conditions: none. -/
import Derived.Test.YtbldmjejckjflaaGreatProg
import Derived.WideKeyRuns
import Derived.Recover
import Derived.Tactics
import Derived.Tactics2
import Derived.Laws.Pointers
import Derived.Test.YtbldmjejckjflaaGreatZA1
set_option linter.unusedVariables false
set_option linter.unusedSimpArgs false
set_option linter.unusedSectionVars false
namespace Go.Nm
open Go
universe u
/-- What a test says, as a proposition. -/
class DcQ (b c:Bool) (p:outParam Prop):Prop where
  to:b=c->p
instance (priority:=low) {b c:Bool}:DcQ b c (b=c):=⟨fun h=>h⟩
instance {p:Prop} [Decidable p]:DcQ (decide p) true p:=⟨of_decide_eq_true⟩
instance {p:Prop} [Decidable p]:DcQ (decide p) false (¬p):=⟨of_decide_eq_false⟩
instance {α:Type _} [BEq α] [LawfulBEq α] {a b:α}:DcQ (a==b) true (a=b):=⟨beq_iff_eq.1⟩
instance {α:Type _} [BEq α] [LawfulBEq α] {a b:α}:DcQ (a==b) false (a ≠ b):=⟨beq_eq_false_iff_ne.1⟩
instance {α:Type _} [BEq α] [LawfulBEq α] {a b:α}:DcQ (a != b) true (a ≠ b):=⟨bne_iff_ne.1⟩
instance {α:Type _} [BEq α] [LawfulBEq α] {a b:α}:DcQ (a != b) false (a=b):=⟨bne_eq_false_iff_eq.1⟩
/-- What a guard says, as a proposition. -/
class DeQ (b:Bool) (p:outParam Prop):Prop where
  iff:b=true↔p
instance (priority:=low) {b:Bool}:DeQ b (b=true):=⟨Iff.rfl⟩
instance {p:Prop} [Decidable p]:DeQ (decide p) p:=⟨decide_eq_true_iff⟩
instance {a b:Bool} {p q:Prop} [ha:DeQ a p] [hb:DeQ b q]:DeQ (a&&b) (p/\q):=⟨by rw [Bool.and_eq_true,ha.iff,hb.iff]⟩
/-! ### Facts on types, found by their numbers -/
class FdC (P:Program) (s k:Nat) (off ft:outParam Nat):Prop where
  h:(P.underlying s).bind (fun d=>match d with | .struct fs=>(fs[k]?).map (fun f=>(f.offset,f.type)) | _=>none)=some (off,ft)
class ScC (P:Program) (t:Nat):Prop where
  h:isSc (P.underlying t)=true
class AgC (P:Program) (t:Nat):Prop where
  h:isAg (P.underlying t)=true
class SzC (P:Program) (t:Nat) (n:outParam Nat):Prop where
  h:(P.info? t).map (·.size)=some n
class TlC (P:Program) (t:Nat) (e sz by':outParam Nat) (z:outParam Value):Prop where
  h:SlT P t e sz by' z
class AlC (P:Program) (t:Nat) (z:outParam Value):Prop where
  h:(P.info? t).map (·.zero)=some (some z)
class BdC (P:Program) (t:Nat) (pl:outParam (List (Nat × Nat))):Prop where
  h:∃ fs:Array Field,P.underlying t=some (.struct fs)/\fs.toList.mapM (fun f=>(P.info? f.type).map fun i=>(f.offset,i.size))=some pl
class CfC (P:Program) (f:FuncId):Prop where
  h:CF P f
class AddC (a b:Nat) (c:outParam Nat):Prop where
  h:a+b=c
instance (priority:=low) {a b:Nat}:AddC a b (a+b):=⟨rfl⟩
instance {a:Nat}:AddC a 0 a:=⟨rfl⟩
instance {b:Nat}:AddC 0 b b:=⟨Nat.zero_add b⟩
/-- An index as a number. -/
class IxC (i:Int) (n:outParam Nat):Prop where
  h:i.toNat=n
instance (priority:=low) {i:Int}:IxC i i.toNat:=⟨rfl⟩
instance {n:Nat}:IxC (n:Int) n:=⟨rfl⟩
instance:IxC 0 0:=⟨rfl⟩
instance:IxC 1 1:=⟨rfl⟩
instance:IxC 2 2:=⟨rfl⟩
instance:IxC 3 3:=⟨rfl⟩
instance:IxC 4 4:=⟨rfl⟩
instance:IxC 5 5:=⟨rfl⟩
instance:IxC 6 6:=⟨rfl⟩
instance:IxC 7 7:=⟨rfl⟩
instance:IxC 8 8:=⟨rfl⟩
instance:IxC 9 9:=⟨rfl⟩
/-- What is read beyond a list's end. -/
class DfC (α:Type) (d:outParam α):Prop where
  h:True
instance (priority:=low) {α:Type} [Inhabited α]:DfC α default:=⟨trivial⟩
instance:DfC Int 0:=⟨trivial⟩
instance:DfC Bool false:=⟨trivial⟩
/-- The cells of a thing, written out. -/
class EncL {α:Type} [Flat α] (x:α) (ds:outParam (List Value)):Prop where
  h:Flat.enc x=ds
/-- Some of a list's entries. -/
class SubR {α:Type u} (l:List α) (k n:Nat) (o:outParam (List α)):Prop where
  h:(l.drop k).take n=o
instance {α:Type u} {l:List α}:SubR l 0 0 []:=⟨rfl⟩
instance {α:Type u} {l o:List α} {x:α} {n:Nat} [h:SubR l 0 n o]:SubR (x :: l) 0 (n+1) (x :: o):=⟨by have:=h.h; simp at this; simp [this]⟩
instance {α:Type u} {l o:List α} {x:α} {k n:Nat} [h:SubR l k n o]:SubR (x :: l) (k+1) n o:=⟨by rw [List.drop_succ_cons]; exact h.h⟩
/-- A block among the parts. -/
class BlkR (L:List Chunk) (b:Nat) (cs:outParam (List Value)) (t:outParam TypeId):Prop where
  h:∃ k:Nat,L[k]?=some (cBlk b cs t)
instance {c:Chunk} {L:List Chunk} {b:Nat} {cs:List Value} {t:TypeId} [h:BlkR L b cs t]:BlkR (c :: L) b cs t:=⟨by obtain ⟨k,h⟩:=h.h; exact ⟨k+1,by simpa using h⟩⟩
instance {L:List Chunk} {b:Nat} {cs:List Value} {t:TypeId}:BlkR (cBlk b cs t :: L) b cs t:=⟨⟨0,rfl⟩⟩
/-- A block among the parts that is changed. -/
class BlkW (L:List Chunk) (b:Nat) (cs:List Value) (cs':List Value) (t:TypeId) (o:outParam (List Chunk)):Prop where
  h:∃ k:Nat,L[k]?=some (cBlk b cs t)/\L.set k (cBlk b cs' t)=o
instance {c:Chunk} {L o:List Chunk} {b:Nat} {cs cs':List Value} {t:TypeId} [h:BlkW L b cs cs' t o]:BlkW (c :: L) b cs cs' t (c :: o):=⟨by obtain ⟨k,h1,h2⟩:=h.h; exact ⟨k+1,by simpa using h1,by rw [List.set_cons_succ,h2]⟩⟩
instance {L:List Chunk} {b:Nat} {cs cs':List Value} {t:TypeId}:BlkW (cBlk b cs t :: L) b cs cs' t (cBlk b cs' t :: L):=⟨⟨0,rfl,rfl⟩⟩
/-- A field of an element. -/
class FldC (α:Type) [Elt α] (k:Nat) (e:outParam α) (f:outParam (α->Value)):Prop where
  h:∀ {C:Cells} {v:Value} {l:List α} {n:Nat},Sl C v l->n<l.length->At C (fat (vat v (Elt.sz α) n) k) [f (l.getD n e)]
section
variable {w0 w:World} {L R:List Chunk}
theorem St.bq {b:Nat} {cs:List Value} {t:TypeId} (H:St w0 w L R) [h:BlkR L b cs t]:w.heap[b]?=some (.cells cs.toArray t (0,0)):=by
  obtain ⟨k,hk⟩:=h.h;exact H.get hk
end
section
variable {P:Program} {w:World} {σ:Env} {d:Nat} {ty:TypeId} {pos:String} {af:Array Edge} {g:Option (Nat × Bool)}
theorem pos_succ {m:Nat} (h:Nat.blt 0 m=true):∃ n,m=n+1:=by
  cases m with
  | zero=>cases h
  | succ n=>exact ⟨n,rfl⟩
theorem y_fab {s k off ft m b o c:Nat} {x:Operand} (hx:ev σ x = .pointer (some ⟨b,o,none⟩)) [f:FdC P s k off ft] [z:SzC P ft m] (a:AddC o off c) (hm:Nat.blt 0 m=true) :
    (execOp (ev σ) ⟨some d,.fieldAddr s x k,ty,pos,af,g⟩).run P w = .ok (.value (.pointer (some ⟨b,c,none⟩))) w:=by
  obtain ⟨n,rfl⟩:=pos_succ hm;have:=fa_blk (w:=w) (b:=b) (o:=o) f.h z.h;rw [a.h] at this;exact x_fa hx this
theorem y_fap {s k off ft m:Nat} {x:Operand} {p:Value} (hx:ev σ x=p) [f:FdC P s k off ft] [z:SzC P ft m] (hm:Nat.blt 0 m=true) (hp:∃ b o,p = .pointer (some ⟨b,o,none⟩)) :
    (execOp (ev σ) ⟨some d,.fieldAddr s x k,ty,pos,af,g⟩).run P w = .ok (.value (fat p off)) w:=by
  obtain ⟨n,rfl⟩:=pos_succ hm;exact x_fa hx (fa_pl f.h z.h hp)
theorem y_fav {α:Type} {_:Elt α} {s k off ft m sz n:Nat} {x:Operand} {C:Cells} {v:Value} {l:List α} (hx:ev σ x=vat v sz n) [f:FdC P s k off ft] [z:SzC P ft m] (hm:Nat.blt 0 m=true) (hs:Sl C v l) (hz:Elt.sz α=sz) (h1:n<l.length) :
    (execOp (ev σ) ⟨some d,.fieldAddr s x k,ty,pos,af,g⟩).run P w = .ok (.value (fat (vat v sz n) off)) w:=by
  subst hz;have:=Sl.pl hs (i:=(n:Int)) (by omega) (by omega);exact y_fap hx hm (by simpa using this)
theorem y_faw {α:Type} {_:Elt α} {s k off ft m sz n a c:Nat} {x:Operand} {C:Cells} {v:Value} {l:List α} (hx:ev σ x=fat (vat v sz n) a) [f:FdC P s k off ft] [z:SzC P ft m] (ad:AddC a off c) (hm:Nat.blt 0 m=true) (hs:Sl C v l) (hz:Elt.sz α=sz) (h1:n<l.length) :
    (execOp (ev σ) ⟨some d,.fieldAddr s x k,ty,pos,af,g⟩).run P w = .ok (.value (fat (vat v sz n) c)) w:=by
  subst hz;obtain ⟨b,o,hp⟩:=Sl.pl hs (i:=(n:Int)) (by omega) (by omega);have e:vat v (Elt.sz α) n = .pointer (some ⟨b,o,none⟩):=by simpa using hp
  have:=y_fap (P:=P) (w:=w) (d:=d) (ty:=ty) (pos:=pos) (af:=af) (g:=g) hx (f:=f) (z:=z) hm ⟨b,o+a,by rw [e]; simp [fat,add_lit]⟩;rw [this,e,← ad.h];simp [fat,add_lit,Nat.add_assoc]
theorem y_ldb {t:TypeId} {b off:Nat} {cs:List Value} {et:TypeId} {fr:Nat × Nat} {x:Operand} {v:Value} (hx:ev σ x = .pointer (some ⟨b,off,none⟩)) [s:ScC P t] (h:w.heap[b]?=some (.cells cs.toArray et fr)) (hv:(cs.drop off).take 1=[v]) :
    (execOp (ev σ) ⟨some d,.load t x,ty,pos,af,g⟩).run P w = .ok (.value v) w:=x_ld hx (ldb_sc s.h h hv)
theorem y_lda {t:TypeId} {b off n:Nat} {cs ds:List Value} {et:TypeId} {fr:Nat × Nat} {x:Operand} (hx:ev σ x = .pointer (some ⟨b,off,none⟩)) [s:AgC P t] [z:SzC P t n] (h:w.heap[b]?=some (.cells cs.toArray et fr)) (q:SubR cs off n ds) (hn:ds.length=n) :
    (execOp (ev σ) ⟨some d,.load t x,ty,pos,af,g⟩).run P w = .ok (.value (.agg ds.toArray)) w:=x_ld hx (ldb_ag s.h z.h h q.h hn)
theorem At.flat {α:Type} [Flat α] {C:Cells} {v:Value} {l:List α} (hs:Sl C v l) {n:Nat} (h1:n<l.length) (e:α):At C (vat v (Elt.sz α) n) (Flat.enc (l.getD n e)):=by
  obtain ⟨cs,ha,hr⟩:=hs.atI (i:=(n:Int)) (by omega) (by omega) e;rw [Flat.rep_iff] at hr;subst hr
  simpa using ha
theorem y_lds {α:Type} {_:Flat α} {t sz n:Nat} {x:Operand} {C:Cells} {v u:Value} {l:List α} {e:α} (hx:ev σ x=vat v sz n) [s:ScC P t] (hs:Sl C v l) {ds:List Value} (de:DfC α e) (en:EncL (l.getD n e) ds) (hz:Elt.sz α=sz) (hu:ds=[u]) (hle:C.Le w.cell?) (h1:n<l.length) :
    (execOp (ev σ) ⟨some d,.load t x,ty,pos,af,g⟩).run P w = .ok (.value u) w:=by
  subst hz;have:=(At.flat hs h1 e).mono hle;rw [en.h,hu] at this;exact x_ld hx (ld_sc s.h this)
theorem y_ldf {α:Type} {_:Flat α} {t sz n k:Nat} {x:Operand} {C:Cells} {v u:Value} {l:List α} {e:α} (hx:ev σ x=fat (vat v sz n) k) [s:ScC P t] (hs:Sl C v l) {ds:List Value} (de:DfC α e) (en:EncL (l.getD n e) ds) (hz:Elt.sz α=sz) (hu:(ds.drop k).take 1=[u]) (hle:C.Le w.cell?) (h1:n<l.length) :
    (execOp (ev σ) ⟨some d,.load t x,ty,pos,af,g⟩).run P w = .ok (.value u) w:=by
  subst hz;have:=((At.flat hs h1 e).mono hle).fld k 1;rw [en.h,hu] at this;exact x_ld hx (ld_sc s.h this)
theorem y_ldA {α:Type} {_:Flat α} {t sz n:Nat} {x:Operand} {C:Cells} {v:Value} {l:List α} {e:α} (hx:ev σ x=vat v sz n) [s:AgC P t] [z:SzC P t sz] (hs:Sl C v l) {ds:List Value} (de:DfC α e) (en:EncL (l.getD n e) ds) (hz:Elt.sz α=sz) (hle:C.Le w.cell?) (h1:n<l.length) :
    (execOp (ev σ) ⟨some d,.load t x,ty,pos,af,g⟩).run P w = .ok (.value (.agg ds.toArray)) w:=by
  subst hz;have:=(At.flat hs h1 e).mono hle;rw [en.h] at this;refine x_ld hx (ld_ag s.h ?_ this);rw [z.h,← en.h,Flat.enc_len]
theorem y_ldg {α:Type} {_:Elt α} {t sz n k:Nat} {x:Operand} {C:Cells} {v:Value} {l:List α} {e:α} {f:α->Value} (hx:ev σ x=fat (vat v sz n) k) [s:ScC P t] (hs:Sl C v l) (fc:FldC α k e f) (hz:Elt.sz α=sz) (hle:C.Le w.cell?) (h1:n<l.length) :
    (execOp (ev σ) ⟨some d,.load t x,ty,pos,af,g⟩).run P w = .ok (.value (f (l.getD n e))) w:=by
  subst hz;exact x_ld hx (ld_sc s.h ((fc.h hs h1).mono hle))
theorem y_len {α:Type} {_:Elt α} {t e sz by':Nat} {z:Value} {x:Operand} {C:Cells} {v:Value} {l:List α} [T:TlC P t e sz by' z] (h:ev σ x=v) (hs:Sl C v l) :
    (execOp (ev σ) ⟨some d,.call ⟨.builtin .len,#[x],#[t]⟩,ty,pos,af,g⟩).run P w = .ok (.value (.int .i64 l.length)) w:=x_lenS T.h.und h hs
theorem y_ix {α:Type} {_:Elt α} {t e sz by' n:Nat} {z:Value} {x y:Operand} {C:Cells} {v:Value} {l:List α} {kd:IntKind} {i:Int} [T:TlC P t e sz by' z] (hx:ev σ x=v) (hy:ev σ y = .int kd i) (ix:IxC i n) (hs:Sl C v l) (hz:Elt.sz α=sz) (h0:0<=i) (h1:i<l.length) :
    (execOp (ev σ) ⟨some d,.indexAddr t x y,ty,pos,af,g⟩).run P w = .ok (.value (vat v sz n)) w:=by
  subst hz;have:=Sl.ix (w:=w) (kd:=kd) T.h.und T.h.size hs h0 h1;rw [ix.h] at this;exact x_ix hx hy this
end
section
variable {P:Program} {all rest:List Oper} {Q:Post} {σ:Env} {w0 w:World} {L L' R:List Chunk} {ty:TypeId} {pos:String} {af:Array Edge}
end
instance {x:Int}:EncL x [I x]:=⟨rfl⟩
instance {x:Bool}:EncL x [B x]:=⟨rfl⟩
/-- A slice that reads as a list. -/
theorem jS {A:Prop} (h:A:=by first | assumption | exact H.os 0 | exact H.os 1 | exact H.os 2 | exact H.os 3 | exact H.os 4 | exact H.os 5 | exact H.os 6 | exact H.os 7 | exact H.os 8 | exact H.os 9 | exact (by assumption:_=true->Sl _ _ _) hg):A:=h
/-- Cells that can be read. -/
theorem jL {A:Prop} (h:A:=by first | exact Reads.at (by assumption) H | exact H.ol 0 | exact H.ol 1 | exact H.ol 2 | exact H.ol 3 | exact H.ol 4 | exact H.ol 5 | exact H.ol 6 | exact H.ol 7 | exact H.ol 8 | exact H.ol 9):A:=h
/-- A bound. -/
theorem jO {A:Prop} (h:A:=by first | omega | (have hx_:=hg; simp at hx_; omega) | (have hx_:=hg; simp at hx_; simp only [hg,Bool.true_eq_false,Bool.false_eq_true,reduceCtorEq,false_or,true_or,Bool.not_true,Bool.not_false] at *; omega) | (simp only [hg,Bool.true_eq_false,Bool.false_eq_true,reduceCtorEq,false_or,true_or,Bool.not_true,Bool.not_false] at *; omega)):A:=h
/-- A value under a guard, or none. -/
theorem jG {A:Prop} (h:A:=by first | exact gd_of hg _ | ((conv=>lhs; whnf) <;> rfl)):A:=h
/-- A value. -/
theorem jE {A:Prop} (h:A:=by ((conv=>lhs; whnf) <;> rfl)):A:=h
/-- One operation. -/
theorem jU {A:Prop} (h:A:=by 
    first
      | (apply x_mv; exact jE)
      | (apply x_as; exact jE)
      | (apply y_fab; rfl; exact inferInstance; rfl)
      | (apply y_ldb; rfl; exact H.bq; rfl)
      | (apply x_cmp; rfl; rfl; rfl)
      | (apply y_len; exact jE; exact jS)
      | (apply y_ix; exact jE; rfl; exact inferInstance; exact jS; rfl; exact jO; exact jO)
      | (apply y_fav; rfl; rfl; exact jS; rfl; exact jO)
      | (apply y_faw; rfl; exact inferInstance; rfl; exact jS; rfl; exact jO)
      | (apply y_lds; rfl; exact jS; exact inferInstance; exact inferInstance; rfl; rfl; exact jL; exact jO)
      | (apply y_ldf; rfl; exact jS; exact inferInstance; exact inferInstance; rfl; rfl; exact jL; exact jO)
      | (apply y_ldg; rfl; exact jS; exact inferInstance; rfl; exact jL; exact jO)
      | (apply y_ldA; rfl; exact jS; exact inferInstance; exact inferInstance; rfl; exact jL; exact jO)
      | (apply y_ldp; rfl; exact At.mono (by assumption) jL)
      | (apply x_ari; rfl; rfl; rfl; exact jO)
      | (apply x_ext; rfl; rfl)
      | (apply x_nc; rfl)
      | (apply y_lda; rfl; exact H.bq; exact inferInstance; rfl)
      | (apply y_ldb; rfl; exact (by assumption:Has _ (cBlk _ _ _)).blk H; rfl)
      | (apply x_not; rfl)
      | (apply x_max; rfl; rfl)
      | (apply x_min; rfl; rfl)
      | (apply x_quo; rfl; rfl; exact jO)
      | (apply x_por; rfl; rfl; exact fun hb=>gd_of jB _)
      | (apply x_pand; rfl; exact fun hb=>gd_of jB _; rfl)):A:=h
/-- One operation under a guard. -/
theorem jV {A:Prop} (h:A:=by 
    first
      | (apply x_mv; exact jG)
      | (apply x_as; exact jG)
      | (apply y_fab; exact jG; exact inferInstance; rfl)
      | (apply y_ldb; exact jG; exact H.bq; rfl)
      | (apply x_cmp; exact jG; exact jG; rfl)
      | (apply y_len; exact jG; exact jS)
      | (apply y_ix; exact jG; exact jG; exact inferInstance; exact jS; rfl; exact jO; exact jO)
      | (apply y_fav; exact jG; rfl; exact jS; rfl; exact jO)
      | (apply y_faw; exact jG; exact inferInstance; rfl; exact jS; rfl; exact jO)
      | (apply y_lds; exact jG; exact jS; exact inferInstance; exact inferInstance; rfl; rfl; exact jL; exact jO)
      | (apply y_ldf; exact jG; exact jS; exact inferInstance; exact inferInstance; rfl; rfl; exact jL; exact jO)
      | (apply y_ldg; exact jG; exact jS; exact inferInstance; rfl; exact jL; exact jO)
      | (apply y_ldA; exact jG; exact jS; exact inferInstance; exact inferInstance; rfl; exact jL; exact jO)
      | (apply y_ldp; exact jG; exact At.mono (by assumption) jL)
      | (apply x_ari; exact jG; exact jG; rfl; exact jO)
      | (apply x_ext; exact jG; rfl)
      | (apply x_nc; exact jG)
      | (apply y_lda; exact jG; exact H.bq; exact inferInstance; rfl)
      | (apply y_ldb; exact jG; exact (by assumption:Has _ (cBlk _ _ _)).blk H; rfl)
      | (apply x_not; exact jG)
      | (apply x_max; exact jG; exact jG)
      | (apply x_min; exact jG; exact jG)
      | (apply x_quo; exact jG; exact jG; exact jO)
      | (apply x_por; exact jG; exact jG; exact fun hb=>gd_of jB _)
      | (apply x_pand; exact jG; exact fun hb=>gd_of jB _; exact jG)):A:=h
/-- What is left. -/
structure Left (B:Prop):Prop where
  h:B
/-- How many steps are left. -/
structure Cnt (n:Nat):Prop where
  h:n=n
theorem Cnt.dn {n:Nat} (c:Cnt (n+1)):Cnt n:=⟨rfl⟩
/-- So many plain steps. -/
theorem kg {A B:Prop} (n:Nat) (q:B) (f:Cnt n->Left B->A:=by
    intro cnt q
    (repeat (replace cnt:=Cnt.dn cnt; first
      | (apply s_val; exact jU)
      | refine s_nil ?_
      | refine W.seq ?_
      | refine W.region rfl ?_
      | refine W.skip ?_
      | refine W.block ?_
      | (apply d_q; rfl; (intro w' H; exact jU))
      | (apply t_q; rfl; (intro w' H; exact jU))
      | (apply g_val; (first | exact gy_t rfl | exact gy_f rfl | exact gy_gt rfl rfl | exact gy_gf rfl rfl); (intro hg; exact jV))
      | (apply d_qg; rfl; (first | exact gy_t rfl | exact gy_f rfl | exact gy_gt rfl rfl | exact gy_gf rfl rfl); (intro hg w' H; exact jV))
      | (apply t_qg; rfl; (first | exact gy_t rfl | exact gy_f rfl | exact gy_gt rfl rfl | exact gy_gf rfl rfl); (intro hg w' H; exact jV))
      | refine t_nil ?_
      | refine d_nil ?_))
    exact q.h):A:=f ⟨rfl⟩ ⟨q⟩
end Go.Nm
namespace Go.Nm
open Go
/-- A value that takes one cell. -/
def PtV (p:Value):Prop:=p.cells=[p].toArray/\p.oneCell'=true
theorem ptB (a:Addr):PtV (.pointer (some a)):=⟨rfl,rfl⟩
theorem ptE {p:Value} (h:∃ b o,p = .pointer (some ⟨b,o,none⟩)):PtV p:=by
  obtain ⟨b,o,rfl⟩:=h;exact ptB _
theorem ptF {p:Value} {off:Nat} (h:∃ b o,p = .pointer (some ⟨b,o,none⟩)):PtV (fat p off):=by
  obtain ⟨b,o,rfl⟩:=h;exact ptB _
theorem ptr_fat {p:Value} {off:Nat} (h:∃ b o,p = .pointer (some ⟨b,o,none⟩)):∃ b o,fat p off = .pointer (some ⟨b,o,none⟩):=by
  obtain ⟨b,o,rfl⟩:=h;exact ⟨b,o+off,by simp [fat,add_lit]⟩
def rawV (p:Value) (h:PtV p):Raw 0:=⟨[p],rfl,fun v hv=>by rw [List.mem_singleton.1 hv]; exact h.2⟩
theorem raw_at {C:Cells} {v p:Value} {l:List (Raw 0)} {i:Int} {k:Nat} (h:Sl C v l) (hi:i=k) (hk:(l[k]?).map Raw.cs=some [p]):At C (vat v 1 i.toNat) [p]:=by
  subst hi;obtain ⟨r,h1,h2⟩:=Option.map_eq_some_iff.1 hk;obtain ⟨cs,ha,hr⟩:=h.at h1;rw [show cs=r.cs from hr,h2] at ha;exact ha
theorem W.byc {r:Option Nat} {P:Program} {n:Nat} {Q:Post} {σ:Env} {w:World} {c:Code} (b:Bool) (ht:b=true->WR r P n c Q σ w) (hf:b=false->WR r P n c Q σ w):WR r P n c Q σ w:=by
  cases b with
  | true=>exact ht rfl
  | false=>exact hf rfl
end Go.Nm
namespace Go.Nm
open Go
theorem lz_at {n:Nat} {C:Cells} {v:Value} {l:List (Raw n)} {r:Raw n} {i:Int} {k:Nat} {cs:List Value} (h:Sl C v l) (hi:i=k) (hk:l[k]?=some r) (hc:r.cs=cs):At C (vat v (n+1) i.toNat) cs:=by
  subst hi;obtain ⟨cs',ha,hr⟩:=h.at hk;rw [show cs'=r.cs from hr,hc] at ha;exact ha
theorem repR_rep {C:Cells} {r:Raw 0} (h:Elt.rep C r.cs ([]:List Int)):∀ n:Nat,RepR (α:=List Int) C (List.replicate n r) (List.replicate n [])
  | 0=>.nil
  | n+1=>.cons h (repR_rep h n)
section
variable {P:Program} {all rest:List Oper} {Q:Post} {σ:Env} {ty:TypeId} {pos:String} {af:Array Edge} {d:Nat} {w0 w:World} {L R:List Chunk} {t e by':Nat} {z:Value}
/-- Rows that are none, under a guard. -/
theorem t_gmkL {x y:Operand} (T:SlT P t e (Elt.sz (Raw 0)) by' z) (hz:z.cells=[Value.slice none 0 0].toArray) {j:Nat} {want:Bool} (c:Bool) (hy:(yieldedE all σ j==some want)=c) {n:Int} (H:St w0 w L R)
    (hx:c=true->ev σ x = .int .i64 n) (hm:c=true->ev σ y = .int .i64 n) (h0:c=true->0<=n) (hn:c=true->(by':Int)*n<=281474976710656) (h63:c=true->n<=9223372036854775807)
    (k:∀ u B w',St w0 w' (cRo B :: L) R->(c=true->Sl B.cells u (List.replicate n.toNat ([]:List Int)))->SL P all Q rest (upd σ d (gd c u)) w'):SL P all Q (⟨some d,.makeSlice t x y,ty,pos,af,some (j,want)⟩ :: rest) σ w:=by
  refine g_split rfl c hy (fun e=>?_) (fun e=>?_)
  · obtain ⟨r,hr⟩:∃ r:Raw 0,r.cs=[Value.slice none 0 0]:=⟨Raw.of [Value.slice none 0 0] rfl rfl,rfl⟩
    refine t_mk (α:=Raw 0) T r (by rw [show (Flat.enc r:List Value)=r.cs from rfl,hr]; exact hz) H (hx e) (hm e) (h0 e) (hn e) (h63 e) fun u w' H'=>?_;obtain ⟨B,H2,hs⟩:=H'.freezeE (k:=0) rfl;have:=k u B w' H2 (fun _=>unraw (α:=List Int) rfl hs (repR_rep (by rw [hr]; exact ⟨_,rfl,Sl.nil _⟩) _))
    rwa [gd_of e] at this
  · have:=k undef ⟨w,fun _=>False⟩ w (H.push (c:=cRo ⟨w,fun _=>False⟩) (Ext.refl w) ⟨Nat.le_refl _,fun _ h=>h.elim⟩ (fun _ h=>h.1.elim)) (fun h=>by rw [e] at h; cases h)
    rwa [gd_no e] at this
end
end Go.Nm
namespace Go.Nm
open Go
section
variable {P:Program} {w:World} {σ:Env} {d:Nat} {ty:TypeId} {pos:String} {af:Array Edge} {g:Option (Nat × Bool)}
end
end Go.Nm
namespace Go.Nm
open Go
abbrev FdE (P:Program) (t i:Nat):Option (Nat × Nat):=(P.underlying t).bind (fun d=>match d with | .struct fs=>(fs[i]?).map (fun f=>(f.offset,f.type)) | _=>none)
theorem fdE {P:Program} {t i:Nat} {fs:Array Field} {x:Option (Nat × Nat)} (h:P.underlying t=some (.struct fs)) (e:(fs[i]?).map (fun f=>(f.offset,f.type))=x):FdE P t i=x:=by
  unfold FdE;rw [h];exact e
abbrev BdE (P:Program) (t:Nat) (l:List (Nat × Nat)):Prop:=∀ {fs:Array Field},P.underlying t=some (.struct fs)->fs.toList.mapM (fun f=>(P.info? f.type).map fun i=>(f.offset,i.size))=some l
theorem bdE {P:Program} {t:Nat} {l:List (Nat × Nat)} {gs:Array Field} (h:P.underlying t=some (.struct gs)) (e:gs.toList.mapM (fun f=>(P.info? f.type).map fun i=>(f.offset,i.size))=some l):BdE P t l:=by
  intro fs h';rw [h] at h';injection h' with h'
  injection h' with h'
  rw [← h'];exact e
end Go.Nm
namespace Go.Nm
open Go
instance {x:Span}:EncL x [I x.lo,I x.hi]:=⟨rfl⟩
instance {x:FRow}:EncL x [I x.stage,I x.carry]:=⟨rfl⟩
instance:FldC Sect 0 default (fun x=>I x.place):=⟨fun hs h1=>by have:=Sect_at0 hs (i:=(_:Nat)) (Int.natCast_nonneg _) (Int.ofNat_lt.2 h1); exact this⟩
instance {x:Mrk}:EncL x [I x.place,I x.lo,I x.hi]:=⟨rfl⟩
instance {x:Rch}:EncL x [I x.up,I x.down,I x.lo,I x.hi,B x.narrow]:=⟨rfl⟩
instance {x:Cas}:EncL x [I x.up,I x.down,I x.roughup,I x.roughdown]:=⟨rfl⟩
instance {x:Spot}:EncL x [I x.sec,I x.stage]:=⟨rfl⟩
end Go.Nm
namespace Go.Proofs.YtbldmjejckjflaaGreat
open Go Go.Nm
theorem cf4:CF Tryz.prog 4:=⟨_,Tryz.func4,rfl,by decide +kernel⟩
theorem cf5:CF Tryz.prog 5:=⟨_,Tryz.func5,rfl,by decide +kernel⟩
theorem cf6:CF Tryz.prog 6:=⟨_,Tryz.func6,rfl,by decide +kernel⟩
theorem cf7:CF Tryz.prog 7:=⟨_,Tryz.func7,rfl,by decide +kernel⟩
theorem cf8:CF Tryz.prog 8:=⟨_,Tryz.func8,rfl,by decide +kernel⟩
theorem cf9:CF Tryz.prog 9:=⟨_,Tryz.func9,rfl,by decide +kernel⟩
theorem cf10:CF Tryz.prog 10:=⟨_,Tryz.func10,rfl,by decide +kernel⟩
theorem cf11:CF Tryz.prog 11:=⟨_,Tryz.func11,rfl,by decide +kernel⟩
theorem cf12:CF Tryz.prog 12:=⟨_,Tryz.func12,rfl,by decide +kernel⟩
theorem cf13:CF Tryz.prog 13:=⟨_,Tryz.func13,rfl,by decide +kernel⟩
theorem cf14:CF Tryz.prog 14:=⟨_,Tryz.func14,rfl,by decide +kernel⟩
theorem cf15:CF Tryz.prog 15:=⟨_,Tryz.func15,rfl,by decide +kernel⟩
theorem cf16:CF Tryz.prog 16:=⟨_,Tryz.func16,rfl,by decide +kernel⟩
theorem cf17:CF Tryz.prog 17:=⟨_,Tryz.func17,rfl,by decide +kernel⟩
theorem cf18:CF Tryz.prog 18:=⟨_,Tryz.func18,rfl,by decide +kernel⟩
theorem cf19:CF Tryz.prog 19:=⟨_,Tryz.func19,rfl,by decide +kernel⟩
theorem cf20:CF Tryz.prog 20:=⟨_,Tryz.func20,rfl,by decide +kernel⟩
theorem cf21:CF Tryz.prog 21:=⟨_,Tryz.func21,rfl,by decide +kernel⟩
theorem cf22:CF Tryz.prog 22:=⟨_,Tryz.func22,rfl,by decide +kernel⟩
theorem cf23:CF Tryz.prog 23:=⟨_,Tryz.func23,rfl,by decide +kernel⟩
theorem cf24:CF Tryz.prog 24:=⟨_,Tryz.func24,rfl,by decide +kernel⟩
theorem cf25:CF Tryz.prog 25:=⟨_,Tryz.func25,rfl,by decide +kernel⟩
theorem cf26:CF Tryz.prog 26:=⟨_,Tryz.func26,rfl,by decide +kernel⟩
theorem cf27:CF Tryz.prog 27:=⟨_,Tryz.func27,rfl,by decide +kernel⟩
theorem cf28:CF Tryz.prog 28:=⟨_,Tryz.func28,rfl,by decide +kernel⟩
theorem cf29:CF Tryz.prog 29:=⟨_,Tryz.func29,rfl,by decide +kernel⟩
theorem cf30:CF Tryz.prog 30:=⟨_,Tryz.func30,rfl,by decide +kernel⟩
theorem cf31:CF Tryz.prog 31:=⟨_,Tryz.func31,rfl,by decide +kernel⟩
theorem cf32:CF Tryz.prog 32:=⟨_,Tryz.func32,rfl,by decide +kernel⟩
theorem cf33:CF Tryz.prog 33:=⟨_,Tryz.func33,rfl,by decide +kernel⟩
theorem cf34:CF Tryz.prog 34:=⟨_,Tryz.func34,rfl,by decide +kernel⟩
theorem cf35:CF Tryz.prog 35:=⟨_,Tryz.func35,rfl,by decide +kernel⟩
theorem cf36:CF Tryz.prog 36:=⟨_,Tryz.func36,rfl,by decide +kernel⟩
theorem cf37:CF Tryz.prog 37:=⟨_,Tryz.func37,rfl,by decide +kernel⟩
theorem cf38:CF Tryz.prog 38:=⟨_,Tryz.func38,rfl,by decide +kernel⟩
theorem cf39:CF Tryz.prog 39:=⟨_,Tryz.func39,rfl,by decide +kernel⟩
theorem cf40:CF Tryz.prog 40:=⟨_,Tryz.func40,rfl,by decide +kernel⟩
theorem cf41:CF Tryz.prog 41:=⟨_,Tryz.func41,rfl,by decide +kernel⟩
theorem cf42:CF Tryz.prog 42:=⟨_,Tryz.func42,rfl,by decide +kernel⟩
theorem cf43:CF Tryz.prog 43:=⟨_,Tryz.func43,rfl,by decide +kernel⟩
theorem cf44:CF Tryz.prog 44:=⟨_,Tryz.func44,rfl,by decide +kernel⟩
theorem cf45:CF Tryz.prog 45:=⟨_,Tryz.func45,rfl,by decide +kernel⟩
theorem cf46:CF Tryz.prog 46:=⟨_,Tryz.func46,rfl,by decide +kernel⟩
theorem cf47:CF Tryz.prog 47:=⟨_,Tryz.func47,rfl,by decide +kernel⟩
theorem cf48:CF Tryz.prog 48:=⟨_,Tryz.func48,rfl,by decide +kernel⟩
theorem cf49:CF Tryz.prog 49:=⟨_,Tryz.func49,rfl,by decide +kernel⟩
theorem cf50:CF Tryz.prog 50:=⟨_,Tryz.func50,rfl,by decide +kernel⟩
theorem cf51:CF Tryz.prog 51:=⟨_,Tryz.func51,rfl,by decide +kernel⟩
theorem cf52:CF Tryz.prog 52:=⟨_,Tryz.func52,rfl,by decide +kernel⟩
theorem cf53:CF Tryz.prog 53:=⟨_,Tryz.func53,rfl,by decide +kernel⟩
theorem cf54:CF Tryz.prog 54:=⟨_,Tryz.func54,rfl,by decide +kernel⟩
theorem cf55:CF Tryz.prog 55:=⟨_,Tryz.func55,rfl,by decide +kernel⟩
theorem cf56:CF Tryz.prog 56:=⟨_,Tryz.func56,rfl,by decide +kernel⟩
theorem cf57:CF Tryz.prog 57:=⟨_,Tryz.func57,rfl,by decide +kernel⟩
theorem cf58:CF Tryz.prog 58:=⟨_,Tryz.func58,rfl,by decide +kernel⟩
theorem cf59:CF Tryz.prog 59:=⟨_,Tryz.func59,rfl,by decide +kernel⟩
theorem cf60:CF Tryz.prog 60:=⟨_,Tryz.func60,rfl,by decide +kernel⟩
theorem cf61:CF Tryz.prog 61:=⟨_,Tryz.func61,rfl,by decide +kernel⟩
theorem cf62:CF Tryz.prog 62:=⟨_,Tryz.func62,rfl,by decide +kernel⟩
theorem cf63:CF Tryz.prog 63:=⟨_,Tryz.func63,rfl,by decide +kernel⟩
theorem cf64:CF Tryz.prog 64:=⟨_,Tryz.func64,rfl,by decide +kernel⟩
theorem cf65:CF Tryz.prog 65:=⟨_,Tryz.func65,rfl,by decide +kernel⟩
theorem cf66:CF Tryz.prog 66:=⟨_,Tryz.func66,rfl,by decide +kernel⟩
theorem cf67:CF Tryz.prog 67:=⟨_,Tryz.func67,rfl,by decide +kernel⟩
theorem cf68:CF Tryz.prog 68:=⟨_,Tryz.func68,rfl,by decide +kernel⟩
theorem cf69:CF Tryz.prog 69:=⟨_,Tryz.func69,rfl,by decide +kernel⟩
theorem cf70:CF Tryz.prog 70:=⟨_,Tryz.func70,rfl,by decide +kernel⟩
theorem cf71:CF Tryz.prog 71:=⟨_,Tryz.func71,rfl,by decide +kernel⟩
theorem cf72:CF Tryz.prog 72:=⟨_,Tryz.func72,rfl,by decide +kernel⟩
theorem cf73:CF Tryz.prog 73:=⟨_,Tryz.func73,rfl,by decide +kernel⟩
theorem cf74:CF Tryz.prog 74:=⟨_,Tryz.func74,rfl,by decide +kernel⟩
theorem cf75:CF Tryz.prog 75:=⟨_,Tryz.func75,rfl,by decide +kernel⟩
theorem cf76:CF Tryz.prog 76:=⟨_,Tryz.func76,rfl,by decide +kernel⟩
theorem cf77:CF Tryz.prog 77:=⟨_,Tryz.func77,rfl,by decide +kernel⟩
theorem cf78:CF Tryz.prog 78:=⟨_,Tryz.func78,rfl,by decide +kernel⟩
theorem cf79:CF Tryz.prog 79:=⟨_,Tryz.func79,rfl,by decide +kernel⟩
theorem cf80:CF Tryz.prog 80:=⟨_,Tryz.func80,rfl,by decide +kernel⟩
theorem cf81:CF Tryz.prog 81:=⟨_,Tryz.func81,rfl,by decide +kernel⟩
theorem cf82:CF Tryz.prog 82:=⟨_,Tryz.func82,rfl,by decide +kernel⟩
theorem cf83:CF Tryz.prog 83:=⟨_,Tryz.func83,rfl,by decide +kernel⟩
theorem cf84:CF Tryz.prog 84:=⟨_,Tryz.func84,rfl,by decide +kernel⟩
theorem cf85:CF Tryz.prog 85:=⟨_,Tryz.func85,rfl,by decide +kernel⟩
theorem cf86:CF Tryz.prog 86:=⟨_,Tryz.func86,rfl,by decide +kernel⟩
theorem cf87:CF Tryz.prog 87:=⟨_,Tryz.func87,rfl,by decide +kernel⟩
theorem cf88:CF Tryz.prog 88:=⟨_,Tryz.func88,rfl,by decide +kernel⟩
theorem cf89:CF Tryz.prog 89:=⟨_,Tryz.func89,rfl,by decide +kernel⟩
theorem cf90:CF Tryz.prog 90:=⟨_,Tryz.func90,rfl,by decide +kernel⟩
theorem cf91:CF Tryz.prog 91:=⟨_,Tryz.func91,rfl,by decide +kernel⟩
theorem cf92:CF Tryz.prog 92:=⟨_,Tryz.func92,rfl,by decide +kernel⟩
theorem cf93:CF Tryz.prog 93:=⟨_,Tryz.func93,rfl,by decide +kernel⟩
theorem cf94:CF Tryz.prog 94:=⟨_,Tryz.func94,rfl,by decide +kernel⟩
theorem cf95:CF Tryz.prog 95:=⟨_,Tryz.func95,rfl,by decide +kernel⟩
theorem cf96:CF Tryz.prog 96:=⟨_,Tryz.func96,rfl,by decide +kernel⟩
theorem cf97:CF Tryz.prog 97:=⟨_,Tryz.func97,rfl,by decide +kernel⟩
theorem cf98:CF Tryz.prog 98:=⟨_,Tryz.func98,rfl,by decide +kernel⟩
theorem cf99:CF Tryz.prog 99:=⟨_,Tryz.func99,rfl,by decide +kernel⟩
theorem cf102:CF Tryz.prog 102:=⟨_,Tryz.func102,rfl,by decide +kernel⟩
theorem cf103:CF Tryz.prog 103:=⟨_,Tryz.func103,rfl,by decide +kernel⟩
theorem cf104:CF Tryz.prog 104:=⟨_,Tryz.func104,rfl,by decide +kernel⟩
theorem cf105:CF Tryz.prog 105:=⟨_,Tryz.func105,rfl,by decide +kernel⟩
theorem cf106:CF Tryz.prog 106:=⟨_,Tryz.func106,rfl,by decide +kernel⟩
theorem cf107:CF Tryz.prog 107:=⟨_,Tryz.func107,rfl,by decide +kernel⟩
theorem cf108:CF Tryz.prog 108:=⟨_,Tryz.func108,rfl,by decide +kernel⟩
theorem cf109:CF Tryz.prog 109:=⟨_,Tryz.func109,rfl,by decide +kernel⟩
theorem cf110:CF Tryz.prog 110:=⟨_,Tryz.func110,rfl,by decide +kernel⟩
theorem cf111:CF Tryz.prog 111:=⟨_,Tryz.func111,rfl,by decide +kernel⟩
theorem cf112:CF Tryz.prog 112:=⟨_,Tryz.func112,rfl,by decide +kernel⟩
theorem cf113:CF Tryz.prog 113:=⟨_,Tryz.func113,rfl,by decide +kernel⟩
theorem cf114:CF Tryz.prog 114:=⟨_,Tryz.func114,rfl,by decide +kernel⟩
theorem cf115:CF Tryz.prog 115:=⟨_,Tryz.func115,rfl,by decide +kernel⟩
theorem cf116:CF Tryz.prog 116:=⟨_,Tryz.func116,rfl,by decide +kernel⟩
theorem cf128:CF Tryz.prog 128:=⟨_,Tryz.func128,rfl,by decide +kernel⟩
theorem cf129:CF Tryz.prog 129:=⟨_,Tryz.func129,rfl,by decide +kernel⟩
theorem cf130:CF Tryz.prog 130:=⟨_,Tryz.func130,rfl,by decide +kernel⟩
theorem cf136:CF Tryz.prog 136:=⟨_,Tryz.func136,rfl,by decide +kernel⟩
theorem T22:SlT Tryz.prog 22 3 1 8 (I 0):=⟨Tryz.underlying22,by kernel_rfl,rfl,by decide⟩
theorem T23:SlT Tryz.prog 23 42 2 32 (.agg #[I 0,.slice none 0 0]):=⟨Tryz.underlying23,by kernel_rfl,rfl,by decide⟩
theorem T24:SlT Tryz.prog 24 32 3 24 (.agg #[I 0,I 0,I 0]):=⟨Tryz.underlying24,by kernel_rfl,rfl,by decide⟩
theorem T25:SlT Tryz.prog 25 44 5 40 (.agg #[I 0,I 0,I 0,I 0,B false]):=⟨Tryz.underlying25,by kernel_rfl,rfl,by decide⟩
theorem T34:SlT Tryz.prog 34 22 1 24 (.slice none 0 0):=⟨Tryz.underlying34,by kernel_rfl,rfl,by decide⟩
theorem T37:SlT Tryz.prog 37 40 2 16 (.agg #[I 0,I 0]):=⟨Tryz.underlying37,by kernel_rfl,rfl,by decide⟩
theorem T46:SlT Tryz.prog 46 45 1 8 (.pointer none):=⟨Tryz.underlying46,by kernel_rfl,rfl,by decide⟩
theorem T57:SlT Tryz.prog 57 115 2 32 (.agg #[I 0,.slice none 0 0]):=⟨Tryz.underlying57,by kernel_rfl,rfl,by decide⟩
theorem T58:SlT Tryz.prog 58 117 3 24 (.agg #[I 0,I 0,I 0]):=⟨Tryz.underlying58,by kernel_rfl,rfl,by decide⟩
theorem T59:SlT Tryz.prog 59 118 5 40 (.agg #[I 0,I 0,I 0,I 0,B false]):=⟨Tryz.underlying59,by kernel_rfl,rfl,by decide⟩
theorem T80:SlT Tryz.prog 80 30 2 16 (.agg #[I 0,I 0]):=⟨Tryz.underlying80,by kernel_rfl,rfl,by decide⟩
theorem T113:SlT Tryz.prog 113 116 2 16 (.agg #[I 0,I 0]):=⟨Tryz.underlying113,by kernel_rfl,rfl,by decide⟩
theorem T134:SlT Tryz.prog 134 4 1 1 (B false):=⟨Tryz.underlying134,by kernel_rfl,rfl,by decide⟩
theorem Sc3:isSc (Tryz.prog.underlying 3)=true:=by rw [Tryz.underlying3]; rfl
theorem Sc4:isSc (Tryz.prog.underlying 4)=true:=by rw [Tryz.underlying4]; rfl
theorem Sc22:isSc (Tryz.prog.underlying 22)=true:=by rw [Tryz.underlying22]; rfl
theorem Sc23:isSc (Tryz.prog.underlying 23)=true:=by rw [Tryz.underlying23]; rfl
theorem Sc24:isSc (Tryz.prog.underlying 24)=true:=by rw [Tryz.underlying24]; rfl
theorem Sc25:isSc (Tryz.prog.underlying 25)=true:=by rw [Tryz.underlying25]; rfl
theorem Sc37:isSc (Tryz.prog.underlying 37)=true:=by rw [Tryz.underlying37]; rfl
theorem Sc45:isSc (Tryz.prog.underlying 45)=true:=by rw [Tryz.underlying45]; rfl
theorem Sc49:isSc (Tryz.prog.underlying 49)=true:=by rw [Tryz.underlying49]; rfl
theorem Sc57:isSc (Tryz.prog.underlying 57)=true:=by rw [Tryz.underlying57]; rfl
theorem Sc58:isSc (Tryz.prog.underlying 58)=true:=by rw [Tryz.underlying58]; rfl
theorem Sc59:isSc (Tryz.prog.underlying 59)=true:=by rw [Tryz.underlying59]; rfl
theorem Sc100:isSc (Tryz.prog.underlying 100)=true:=by rw [Tryz.underlying100]; rfl
theorem Sc103:isSc (Tryz.prog.underlying 103)=true:=by rw [Tryz.underlying103]; rfl
theorem Sc105:isSc (Tryz.prog.underlying 105)=true:=by rw [Tryz.underlying105]; rfl
theorem Sc106:isSc (Tryz.prog.underlying 106)=true:=by rw [Tryz.underlying106]; rfl
theorem Sc107:isSc (Tryz.prog.underlying 107)=true:=by rw [Tryz.underlying107]; rfl
theorem Sc113:isSc (Tryz.prog.underlying 113)=true:=by rw [Tryz.underlying113]; rfl
theorem Sc123:isSc (Tryz.prog.underlying 123)=true:=by rw [Tryz.underlying123]; rfl
theorem Sc135:isSc (Tryz.prog.underlying 135)=true:=by rw [Tryz.underlying135]; rfl
theorem Sc161:isSc (Tryz.prog.underlying 161)=true:=by rw [Tryz.underlying161]; rfl
theorem Sc169:isSc (Tryz.prog.underlying 169)=true:=by rw [Tryz.underlying169]; rfl
theorem Sc181:isSc (Tryz.prog.underlying 181)=true:=by rw [Tryz.underlying181]; rfl
theorem Sz3:(Tryz.prog.info? 3).map (·.size)=some 1:=by kernel_rfl
theorem Sz4:(Tryz.prog.info? 4).map (·.size)=some 1:=by kernel_rfl
theorem Sz23:(Tryz.prog.info? 23).map (·.size)=some 1:=by kernel_rfl
theorem Sz24:(Tryz.prog.info? 24).map (·.size)=some 1:=by kernel_rfl
theorem Sz25:(Tryz.prog.info? 25).map (·.size)=some 1:=by kernel_rfl
theorem Ag27:isAg (Tryz.prog.underlying 27)=true:=by rw [Tryz.underlying27]; rfl
theorem Sz27:(Tryz.prog.info? 27).map (·.size)=some 3:=by kernel_rfl
theorem Ag30:isAg (Tryz.prog.underlying 30)=true:=by rw [Tryz.underlying30]; rfl
theorem Sz30:(Tryz.prog.info? 30).map (·.size)=some 2:=by kernel_rfl
theorem Ag32:isAg (Tryz.prog.underlying 32)=true:=by rw [Tryz.underlying32]; rfl
theorem Sz32:(Tryz.prog.info? 32).map (·.size)=some 3:=by kernel_rfl
theorem Ag36:isAg (Tryz.prog.underlying 36)=true:=by rw [Tryz.underlying36]; rfl
theorem Sz36:(Tryz.prog.info? 36).map (·.size)=some 4:=by kernel_rfl
theorem Sz37:(Tryz.prog.info? 37).map (·.size)=some 1:=by kernel_rfl
theorem Ag40:isAg (Tryz.prog.underlying 40)=true:=by rw [Tryz.underlying40]; rfl
theorem Sz40:(Tryz.prog.info? 40).map (·.size)=some 2:=by kernel_rfl
theorem Ag42:isAg (Tryz.prog.underlying 42)=true:=by rw [Tryz.underlying42]; rfl
theorem Sz42:(Tryz.prog.info? 42).map (·.size)=some 2:=by kernel_rfl
theorem Ag44:isAg (Tryz.prog.underlying 44)=true:=by rw [Tryz.underlying44]; rfl
theorem Sz44:(Tryz.prog.info? 44).map (·.size)=some 5:=by kernel_rfl
theorem Sz49:(Tryz.prog.info? 49).map (·.size)=some 1:=by kernel_rfl
theorem Sz57:(Tryz.prog.info? 57).map (·.size)=some 1:=by kernel_rfl
theorem Sz58:(Tryz.prog.info? 58).map (·.size)=some 1:=by kernel_rfl
theorem Sz59:(Tryz.prog.info? 59).map (·.size)=some 1:=by kernel_rfl
theorem Ag61:isAg (Tryz.prog.underlying 61)=true:=by rw [Tryz.underlying61]; rfl
theorem Sz61:(Tryz.prog.info? 61).map (·.size)=some 3:=by kernel_rfl
theorem Ag86:isAg (Tryz.prog.underlying 86)=true:=by rw [Tryz.underlying86]; rfl
theorem Sz86:(Tryz.prog.info? 86).map (·.size)=some 4:=by kernel_rfl
theorem Sz105:(Tryz.prog.info? 105).map (·.size)=some 1:=by kernel_rfl
theorem Sz107:(Tryz.prog.info? 107).map (·.size)=some 1:=by kernel_rfl
theorem Sz113:(Tryz.prog.info? 113).map (·.size)=some 1:=by kernel_rfl
theorem Ag115:isAg (Tryz.prog.underlying 115)=true:=by rw [Tryz.underlying115]; rfl
theorem Sz115:(Tryz.prog.info? 115).map (·.size)=some 2:=by kernel_rfl
theorem Ag117:isAg (Tryz.prog.underlying 117)=true:=by rw [Tryz.underlying117]; rfl
theorem Sz117:(Tryz.prog.info? 117).map (·.size)=some 3:=by kernel_rfl
theorem Ag118:isAg (Tryz.prog.underlying 118)=true:=by rw [Tryz.underlying118]; rfl
theorem Sz118:(Tryz.prog.info? 118).map (·.size)=some 5:=by kernel_rfl
theorem Ag121:isAg (Tryz.prog.underlying 121)=true:=by rw [Tryz.underlying121]; rfl
theorem Sz121:(Tryz.prog.info? 121).map (·.size)=some 2:=by kernel_rfl
theorem Sz123:(Tryz.prog.info? 123).map (·.size)=some 1:=by kernel_rfl
theorem Ag152:isAg (Tryz.prog.underlying 152)=true:=by rw [Tryz.underlying152]; rfl
theorem Sz152:(Tryz.prog.info? 152).map (·.size)=some 1:=by kernel_rfl
theorem Sz161:(Tryz.prog.info? 161).map (·.size)=some 1:=by kernel_rfl
theorem Sz169:(Tryz.prog.info? 169).map (·.size)=some 1:=by kernel_rfl
theorem Ag171:isAg (Tryz.prog.underlying 171)=true:=by rw [Tryz.underlying171]; rfl
theorem Sz171:(Tryz.prog.info? 171).map (·.size)=some 16:=by kernel_rfl
theorem Sz181:(Tryz.prog.info? 181).map (·.size)=some 1:=by kernel_rfl
theorem Fd27_0:FdE Tryz.prog 27 0=some (0,23):=fdE Tryz.underlying27 rfl
theorem Fd27_1:FdE Tryz.prog 27 1=some (1,24):=fdE Tryz.underlying27 rfl
theorem Fd27_2:FdE Tryz.prog 27 2=some (2,25):=fdE Tryz.underlying27 rfl
theorem Fd30_0:FdE Tryz.prog 30 0=some (0,3):=fdE Tryz.underlying30 rfl
theorem Fd30_1:FdE Tryz.prog 30 1=some (1,3):=fdE Tryz.underlying30 rfl
theorem Fd32_0:FdE Tryz.prog 32 0=some (0,3):=fdE Tryz.underlying32 rfl
theorem Fd32_1:FdE Tryz.prog 32 1=some (1,30):=fdE Tryz.underlying32 rfl
theorem Fd36_0:FdE Tryz.prog 36 0=some (0,3):=fdE Tryz.underlying36 rfl
theorem Fd36_1:FdE Tryz.prog 36 1=some (1,3):=fdE Tryz.underlying36 rfl
theorem Fd36_2:FdE Tryz.prog 36 2=some (2,3):=fdE Tryz.underlying36 rfl
theorem Fd36_3:FdE Tryz.prog 36 3=some (3,3):=fdE Tryz.underlying36 rfl
theorem Fd40_0:FdE Tryz.prog 40 0=some (0,3):=fdE Tryz.underlying40 rfl
theorem Fd40_1:FdE Tryz.prog 40 1=some (1,3):=fdE Tryz.underlying40 rfl
theorem Fd42_0:FdE Tryz.prog 42 0=some (0,3):=fdE Tryz.underlying42 rfl
theorem Fd42_1:FdE Tryz.prog 42 1=some (1,37):=fdE Tryz.underlying42 rfl
theorem Fd44_0:FdE Tryz.prog 44 0=some (0,3):=fdE Tryz.underlying44 rfl
theorem Fd44_1:FdE Tryz.prog 44 1=some (1,3):=fdE Tryz.underlying44 rfl
theorem Fd44_2:FdE Tryz.prog 44 2=some (2,30):=fdE Tryz.underlying44 rfl
theorem Fd44_3:FdE Tryz.prog 44 3=some (4,4):=fdE Tryz.underlying44 rfl
theorem Fd61_0:FdE Tryz.prog 61 0=some (0,57):=fdE Tryz.underlying61 rfl
theorem Fd61_1:FdE Tryz.prog 61 1=some (1,58):=fdE Tryz.underlying61 rfl
theorem Fd61_2:FdE Tryz.prog 61 2=some (2,59):=fdE Tryz.underlying61 rfl
theorem Fd86_0:FdE Tryz.prog 86 0=some (0,3):=fdE Tryz.underlying86 rfl
theorem Fd86_1:FdE Tryz.prog 86 1=some (1,3):=fdE Tryz.underlying86 rfl
theorem Fd86_2:FdE Tryz.prog 86 2=some (2,3):=fdE Tryz.underlying86 rfl
theorem Fd86_3:FdE Tryz.prog 86 3=some (3,3):=fdE Tryz.underlying86 rfl
theorem Fd115_0:FdE Tryz.prog 115 0=some (0,3):=fdE Tryz.underlying115 rfl
theorem Fd115_1:FdE Tryz.prog 115 1=some (1,113):=fdE Tryz.underlying115 rfl
theorem Fd116_0:FdE Tryz.prog 116 0=some (0,3):=fdE Tryz.underlying116 rfl
theorem Fd116_1:FdE Tryz.prog 116 1=some (1,3):=fdE Tryz.underlying116 rfl
theorem Fd117_0:FdE Tryz.prog 117 0=some (0,3):=fdE Tryz.underlying117 rfl
theorem Fd117_1:FdE Tryz.prog 117 1=some (1,30):=fdE Tryz.underlying117 rfl
theorem Fd118_0:FdE Tryz.prog 118 0=some (0,3):=fdE Tryz.underlying118 rfl
theorem Fd118_1:FdE Tryz.prog 118 1=some (1,3):=fdE Tryz.underlying118 rfl
theorem Fd118_2:FdE Tryz.prog 118 2=some (2,30):=fdE Tryz.underlying118 rfl
theorem Fd118_3:FdE Tryz.prog 118 3=some (4,4):=fdE Tryz.underlying118 rfl
theorem Fd121_0:FdE Tryz.prog 121 0=some (0,3):=fdE Tryz.underlying121 rfl
theorem Fd121_1:FdE Tryz.prog 121 1=some (1,3):=fdE Tryz.underlying121 rfl
theorem Fd152_0:FdE Tryz.prog 152 0=some (0,123):=fdE Tryz.underlying152 rfl
theorem Fd163_0:FdE Tryz.prog 163 0=some (0,27):=fdE Tryz.underlying163 rfl
theorem Fd163_1:FdE Tryz.prog 163 1=some (3,161):=fdE Tryz.underlying163 rfl
theorem Fd173_0:FdE Tryz.prog 173 0=some (0,171):=fdE Tryz.underlying173 rfl
theorem Fd173_1:FdE Tryz.prog 173 1=some (16,171):=fdE Tryz.underlying173 rfl
theorem Al3:(Tryz.prog.info? 3).map (·.zero)=some (some (I 0)):=by kernel_rfl
theorem Al4:(Tryz.prog.info? 4).map (·.zero)=some (some (B false)):=by kernel_rfl
theorem Al27:(Tryz.prog.info? 27).map (·.zero)=some (some (.agg #[.slice none 0 0,.slice none 0 0,.slice none 0 0])):=by kernel_rfl
theorem Al30:(Tryz.prog.info? 30).map (·.zero)=some (some (.agg #[I 0,I 0])):=by kernel_rfl
theorem Al32:(Tryz.prog.info? 32).map (·.zero)=some (some (.agg #[I 0,I 0,I 0])):=by kernel_rfl
theorem Al36:(Tryz.prog.info? 36).map (·.zero)=some (some (.agg #[I 0,I 0,I 0,I 0])):=by kernel_rfl
theorem Al40:(Tryz.prog.info? 40).map (·.zero)=some (some (.agg #[I 0,I 0])):=by kernel_rfl
theorem Al42:(Tryz.prog.info? 42).map (·.zero)=some (some (.agg #[I 0,.slice none 0 0])):=by kernel_rfl
theorem Al44:(Tryz.prog.info? 44).map (·.zero)=some (some (.agg #[I 0,I 0,I 0,I 0,B false])):=by kernel_rfl
theorem Al49:(Tryz.prog.info? 49).map (·.zero)=some (some (I 0)):=by kernel_rfl
theorem Al61:(Tryz.prog.info? 61).map (·.zero)=some (some (.agg #[.slice none 0 0,.slice none 0 0,.slice none 0 0])):=by kernel_rfl
theorem Al86:(Tryz.prog.info? 86).map (·.zero)=some (some (.agg #[I 0,I 0,I 0,I 0])):=by kernel_rfl
theorem Al105:(Tryz.prog.info? 105).map (·.zero)=some (some (.nilFunc)):=by kernel_rfl
theorem Al107:(Tryz.prog.info? 107).map (·.zero)=some (some (.pointer none)):=by kernel_rfl
theorem Al115:(Tryz.prog.info? 115).map (·.zero)=some (some (.agg #[I 0,.slice none 0 0])):=by kernel_rfl
theorem Al117:(Tryz.prog.info? 117).map (·.zero)=some (some (.agg #[I 0,I 0,I 0])):=by kernel_rfl
theorem Al118:(Tryz.prog.info? 118).map (·.zero)=some (some (.agg #[I 0,I 0,I 0,I 0,B false])):=by kernel_rfl
theorem Al121:(Tryz.prog.info? 121).map (·.zero)=some (some (.agg #[I 0,I 0])):=by kernel_rfl
theorem Al123:(Tryz.prog.info? 123).map (·.zero)=some (some (.nilFunc)):=by kernel_rfl
theorem Al130:(Tryz.prog.info? 130).map (·.zero)=some (some (.agg #[B false,B false,B false,B false,B false,B false,B false,B false,B false,B false,B false,B false,B false,B false,B false,B false])):=by kernel_rfl
theorem Al152:(Tryz.prog.info? 152).map (·.zero)=some (some (.agg #[.nilFunc])):=by kernel_rfl
theorem Al163:(Tryz.prog.info? 163).map (·.zero)=some (some (.agg #[.slice none 0 0,.slice none 0 0,.slice none 0 0,.map none])):=by kernel_rfl
theorem Al169:(Tryz.prog.info? 169).map (·.zero)=some (some (.pointer none)):=by kernel_rfl
theorem Al181:(Tryz.prog.info? 181).map (·.zero)=some (some (.map none)):=by kernel_rfl
theorem Bd27:BdE Tryz.prog 27 [(0,1),(1,1),(2,1)]:=bdE Tryz.underlying27 (by kernel_rfl)
theorem Bd30:BdE Tryz.prog 30 [(0,1),(1,1)]:=bdE Tryz.underlying30 (by kernel_rfl)
theorem Bd32:BdE Tryz.prog 32 [(0,1),(1,2)]:=bdE Tryz.underlying32 (by kernel_rfl)
theorem Bd36:BdE Tryz.prog 36 [(0,1),(1,1),(2,1),(3,1)]:=bdE Tryz.underlying36 (by kernel_rfl)
theorem Bd40:BdE Tryz.prog 40 [(0,1),(1,1)]:=bdE Tryz.underlying40 (by kernel_rfl)
theorem Bd42:BdE Tryz.prog 42 [(0,1),(1,1)]:=bdE Tryz.underlying42 (by kernel_rfl)
theorem Bd44:BdE Tryz.prog 44 [(0,1),(1,1),(2,2),(4,1)]:=bdE Tryz.underlying44 (by kernel_rfl)
theorem Bd86:BdE Tryz.prog 86 [(0,1),(1,1),(2,1),(3,1)]:=bdE Tryz.underlying86 (by kernel_rfl)
theorem Bd115:BdE Tryz.prog 115 [(0,1),(1,1)]:=bdE Tryz.underlying115 (by kernel_rfl)
theorem Bd117:BdE Tryz.prog 117 [(0,1),(1,2)]:=bdE Tryz.underlying117 (by kernel_rfl)
theorem Bd121:BdE Tryz.prog 121 [(0,1),(1,1)]:=bdE Tryz.underlying121 (by kernel_rfl)
theorem Bd152:BdE Tryz.prog 152 [(0,1)]:=bdE Tryz.underlying152 (by kernel_rfl)
theorem Bd163:BdE Tryz.prog 163 [(0,3),(3,1)]:=bdE Tryz.underlying163 (by kernel_rfl)
theorem Bd173:BdE Tryz.prog 173 [(0,16),(16,16)]:=bdE Tryz.underlying173 (by kernel_rfl)
theorem mixed:Tryz.prog.follows .mixedOrders=true:=by kernel_rfl
theorem Al173:(Tryz.prog.info? 173).map (·.zero)=some (some (.agg (List.flatten [[],encF (α:=Int) (List.replicate 16 0),encF (α:=Int) (List.replicate 16 0)]).toArray)):=by kernel_rfl

instance:TlC Tryz.prog 22 3 1 8 (I 0):=⟨T22⟩
instance:TlC Tryz.prog 23 42 2 32 (.agg #[I 0,.slice none 0 0]):=⟨T23⟩
instance:TlC Tryz.prog 24 32 3 24 (.agg #[I 0,I 0,I 0]):=⟨T24⟩
instance:TlC Tryz.prog 25 44 5 40 (.agg #[I 0,I 0,I 0,I 0,B false]):=⟨T25⟩
instance:TlC Tryz.prog 34 22 1 24 (.slice none 0 0):=⟨T34⟩
instance:TlC Tryz.prog 37 40 2 16 (.agg #[I 0,I 0]):=⟨T37⟩
instance:TlC Tryz.prog 46 45 1 8 (.pointer none):=⟨T46⟩
instance:TlC Tryz.prog 57 115 2 32 (.agg #[I 0,.slice none 0 0]):=⟨T57⟩
instance:TlC Tryz.prog 58 117 3 24 (.agg #[I 0,I 0,I 0]):=⟨T58⟩
instance:TlC Tryz.prog 59 118 5 40 (.agg #[I 0,I 0,I 0,I 0,B false]):=⟨T59⟩
instance:TlC Tryz.prog 80 30 2 16 (.agg #[I 0,I 0]):=⟨T80⟩
instance:TlC Tryz.prog 113 116 2 16 (.agg #[I 0,I 0]):=⟨T113⟩
instance:TlC Tryz.prog 134 4 1 1 (B false):=⟨T134⟩
instance:ScC Tryz.prog 3:=⟨Sc3⟩
instance:ScC Tryz.prog 4:=⟨Sc4⟩
instance:ScC Tryz.prog 22:=⟨Sc22⟩
instance:ScC Tryz.prog 23:=⟨Sc23⟩
instance:ScC Tryz.prog 24:=⟨Sc24⟩
instance:ScC Tryz.prog 25:=⟨Sc25⟩
instance:ScC Tryz.prog 37:=⟨Sc37⟩
instance:ScC Tryz.prog 45:=⟨Sc45⟩
instance:ScC Tryz.prog 49:=⟨Sc49⟩
instance:ScC Tryz.prog 57:=⟨Sc57⟩
instance:ScC Tryz.prog 58:=⟨Sc58⟩
instance:ScC Tryz.prog 59:=⟨Sc59⟩
instance:ScC Tryz.prog 100:=⟨Sc100⟩
instance:ScC Tryz.prog 103:=⟨Sc103⟩
instance:ScC Tryz.prog 105:=⟨Sc105⟩
instance:ScC Tryz.prog 106:=⟨Sc106⟩
instance:ScC Tryz.prog 107:=⟨Sc107⟩
instance:ScC Tryz.prog 113:=⟨Sc113⟩
instance:ScC Tryz.prog 123:=⟨Sc123⟩
instance:ScC Tryz.prog 135:=⟨Sc135⟩
instance:ScC Tryz.prog 161:=⟨Sc161⟩
instance:ScC Tryz.prog 169:=⟨Sc169⟩
instance:ScC Tryz.prog 181:=⟨Sc181⟩
instance:SzC Tryz.prog 3 1:=⟨Sz3⟩
instance:SzC Tryz.prog 4 1:=⟨Sz4⟩
instance:SzC Tryz.prog 23 1:=⟨Sz23⟩
instance:SzC Tryz.prog 24 1:=⟨Sz24⟩
instance:SzC Tryz.prog 25 1:=⟨Sz25⟩
instance:AgC Tryz.prog 27:=⟨Ag27⟩
instance:SzC Tryz.prog 27 3:=⟨Sz27⟩
instance:AgC Tryz.prog 30:=⟨Ag30⟩
instance:SzC Tryz.prog 30 2:=⟨Sz30⟩
instance:AgC Tryz.prog 32:=⟨Ag32⟩
instance:SzC Tryz.prog 32 3:=⟨Sz32⟩
instance:AgC Tryz.prog 36:=⟨Ag36⟩
instance:SzC Tryz.prog 36 4:=⟨Sz36⟩
instance:SzC Tryz.prog 37 1:=⟨Sz37⟩
instance:AgC Tryz.prog 40:=⟨Ag40⟩
instance:SzC Tryz.prog 40 2:=⟨Sz40⟩
instance:AgC Tryz.prog 42:=⟨Ag42⟩
instance:SzC Tryz.prog 42 2:=⟨Sz42⟩
instance:AgC Tryz.prog 44:=⟨Ag44⟩
instance:SzC Tryz.prog 44 5:=⟨Sz44⟩
instance:SzC Tryz.prog 49 1:=⟨Sz49⟩
instance:SzC Tryz.prog 57 1:=⟨Sz57⟩
instance:SzC Tryz.prog 58 1:=⟨Sz58⟩
instance:SzC Tryz.prog 59 1:=⟨Sz59⟩
instance:AgC Tryz.prog 61:=⟨Ag61⟩
instance:SzC Tryz.prog 61 3:=⟨Sz61⟩
instance:AgC Tryz.prog 86:=⟨Ag86⟩
instance:SzC Tryz.prog 86 4:=⟨Sz86⟩
instance:SzC Tryz.prog 105 1:=⟨Sz105⟩
instance:SzC Tryz.prog 107 1:=⟨Sz107⟩
instance:SzC Tryz.prog 113 1:=⟨Sz113⟩
instance:AgC Tryz.prog 115:=⟨Ag115⟩
instance:SzC Tryz.prog 115 2:=⟨Sz115⟩
instance:AgC Tryz.prog 117:=⟨Ag117⟩
instance:SzC Tryz.prog 117 3:=⟨Sz117⟩
instance:AgC Tryz.prog 118:=⟨Ag118⟩
instance:SzC Tryz.prog 118 5:=⟨Sz118⟩
instance:AgC Tryz.prog 121:=⟨Ag121⟩
instance:SzC Tryz.prog 121 2:=⟨Sz121⟩
instance:SzC Tryz.prog 123 1:=⟨Sz123⟩
instance:AgC Tryz.prog 152:=⟨Ag152⟩
instance:SzC Tryz.prog 152 1:=⟨Sz152⟩
instance:SzC Tryz.prog 161 1:=⟨Sz161⟩
instance:SzC Tryz.prog 169 1:=⟨Sz169⟩
instance:AgC Tryz.prog 171:=⟨Ag171⟩
instance:SzC Tryz.prog 171 16:=⟨Sz171⟩
instance:SzC Tryz.prog 181 1:=⟨Sz181⟩
instance:FdC Tryz.prog 27 0 0 23:=⟨Fd27_0⟩
instance:FdC Tryz.prog 27 1 1 24:=⟨Fd27_1⟩
instance:FdC Tryz.prog 27 2 2 25:=⟨Fd27_2⟩
instance:FdC Tryz.prog 30 0 0 3:=⟨Fd30_0⟩
instance:FdC Tryz.prog 30 1 1 3:=⟨Fd30_1⟩
instance:FdC Tryz.prog 32 0 0 3:=⟨Fd32_0⟩
instance:FdC Tryz.prog 32 1 1 30:=⟨Fd32_1⟩
instance:FdC Tryz.prog 36 0 0 3:=⟨Fd36_0⟩
instance:FdC Tryz.prog 36 1 1 3:=⟨Fd36_1⟩
instance:FdC Tryz.prog 36 2 2 3:=⟨Fd36_2⟩
instance:FdC Tryz.prog 36 3 3 3:=⟨Fd36_3⟩
instance:FdC Tryz.prog 40 0 0 3:=⟨Fd40_0⟩
instance:FdC Tryz.prog 40 1 1 3:=⟨Fd40_1⟩
instance:FdC Tryz.prog 42 0 0 3:=⟨Fd42_0⟩
instance:FdC Tryz.prog 42 1 1 37:=⟨Fd42_1⟩
instance:FdC Tryz.prog 44 0 0 3:=⟨Fd44_0⟩
instance:FdC Tryz.prog 44 1 1 3:=⟨Fd44_1⟩
instance:FdC Tryz.prog 44 2 2 30:=⟨Fd44_2⟩
instance:FdC Tryz.prog 44 3 4 4:=⟨Fd44_3⟩
instance:FdC Tryz.prog 61 0 0 57:=⟨Fd61_0⟩
instance:FdC Tryz.prog 61 1 1 58:=⟨Fd61_1⟩
instance:FdC Tryz.prog 61 2 2 59:=⟨Fd61_2⟩
instance:FdC Tryz.prog 86 0 0 3:=⟨Fd86_0⟩
instance:FdC Tryz.prog 86 1 1 3:=⟨Fd86_1⟩
instance:FdC Tryz.prog 86 2 2 3:=⟨Fd86_2⟩
instance:FdC Tryz.prog 86 3 3 3:=⟨Fd86_3⟩
instance:FdC Tryz.prog 115 0 0 3:=⟨Fd115_0⟩
instance:FdC Tryz.prog 115 1 1 113:=⟨Fd115_1⟩
instance:FdC Tryz.prog 116 0 0 3:=⟨Fd116_0⟩
instance:FdC Tryz.prog 116 1 1 3:=⟨Fd116_1⟩
instance:FdC Tryz.prog 117 0 0 3:=⟨Fd117_0⟩
instance:FdC Tryz.prog 117 1 1 30:=⟨Fd117_1⟩
instance:FdC Tryz.prog 118 0 0 3:=⟨Fd118_0⟩
instance:FdC Tryz.prog 118 1 1 3:=⟨Fd118_1⟩
instance:FdC Tryz.prog 118 2 2 30:=⟨Fd118_2⟩
instance:FdC Tryz.prog 118 3 4 4:=⟨Fd118_3⟩
instance:FdC Tryz.prog 121 0 0 3:=⟨Fd121_0⟩
instance:FdC Tryz.prog 121 1 1 3:=⟨Fd121_1⟩
instance:FdC Tryz.prog 152 0 0 123:=⟨Fd152_0⟩
instance:FdC Tryz.prog 163 0 0 27:=⟨Fd163_0⟩
instance:FdC Tryz.prog 163 1 3 161:=⟨Fd163_1⟩
instance:FdC Tryz.prog 173 0 0 171:=⟨Fd173_0⟩
instance:FdC Tryz.prog 173 1 16 171:=⟨Fd173_1⟩
instance:AlC Tryz.prog 3 (I 0):=⟨Al3⟩
instance:AlC Tryz.prog 4 (B false):=⟨Al4⟩
instance:AlC Tryz.prog 27 (.agg #[.slice none 0 0,.slice none 0 0,.slice none 0 0]):=⟨Al27⟩
instance:AlC Tryz.prog 30 (.agg #[I 0,I 0]):=⟨Al30⟩
instance:AlC Tryz.prog 32 (.agg #[I 0,I 0,I 0]):=⟨Al32⟩
instance:AlC Tryz.prog 36 (.agg #[I 0,I 0,I 0,I 0]):=⟨Al36⟩
instance:AlC Tryz.prog 40 (.agg #[I 0,I 0]):=⟨Al40⟩
instance:AlC Tryz.prog 42 (.agg #[I 0,.slice none 0 0]):=⟨Al42⟩
instance:AlC Tryz.prog 44 (.agg #[I 0,I 0,I 0,I 0,B false]):=⟨Al44⟩
instance:AlC Tryz.prog 49 (I 0):=⟨Al49⟩
instance:AlC Tryz.prog 61 (.agg #[.slice none 0 0,.slice none 0 0,.slice none 0 0]):=⟨Al61⟩
instance:AlC Tryz.prog 86 (.agg #[I 0,I 0,I 0,I 0]):=⟨Al86⟩
instance:AlC Tryz.prog 105 (.nilFunc):=⟨Al105⟩
instance:AlC Tryz.prog 107 (.pointer none):=⟨Al107⟩
instance:AlC Tryz.prog 115 (.agg #[I 0,.slice none 0 0]):=⟨Al115⟩
instance:AlC Tryz.prog 117 (.agg #[I 0,I 0,I 0]):=⟨Al117⟩
instance:AlC Tryz.prog 118 (.agg #[I 0,I 0,I 0,I 0,B false]):=⟨Al118⟩
instance:AlC Tryz.prog 121 (.agg #[I 0,I 0]):=⟨Al121⟩
instance:AlC Tryz.prog 123 (.nilFunc):=⟨Al123⟩
instance:AlC Tryz.prog 130 (.agg #[B false,B false,B false,B false,B false,B false,B false,B false,B false,B false,B false,B false,B false,B false,B false,B false]):=⟨Al130⟩
instance:AlC Tryz.prog 152 (.agg #[.nilFunc]):=⟨Al152⟩
instance:AlC Tryz.prog 163 (.agg #[.slice none 0 0,.slice none 0 0,.slice none 0 0,.map none]):=⟨Al163⟩
instance:AlC Tryz.prog 169 (.pointer none):=⟨Al169⟩
instance:AlC Tryz.prog 181 (.map none):=⟨Al181⟩
instance:BdC Tryz.prog 27 [(0,1),(1,1),(2,1)]:=⟨_,Tryz.underlying27,Bd27 Tryz.underlying27⟩
instance:BdC Tryz.prog 30 [(0,1),(1,1)]:=⟨_,Tryz.underlying30,Bd30 Tryz.underlying30⟩
instance:BdC Tryz.prog 32 [(0,1),(1,2)]:=⟨_,Tryz.underlying32,Bd32 Tryz.underlying32⟩
instance:BdC Tryz.prog 36 [(0,1),(1,1),(2,1),(3,1)]:=⟨_,Tryz.underlying36,Bd36 Tryz.underlying36⟩
instance:BdC Tryz.prog 40 [(0,1),(1,1)]:=⟨_,Tryz.underlying40,Bd40 Tryz.underlying40⟩
instance:BdC Tryz.prog 42 [(0,1),(1,1)]:=⟨_,Tryz.underlying42,Bd42 Tryz.underlying42⟩
instance:BdC Tryz.prog 44 [(0,1),(1,1),(2,2),(4,1)]:=⟨_,Tryz.underlying44,Bd44 Tryz.underlying44⟩
instance:BdC Tryz.prog 86 [(0,1),(1,1),(2,1),(3,1)]:=⟨_,Tryz.underlying86,Bd86 Tryz.underlying86⟩
instance:BdC Tryz.prog 115 [(0,1),(1,1)]:=⟨_,Tryz.underlying115,Bd115 Tryz.underlying115⟩
instance:BdC Tryz.prog 117 [(0,1),(1,2)]:=⟨_,Tryz.underlying117,Bd117 Tryz.underlying117⟩
instance:BdC Tryz.prog 121 [(0,1),(1,1)]:=⟨_,Tryz.underlying121,Bd121 Tryz.underlying121⟩
instance:BdC Tryz.prog 152 [(0,1)]:=⟨_,Tryz.underlying152,Bd152 Tryz.underlying152⟩
instance:BdC Tryz.prog 163 [(0,3),(3,1)]:=⟨_,Tryz.underlying163,Bd163 Tryz.underlying163⟩
instance:BdC Tryz.prog 173 [(0,16),(16,16)]:=⟨_,Tryz.underlying173,Bd173 Tryz.underlying173⟩
instance:AlC Tryz.prog 173 (.agg (List.flatten [[],encF (α:=Int) (List.replicate 16 0),encF (α:=Int) (List.replicate 16 0)]).toArray):=⟨Al173⟩
end Go.Proofs.YtbldmjejckjflaaGreat
namespace Go.Nm
open Go
abbrev encSpt (x:Spot):Value:=.agg #[I x.sec,I x.stage]
theorem bool_val (o:Option Bool):(o.map B).getD (.bool false)=B (o.getD false):=by cases o <;> rfl
end Go.Nm
namespace Go.Proofs.YtbldmjejckjflaaGreat
open Go Go.Nm Go.Proofs
theorem keyIntB:KeyL (ν:=Bool) Tryz.prog 3 I:=KeyL.int Tryz.underlying3
theorem findAskSpt {ν:Type} (k:Spot) (w:World):∀ (es:List MapEntry) (m:List (Spot × ν)) (venc:ν->Value) (j:Nat),es.map (fun e=>(e.key,e.val))=m.map (fun p=>(encSpt p.1,venc p.2)) →
    (Instr.findAsking 121 (encSpt k) es j).run Tryz.prog w = .ok ((idxM m k).bind fun i=>(es[i]?).map fun e=>(i+j,e.val)) w
  | [],[],_,_,_=>rfl
  | [],_ :: _,_,_,h=>by simp at h
  | _ :: _,[],_,_,h=>by simp at h
  | e :: es,p :: m,venc,j,h=>by
    simp only [List.map_cons,List.cons.injEq,Prod.mk.injEq] at h;have ih:=findAskSpt k w es m venc (j+1) h.2;unfold Instr.findAsking;rw [h.1.1];have he:=eqT121 k p.1 w;unfold idxM;by_cases hp:p.1=k
    · rw [if_pos hp];have:decide (k=p.1)=true:=by simp [hp]
      rw [this] at he;simp [Op.equal,Op.maxDepth,he]
    · rw [if_neg hp];have:decide (k=p.1)=false:=by simp; exact fun e=>hp e.symm
      rw [this] at he;simp only [Op.equal,Op.maxDepth,Sem.run_bind,he,Result.andThen_ok,Bool.false_eq_true,if_false,ih];cases hi:idxM m k with
      | none=>rfl
      | some i =>
        simp only [Option.map_some,Option.bind_some,List.getElem?_cons_succ];cases es[i]? with
        | none=>rfl
        | some e'=>simp; omega
theorem keySpot:KeyL (ν:=Int) Tryz.prog 121 encSpt:=by
  refine ⟨fun e w k=>?_,fun w es m venc k h=>?_,fun k=>?_⟩
  · have u3:=Tryz.underlying3;have a3:=Tryz.isAgg3;have z3:=Tryz.sizeOf3;have h1:∀ (n:Nat) (x:Int),(Instr.checkKey e (n+1) 3 (I x)).run Tryz.prog w = .ok () w:=fun n x=>MapKept.run_checkKey u3 (show MapKept.IsKey (.int .i64) (I x) from rfl) e n;have key:∀ n:Nat,(Instr.checkKey e (n+1+1) 121 (encSpt k)).run Tryz.prog w = .ok () w:=by
      intro n;rw [Instr.checkKey];simp only [Sem.run_bind,run_underlying Tryz.underlying121,Result.andThen_ok];rw [← Array.forIn_toList];simp only [List.forIn_cons,List.forIn_nil]
      go_simp
    exact key 9998
  · rw [run_findKey_eq w (by rw [Tryz.underlying121]),findAskSpt k w es m venc 0 h];rfl
  · simp [Instr.sameBits]
end Go.Proofs.YtbldmjejckjflaaGreat
section
set_option maxRecDepth 100000
set_option maxHeartbeats 16000000
namespace Go.Proofs.YtbldmjejckjflaaGreat
open Go Go.Nm
attribute [local irreducible] gd execOp SL SLD SLT WR
def m_cmp_isNaN_int (x:Int):M Bool :=
  M.pure (x != x)
theorem cmp_isNaN_int_ok {R:List Chunk}  (x:Int)  {r:Bool} (hM:(m_cmp_isNaN_int x).Ends r) (w:World) (H:St w w [] R):Ret Tryz.prog 115 #[I x] w fun v w'=>∃ (y0:Bool),y0=r/\v=B y0/\St w w' [] R:=by
 refine ret_of_W Tryz.func115 rfl rfl rfl ?_;refine kg 11 ?_;refine W.ret ?_;have ab:=M.e_pure hM;exact ⟨_,resE_tmp rfl,⟨(x != x),ab,rfl,H⟩⟩

def m_cmp_Compare_int (x y:Int):M Int :=
  M.bind (m_cmp_isNaN_int x) fun r2 =>
  M.bind (m_cmp_isNaN_int y) fun r3 =>
  bif r2 then (
  bif r3 then (
  M.pure 0)
  else (
  M.pure (-1)))
  else (
  bif r3 then (
  M.pure 1)
  else (
  bif decide (x<y) then (
  M.pure (-1))
  else (
  bif decide (y<x) then (
  M.pure 1)
  else (
  M.pure 0))))
theorem cmp_Compare_int_ok {R:List Chunk}  (x:Int) (y:Int)  {r:Int} (hM:(m_cmp_Compare_int x y).Ends r) (w:World) (H:St w w [] R):Ret Tryz.prog 98 #[I x,I y] w fun v w'=>∃ (y0:Int),y0=r/\v=I y0/\St w w' [] R:=by
 refine ret_of_W Tryz.func98 rfl rfl rfl ?_;refine kg 7 ?_;obtain ⟨ao,al,hM⟩:=M.e_bind hM;refine s_call cf115 [I x] rfl (cmp_isNaN_int_ok x al _ (H.gt 0)) ?_;rintro vq ap ⟨r2,rfl,hvq,ag⟩;subst vq;(try dsimp only at hM);replace H:=H.bk ag;clear ag;refine kg 5 ?_;obtain ⟨aq,am,hM⟩:=M.e_bind hM;refine s_call cf115 [I y] rfl (cmp_isNaN_int_ok y am _ (H.gt 0)) ?_;rintro vq au ⟨r3,rfl,hvq,ag⟩;subst vq;(try dsimp only at hM);replace H:=H.bk ag;clear ag;refine kg 7 ?_;refine W.cond r2 rfl (fun ai=>?_) (fun ai=>?_)
 ·replace hM:=M.e_t hM ai;refine kg 5 ?_;refine W.cond r3 rfl (fun aj=>?_) (fun aj=>?_)
  ·replace hM:=M.e_t hM aj;refine kg 4 ?_;refine W.ret ?_;have ab:=M.e_pure hM;exact ⟨_,resE_tmp rfl,⟨0,ab,rfl,H⟩⟩
  replace hM:=M.e_f hM aj;refine kg 5 ?_;refine W.ret ?_;have ab:=M.e_pure hM;exact ⟨_,resE_tmp rfl,⟨(-1),ab,rfl,H⟩⟩
 replace hM:=M.e_f hM ai;refine kg 6 ?_;refine W.cond r3 rfl (fun ak=>?_) (fun ak=>?_)
 ·replace hM:=M.e_t hM ak;refine kg 4 ?_;refine W.ret ?_;have ab:=M.e_pure hM;exact ⟨_,resE_tmp rfl,⟨1,ab,rfl,H⟩⟩
 replace hM:=M.e_f hM ak;refine kg 8 ?_;refine W.cond (decide (x<y)) rfl (fun ac=>?_) (fun ac=>?_)
 ·replace hM:=M.e_t hM ac;replace ac:=dI ac;refine kg 4 ?_;refine W.ret ?_;have ab:=M.e_pure hM;exact ⟨_,resE_tmp rfl,⟨(-1),ab,rfl,H⟩⟩
 replace hM:=M.e_f hM ac;replace ac:=dI ac;refine kg 8 ?_;refine W.cond (decide (y<x)) rfl (fun ae=>?_) (fun ae=>?_)
 ·replace hM:=M.e_t hM ae;replace ae:=dI ae;refine kg 4 ?_;refine W.ret ?_;have ab:=M.e_pure hM;exact ⟨_,resE_tmp rfl,⟨1,ab,rfl,H⟩⟩
 replace hM:=M.e_f hM ae;replace ae:=dI ae;refine kg 5 ?_;refine W.ret ?_;have ab:=M.e_pure hM;exact ⟨_,resE_tmp rfl,⟨0,ab,rfl,H⟩⟩

def zbD (r_:FRow) (stage:Int):M Int :=
  M.bind (m_cmp_Compare_int r_.stage stage) fun r2 =>
  M.pure r2
theorem zd5 {R:List Chunk}  (r_:FRow) (stage:Int)  {r:Int} (hM:(zbD r_ stage).Ends r) (w:World) (H:St w w [] R):Ret Tryz.prog 97 #[.agg #[I r_.stage,I r_.carry],I stage] w fun v w'=>∃ (y0:Int),y0=r/\v=I y0/\St w w' [] R:=by
 refine ret_of_W Tryz.func97 rfl rfl rfl ?_;refine kg 2 ?_;refine t_bx [I r_.stage,I r_.carry] H rfl ?_;intro ag ai H;refine kg 7 ?_;obtain ⟨aj,ac,hM⟩:=M.e_bind hM;refine s_call cf98 [I r_.stage,I stage] rfl (cmp_Compare_int_ok r_.stage stage ac _ (H.gt 1)) ?_;rintro vq ak ⟨r2,rfl,hvq,ab⟩;subst vq;(try dsimp only at hM);replace H:=H.bk ab;clear ab;refine kg 2 ?_;refine W.ret ?_;have ae:=M.e_pure hM;exact ⟨_,resE_tmp rfl,⟨r2,ae,rfl,(H.pk [])⟩⟩

def zcE (x:List FRow) (target:Int):(Int × Int)->M ((Int × Int) ⊕ Int):=fun (i,j) =>
  bif decide (i<j) then (
  M.grd (decide ((-9223372036854775808:Int)<=(i+j))&&decide ((i+j)<=(9223372036854775807:Int))) <|
  M.grd (decide ((0:Int)<=(i+j))&&decide ((i+j)<=(9223372036854775807:Int))) <|
  M.grd (decide ((0:Int)<=((i+j) / 2))&&decide (((i+j) / 2)<=(9223372036854775807:Int))) <|
  M.grd (decide ((0:Int)<=((i+j) / 2))&&decide (((i+j) / 2)<(x.length:Int))) <|
  M.bind (zbD (x.getD (Int.toNat ((i+j) / 2)) default) target) fun r2 =>
  bif decide (r2<0) then (
  M.pure (.inl (((i+j) / 2)+1,j)))
  else (
  M.pure (.inl (i,(i+j) / 2))))
  else (
  M.pure (.inr i))
def zcu (x:List FRow) (target:Int):M (Int × Bool) :=
  M.bind (M.iter (zcE x target) (0,(x.length:Int))) fun i2 =>
  M.grd ((!(decide (i2<(x.length:Int)))||(decide ((0:Int)<=i2)&&decide (i2<(x.length:Int))))) <|
  M.bind (M.opt (decide (i2<(x.length:Int))) (zbD (x.getD (Int.toNat i2) default) target) 0) fun r3 =>
  M.pure (i2,((decide (i2<(x.length:Int)))&&(r3==0)))
theorem zeu {R:List Chunk} {al:Cells} {ae:Value} (x:List FRow) (target:Int) (aB:Reads R al) (au:Sl al ae x) {r:(Int × Bool)} (hM:(zcu x target).Ends r) (w:World) (H:St w w [] R):Ret Tryz.prog 96 #[ae,I target,.func (.func 97) #[] #[]] w fun v w'=>∃ (y0:Int) (y1:Bool),(y0,y1)=r/\v = .tuple #[I y0,B y1]/\St w w' [] R:=by
 refine ret_of_W Tryz.func96 rfl rfl rfl ?_;have aC:=(au).len_le;refine kg 19 ?_;obtain ⟨av,ag,aw⟩:=M.e_bind hM;obtain ⟨aD,ag⟩:=M.e_iter ag;refine W.loop (fun m σ W=>∃ (i:Int) (j:Int) (ρ:Env),σ=upds ρ [(0,ae),(1,I target),(2,.func (.func 97) #[] #[]),(8,I (x.length:Int)),(9,I i),(10,I j)]/\M.iterN (zcE x target) m (i,j)=some av/\St w W [] R) ?_ ?_
 ·exact ⟨_,0,(x.length:Int),_,upds_of _ _ ⟨rfl,rfl,rfl,rfl,rfl,rfl,trivial⟩,ag,H⟩
 rintro aE σ aF ⟨i,j,ρ,rfl,am,H⟩;obtain ⟨ao,ap,aG,hM,ai⟩:=M.e_iterN am;simp only [zcE] at hM;clear am;refine kg 7 ?_;refine W.cond (decide (i<j)) rfl (fun ab=>?_) (fun ab=>?_)
 ·replace hM:=M.e_t hM ab;replace ab:=dI ab;obtain ⟨aH,hM⟩:=M.e_gd hM;obtain ⟨aI,hM⟩:=M.e_gd hM;refine kg 7 ?_;refine s_val (x_convU (kd:=.i64) (a:=i+j) Tryz.underlying3 Tryz.underlying176 rfl (by omega))<|s_val (x_ushr1 (a:=i+j) rfl rfl) ?_;obtain ⟨aJ,hM⟩:=M.e_gd hM;refine s_val (x_conv64 (kd:=.u64) (a:=(i+j) / 2) Tryz.underlying176 Tryz.underlying3 rfl (by omega)) ?_;obtain ⟨aK,hM⟩:=M.e_gd hM;refine kg 10 ?_;obtain ⟨aL,ax,hM⟩:=M.e_bind hM;refine s_callv (f:=97) rfl cf97 [.agg #[I ((x.getD (Int.toNat ((i+j) / 2)) default).stage),I ((x.getD (Int.toNat ((i+j) / 2)) default).carry)],I target] rfl (zd5 (x.getD (Int.toNat ((i+j) / 2)) default) target ax _ (H.gt 0)) ?_
  rintro vq aM ⟨r2,rfl,hvq,aq⟩;subst vq;(try dsimp only at hM);replace H:=H.bk aq;clear aq;refine kg 2 ?_;refine W.cond (decide (r2<0)) rfl (fun ac=>?_) (fun ac=>?_)
  ·replace hM:=M.e_t hM ac;replace ac:=dI ac;refine kg 5 ?_;exact ⟨ao,ap,((i+j) / 2)+1,j,_,upds_of _ _ ⟨rfl,rfl,rfl,rfl,rfl,rfl,trivial⟩,M.e_inl hM ai,H⟩
  replace hM:=M.e_f hM ac;replace ac:=dI ac;refine kg 4 ?_;exact ⟨ao,ap,i,(i+j) / 2,_,upds_of _ _ ⟨rfl,rfl,rfl,rfl,rfl,rfl,trivial⟩,M.e_inl hM ai,H⟩
 replace hM:=M.e_f hM ab;replace ab:=dI ab;refine W.exit ?_;have ay:=M.e_inr hM ai;subst ay;replace hM:=aw;(try dsimp only at hM);obtain ⟨aj,hM⟩:=M.e_grd hM;replace aj:=M.imp_of aj;simp only [Bool.and_eq_true,decide_eq_true_eq] at aj;refine kg 13 ?_;obtain ⟨r3,az,hM⟩:=M.e_bind hM;refine t_gcallv (cap:=[]) (decide (i<(x.length:Int))) (gy_t rfl) cf97 (fun hg=>(gd_of hg (.func (.func 97) #[] #[]))) (I r3) (fun _=>[.agg #[I ((x.getD (Int.toNat i) default).stage),I ((x.getD (Int.toNat i) default).carry)],I target]) (fun hg=>lst2 (gd_of hg (.agg #[I ((x.getD (Int.toNat i) default).stage),I ((x.getD (Int.toNat i) default).carry)])) (gd_of hg (I target))) H (fun hg=>(zd5 (x.getD (Int.toNat i) default) target (M.e_opt az hg) _ (H.give (A:=[]) rfl)).mono fun v_ w_ ⟨y_,ak,aA,H_⟩=>by subst ak; exact ⟨aA,H.via H_⟩) ?_;intro aN H;refine kg 1 ?_;refine s_val (x_pand (b:=decide (i<(x.length:Int))) (r:=r3==0) rfl (fun hb=>gd_of (c:=decide (i<(x.length:Int))) (by first | exact hb | (rw [hb]; rfl) | simp_all) (B (r3==0))) rfl) ?_;refine kg 3 ?_;refine W.ret ?_;have ak:=M.e_pure hM;exact ⟨_,resE_tmp2 rfl,⟨i,((decide (i<(x.length:Int)))&&(r3==0)),ak,rfl,H⟩⟩

def zaa (ab:List Sect) (ac:List Mrk) (ae:List Rch) (x:Spot):M Int :=
  M.grd (decide ((0:Int)<=x.sec)&&decide (x.sec<(ab.length:Int))) <|
  M.bind (zcu ((ab.getD (Int.toNat x.sec) default).rows) x.stage) fun (r0,r1) =>
  bif r1 then (
  M.grd (decide ((0:Int)<=r0)&&decide (r0<(((ab.getD (Int.toNat x.sec) default).rows).length:Int))) <|
  M.pure ((((ab.getD (Int.toNat x.sec) default).rows).getD (Int.toNat r0) default).carry))
  else (
  bif r0==(((ab.getD (Int.toNat x.sec) default).rows).length:Int) then (
  M.grd (decide ((-9223372036854775808:Int)<=(r0-1))&&decide ((r0-1)<=(9223372036854775807:Int))) <|
  M.grd (decide ((0:Int)<=(r0-1))&&decide ((r0-1)<(((ab.getD (Int.toNat x.sec) default).rows).length:Int))) <|
  M.pure ((((ab.getD (Int.toNat x.sec) default).rows).getD (Int.toNat (r0-1)) default).carry))
  else (
  bif decide (0<r0) then (
  M.grd (decide ((-9223372036854775808:Int)<=(r0-1))&&decide ((r0-1)<=(9223372036854775807:Int))) <|
  M.grd (decide ((0:Int)<=(r0-1))&&decide ((r0-1)<(((ab.getD (Int.toNat x.sec) default).rows).length:Int))) <|
  M.grd (decide ((0:Int)<=r0)&&decide (r0<(((ab.getD (Int.toNat x.sec) default).rows).length:Int))) <|
  M.grd (decide ((-9223372036854775808:Int)<=(((((ab.getD (Int.toNat x.sec) default).rows).getD (Int.toNat r0) default).carry)-((((ab.getD (Int.toNat x.sec) default).rows).getD (Int.toNat (r0-1)) default).carry)))&&decide ((((((ab.getD (Int.toNat x.sec) default).rows).getD (Int.toNat r0) default).carry)-((((ab.getD (Int.toNat x.sec) default).rows).getD (Int.toNat (r0-1)) default).carry))<=(9223372036854775807:Int))) <|
  M.grd (decide ((-9223372036854775808:Int)<=(x.stage-((((ab.getD (Int.toNat x.sec) default).rows).getD (Int.toNat (r0-1)) default).stage)))&&decide ((x.stage-((((ab.getD (Int.toNat x.sec) default).rows).getD (Int.toNat (r0-1)) default).stage))<=(9223372036854775807:Int))) <|
  M.grd (decide ((-9223372036854775808:Int)<=((((((ab.getD (Int.toNat x.sec) default).rows).getD (Int.toNat r0) default).carry)-((((ab.getD (Int.toNat x.sec) default).rows).getD (Int.toNat (r0-1)) default).carry))*(x.stage-((((ab.getD (Int.toNat x.sec) default).rows).getD (Int.toNat (r0-1)) default).stage))))&&decide (((((((ab.getD (Int.toNat x.sec) default).rows).getD (Int.toNat r0) default).carry)-((((ab.getD (Int.toNat x.sec) default).rows).getD (Int.toNat (r0-1)) default).carry))*(x.stage-((((ab.getD (Int.toNat x.sec) default).rows).getD (Int.toNat (r0-1)) default).stage)))<=(9223372036854775807:Int))) <|
  M.grd (decide ((-9223372036854775808:Int)<=(((((ab.getD (Int.toNat x.sec) default).rows).getD (Int.toNat r0) default).stage)-((((ab.getD (Int.toNat x.sec) default).rows).getD (Int.toNat (r0-1)) default).stage)))&&decide ((((((ab.getD (Int.toNat x.sec) default).rows).getD (Int.toNat r0) default).stage)-((((ab.getD (Int.toNat x.sec) default).rows).getD (Int.toNat (r0-1)) default).stage))<=(9223372036854775807:Int))) <|
  M.grd (decide (0<=((((((ab.getD (Int.toNat x.sec) default).rows).getD (Int.toNat r0) default).carry)-((((ab.getD (Int.toNat x.sec) default).rows).getD (Int.toNat (r0-1)) default).carry))*(x.stage-((((ab.getD (Int.toNat x.sec) default).rows).getD (Int.toNat (r0-1)) default).stage))))&&decide (((((((ab.getD (Int.toNat x.sec) default).rows).getD (Int.toNat r0) default).carry)-((((ab.getD (Int.toNat x.sec) default).rows).getD (Int.toNat (r0-1)) default).carry))*(x.stage-((((ab.getD (Int.toNat x.sec) default).rows).getD (Int.toNat (r0-1)) default).stage)))<=(9223372036854775807:Int))&&decide ((0:Int)<(((((ab.getD (Int.toNat x.sec) default).rows).getD (Int.toNat r0) default).stage)-((((ab.getD (Int.toNat x.sec) default).rows).getD (Int.toNat (r0-1)) default).stage)))) <|
  M.grd (decide ((-9223372036854775808:Int)<=(((((ab.getD (Int.toNat x.sec) default).rows).getD (Int.toNat (r0-1)) default).carry)+(((((((ab.getD (Int.toNat x.sec) default).rows).getD (Int.toNat r0) default).carry)-((((ab.getD (Int.toNat x.sec) default).rows).getD (Int.toNat (r0-1)) default).carry))*(x.stage-((((ab.getD (Int.toNat x.sec) default).rows).getD (Int.toNat (r0-1)) default).stage))) / (((((ab.getD (Int.toNat x.sec) default).rows).getD (Int.toNat r0) default).stage)-((((ab.getD (Int.toNat x.sec) default).rows).getD (Int.toNat (r0-1)) default).stage)))))&&decide ((((((ab.getD (Int.toNat x.sec) default).rows).getD (Int.toNat (r0-1)) default).carry)+(((((((ab.getD (Int.toNat x.sec) default).rows).getD (Int.toNat r0) default).carry)-((((ab.getD (Int.toNat x.sec) default).rows).getD (Int.toNat (r0-1)) default).carry))*(x.stage-((((ab.getD (Int.toNat x.sec) default).rows).getD (Int.toNat (r0-1)) default).stage))) / (((((ab.getD (Int.toNat x.sec) default).rows).getD (Int.toNat r0) default).stage)-((((ab.getD (Int.toNat x.sec) default).rows).getD (Int.toNat (r0-1)) default).stage))))<=(9223372036854775807:Int))) <|
  M.pure (((((ab.getD (Int.toNat x.sec) default).rows).getD (Int.toNat (r0-1)) default).carry)+(((((((ab.getD (Int.toNat x.sec) default).rows).getD (Int.toNat r0) default).carry)-((((ab.getD (Int.toNat x.sec) default).rows).getD (Int.toNat (r0-1)) default).carry))*(x.stage-((((ab.getD (Int.toNat x.sec) default).rows).getD (Int.toNat (r0-1)) default).stage))) / (((((ab.getD (Int.toNat x.sec) default).rows).getD (Int.toNat r0) default).stage)-((((ab.getD (Int.toNat x.sec) default).rows).getD (Int.toNat (r0-1)) default).stage)))))
  else (
  M.pure 0)))
theorem zds {R:List Chunk} {aA:Nat} {aB:Cells} {aC:Value} {aD:Cells} {aE:Value} {aF:Cells} {aG:Value} {ai:Nat} (ab:List Sect) (aq:List Mrk) (au:List Rch) (x:Spot) (aH:Reads R aB) (aL:Sl aB aC ab) (aP:Reads R aD) (aQ:Sl aD aE aq) (aR:Reads R aF) (aS:Sl aF aG au) (aT:Has R (cBlk aA [aC,aE,aG,.map (some ai)] 163)) {r:Int} (hM:(zaa ab aq au x).Ends r) (w:World) (H:St w w [cMemI encSpt ai (zaa ab aq au)] R):Ret Tryz.prog 59 #[Pq aA,.agg #[I x.sec,I x.stage]] w fun v w'=>∃ (y0:Int),y0=r/\v=I y0/\St w w' [cMemI encSpt ai (zaa ab aq au)] R:=by
 refine ret_of_W Tryz.func59 rfl rfl rfl ?_;have hM0:=hM;obtain ⟨ae,H,ak⟩:=St.memOpenI H (i:=0) rfl;replace H:=H.nf;cases av:ae x with
 | none =>
  refine kg 2 ?_;refine t_bx [I x.sec,I x.stage] H rfl ?_;intro ag aU H;refine kg 4 ?_;refine W.draw (fun W=>St w W [cBlk ag [I x.sec,I x.stage] 121] R) [(0,true),(1,true),(2,true),(3,true),(4,true),(5,false),(6,true),(7,true),(8,true),(9,true),(10,true)] mixed (by decide +kernel) rfl ?_;intro aV ac;replace H:=H.ext ac;clear ac;refine ⟨(H.pk [0]),?_⟩;refine kg 5 ?_;refine d_l rfl<|s_val (q_look (kenc:=encSpt) (venc:=I) (f:=ae) (k:=x) (z:=I 0) (v:=.tuple #[I 0,B false]) keySpot Tryz.underlying161 Al3 rfl rfl (H.get (k:=1) rfl) true (by simp [av])) ?_
  refine s_nil ⟨(H.pk [0]),?_⟩;refine kg 10 ?_;refine W.cond false rfl (fun aI=>?_) (fun aI=>?_)
  ·skip
   exact absurd aI (by decide)
  skip
  refine kg 2 ?_;refine W.draw (fun W=>St w W [cBlk ag [I x.sec,I x.stage] 121,cMap encSpt I ai ae] R) [(0,true),(1,true),(2,true),(3,true),(4,true),(5,true),(6,true),(7,true),(8,true),(9,true),(10,true)] mixed (by decide +kernel) rfl ?_;intro aW ac;replace H:=H.ext ac;clear ac;refine ⟨(H.pk [0,1]),?_⟩;obtain ⟨aX,hM⟩:=M.e_gd hM;refine kg 9 ?_;obtain ⟨aw,aM,ao⟩:=Sect_at1 aL (i:=x.sec) (by omega) (by omega);replace ao:Sl _ aw (ab.getD (Int.toNat x.sec) default).rows:=ao;have aY:=ao.len_le;refine d_q rfl (fun w' H=>x_ld (v:=aw) rfl (ld_sc Sc37 (At.mono (aM) (aH.at H)))) ?_;refine kg 7 ?_;obtain ⟨aZ,aN,hM⟩:=M.e_bind hM;refine s_call cf96 [aw,I x.stage,.func (.func 97) #[] #[]] rfl (zeu ((ab.getD (Int.toNat x.sec) default).rows) x.stage (aH.app _) ao aN _ (H.gt 2)) ?_;rintro vq a6 ⟨r0,r1,rfl,hvq,aJ⟩;subst vq;(try dsimp only at hM);replace H:=H.bk aJ;clear aJ;refine kg 17 ?_;refine W.cond r1 rfl (fun ax=>?_) (fun ax=>?_)
  ·replace hM:=M.e_t hM ax;obtain ⟨a7,hM⟩:=M.e_gd hM;refine kg 9 ?_;refine W.draw (fun W=>St w W [cBlk ag [I x.sec,I x.stage] 121] R) [(0,true),(1,true),(2,true),(3,true),(4,true),(5,true),(6,false)] mixed (by decide +kernel) rfl ?_;intro a8 ac;replace H:=H.ext ac;clear ac;refine ⟨(H.pk [0]),?_⟩;refine kg 6 ?_;refine d_l rfl ?_;refine t_mapu (i:=1) (kenc:=encSpt) (venc:=I) (f:=ae) (k:=x) (v:=(((ab.getD (Int.toNat x.sec) default).rows).getD (Int.toNat r0) default).carry) (L':=[cBlk ag [I x.sec,I x.stage] 121,cMap encSpt I ai (updF ae x ((((ab.getD (Int.toNat x.sec) default).rows).getD (Int.toNat r0) default).carry))]) keySpot Tryz.underlying161 H rfl rfl rfl rfl rfl ?_;intro ba H;refine s_nil ⟨(H.pk [0]),?_⟩;refine kg 6 ?_;refine W.ret ?_;replace H:=St.memShutI H (i:=1) rfl (memIput ak (by rw [M.e_pure hM]; exact hM0));replace H:=H.nf;have aj:=M.e_pure hM;exact ⟨_,resE_tmp rfl,⟨((((ab.getD (Int.toNat x.sec) default).rows).getD (Int.toNat r0) default).carry),aj,rfl,(H.pk [1])⟩⟩
  replace hM:=M.e_f hM ax;have bb:=(ao).len_le;refine kg 8 ?_;refine W.cond (r0==(((ab.getD (Int.toNat x.sec) default).rows).length:Int)) rfl (fun al=>?_) (fun al=>?_)
  ·replace hM:=M.e_t hM al;replace al:=dI al;obtain ⟨bc,hM⟩:=M.e_gd hM;obtain ⟨bf,hM⟩:=M.e_gd hM;refine kg 10 ?_;refine W.draw (fun W=>St w W [cBlk ag [I x.sec,I x.stage] 121] R) [(0,true),(1,true),(2,true),(3,true),(4,true),(5,true),(6,false)] mixed (by decide +kernel) rfl ?_;intro bg ac;replace H:=H.ext ac;clear ac;refine ⟨(H.pk [0]),?_⟩;refine kg 6 ?_;refine d_l rfl ?_;refine t_mapu (i:=1) (kenc:=encSpt) (venc:=I) (f:=ae) (k:=x) (v:=(((ab.getD (Int.toNat x.sec) default).rows).getD (Int.toNat (r0-1)) default).carry) (L':=[cBlk ag [I x.sec,I x.stage] 121,cMap encSpt I ai (updF ae x ((((ab.getD (Int.toNat x.sec) default).rows).getD (Int.toNat (r0-1)) default).carry))]) keySpot Tryz.underlying161 H rfl rfl rfl rfl rfl ?_;intro bh H;refine s_nil ⟨(H.pk [0]),?_⟩;refine kg 6 ?_;refine W.ret ?_;replace H:=St.memShutI H (i:=1) rfl (memIput ak (by rw [M.e_pure hM]; exact hM0));replace H:=H.nf;have aj:=M.e_pure hM;exact ⟨_,resE_tmp rfl,⟨((((ab.getD (Int.toNat x.sec) default).rows).getD (Int.toNat (r0-1)) default).carry),aj,rfl,(H.pk [1])⟩⟩
  replace hM:=M.e_f hM al;replace al:=dI al;refine kg 6 ?_;refine W.cond (decide (0<r0)) rfl (fun am=>?_) (fun am=>?_)
  ·replace hM:=M.e_t hM am;replace am:=dI am;refine W.seq ?_;refine W.drawT (fun W=>St w W [cBlk ag [I x.sec,I x.stage] 121,cMap encSpt I ai ae] R) (.q 0 (.q 1 (.q 2 (.q 3 (.q 4 (.q 5 (.q 6 (.q 7 (.q 8 (.l2 9 (.l 10 (.l 11 (.l 12 .nil))) 10 (.l 9 (.l 11 (.l 12 .nil))))))))))))) mixed (by decide +kernel) rfl ?_;intro bi ac;replace H:=H.ext ac;clear ac;refine ⟨(H.pk [0,1]),?_⟩;obtain ⟨bj,hM⟩:=M.e_gd hM;obtain ⟨bm,hM⟩:=M.e_gd hM;obtain ⟨bn,hM⟩:=M.e_gd hM;refine kg 9 ?_;refine t_l2 rfl rfl ?_ ?_
   ·skip
    refine t_alloc (cs:=[I 0,I 0]) H Al40 rfl ?_;intro ay bo H;refine s_nil ⟨(H.pk [1,2]),?_⟩;refine t_l rfl ?_;refine t_alloc (cs:=[I 0,I 0]) H Al40 rfl ?_;intro az bp H;refine s_nil ⟨(H.pk [2,3]),?_⟩;refine t_l rfl ?_;refine t_sw 1 0 [I ((((ab.getD (Int.toNat x.sec) default).rows).getD (Int.toNat (r0-1)) default).stage),I ((((ab.getD (Int.toNat x.sec) default).rows).getD (Int.toNat (r0-1)) default).carry)] (.agg #[I ((((ab.getD (Int.toNat x.sec) default).rows).getD (Int.toNat (r0-1)) default).stage),I ((((ab.getD (Int.toNat x.sec) default).rows).getD (Int.toNat (r0-1)) default).carry)]) H rfl rfl Sz40 rfl rfl rfl rfl ?_;intro br H;refine s_nil ⟨(H.pk [2,3]),?_⟩;refine t_l rfl ?_;refine t_sw 0 0 [I ((((ab.getD (Int.toNat x.sec) default).rows).getD (Int.toNat r0) default).stage),I ((((ab.getD (Int.toNat x.sec) default).rows).getD (Int.toNat r0) default).carry)] (.agg #[I ((((ab.getD (Int.toNat x.sec) default).rows).getD (Int.toNat r0) default).stage),I ((((ab.getD (Int.toNat x.sec) default).rows).getD (Int.toNat r0) default).carry)]) H rfl rfl Sz40 rfl rfl rfl rfl ?_;intro bt H;refine s_nil ⟨(H.pk [2,3]),?_⟩;refine t_nil ?_;refine W.draw (fun W=>St w W [cBlk az [I ((((ab.getD (Int.toNat x.sec) default).rows).getD (Int.toNat r0) default).stage),I ((((ab.getD (Int.toNat x.sec) default).rows).getD (Int.toNat r0) default).carry)] 40,cBlk ay [I ((((ab.getD (Int.toNat x.sec) default).rows).getD (Int.toNat (r0-1)) default).stage),I ((((ab.getD (Int.toNat x.sec) default).rows).getD (Int.toNat (r0-1)) default).carry)] 40,cBlk ag [I x.sec,I x.stage] 121,cMap encSpt I ai ae] R) [(0,true),(1,true),(2,true),(3,true),(4,true),(5,true),(6,true),(7,true),(8,true),(9,true),(10,true),(11,true),(12,true),(13,true),(14,true),(15,true),(16,true),(17,true),(18,true),(19,true),(20,true)] mixed (by decide +kernel) rfl ?_;intro bu ac;replace H:=H.ext ac;clear ac;refine ⟨(H.pk [0,1,2,3]),?_⟩;obtain ⟨bv,hM⟩:=M.e_gd hM;obtain ⟨bw,hM⟩:=M.e_gd hM;obtain ⟨bx,hM⟩:=M.e_gd hM;obtain ⟨bz,hM⟩:=M.e_gd hM;obtain ⟨bA,hM⟩:=M.e_gd hM;obtain ⟨bB,hM⟩:=M.e_gd hM;refine kg 22 ?_;replace H:=H.pk [2,3];refine W.seq ?_;refine W.draw (fun W=>St w W [cBlk ag [I x.sec,I x.stage] 121] R) [(0,true),(1,true),(2,true),(3,true),(4,true),(5,true),(6,false)] mixed (by decide +kernel) rfl ?_;intro bC ac;replace H:=H.ext ac;clear ac;refine ⟨(H.pk [0]),?_⟩;refine kg 6 ?_;refine d_l rfl ?_;refine t_mapu (i:=1) (kenc:=encSpt) (venc:=I) (f:=ae) (k:=x) (v:=((((ab.getD (Int.toNat x.sec) default).rows).getD (Int.toNat (r0-1)) default).carry)+(((((((ab.getD (Int.toNat x.sec) default).rows).getD (Int.toNat r0) default).carry)-((((ab.getD (Int.toNat x.sec) default).rows).getD (Int.toNat (r0-1)) default).carry))*(x.stage-((((ab.getD (Int.toNat x.sec) default).rows).getD (Int.toNat (r0-1)) default).stage))) / (((((ab.getD (Int.toNat x.sec) default).rows).getD (Int.toNat r0) default).stage)-((((ab.getD (Int.toNat x.sec) default).rows).getD (Int.toNat (r0-1)) default).stage)))) (L':=[cBlk ag [I x.sec,I x.stage] 121,cMap encSpt I ai (updF ae x (((((ab.getD (Int.toNat x.sec) default).rows).getD (Int.toNat (r0-1)) default).carry)+(((((((ab.getD (Int.toNat x.sec) default).rows).getD (Int.toNat r0) default).carry)-((((ab.getD (Int.toNat x.sec) default).rows).getD (Int.toNat (r0-1)) default).carry))*(x.stage-((((ab.getD (Int.toNat x.sec) default).rows).getD (Int.toNat (r0-1)) default).stage))) / (((((ab.getD (Int.toNat x.sec) default).rows).getD (Int.toNat r0) default).stage)-((((ab.getD (Int.toNat x.sec) default).rows).getD (Int.toNat (r0-1)) default).stage)))))]) keySpot Tryz.underlying161 H rfl rfl rfl rfl rfl ?_;intro bD H;refine s_nil ⟨(H.pk [0]),?_⟩;refine kg 6 ?_;refine W.ret ?_;replace H:=St.memShutI H (i:=1) rfl (memIput ak (by rw [M.e_pure hM]; exact hM0));replace H:=H.nf;have aj:=M.e_pure hM;exact ⟨_,resE_tmp rfl,⟨(((((ab.getD (Int.toNat x.sec) default).rows).getD (Int.toNat (r0-1)) default).carry)+(((((((ab.getD (Int.toNat x.sec) default).rows).getD (Int.toNat r0) default).carry)-((((ab.getD (Int.toNat x.sec) default).rows).getD (Int.toNat (r0-1)) default).carry))*(x.stage-((((ab.getD (Int.toNat x.sec) default).rows).getD (Int.toNat (r0-1)) default).stage))) / (((((ab.getD (Int.toNat x.sec) default).rows).getD (Int.toNat r0) default).stage)-((((ab.getD (Int.toNat x.sec) default).rows).getD (Int.toNat (r0-1)) default).stage)))),aj,rfl,(H.pk [1])⟩⟩
   skip
   refine t_alloc (cs:=[I 0,I 0]) H Al40 rfl ?_;intro az bE H;refine s_nil ⟨(H.pk [1,2]),?_⟩;refine t_l rfl ?_;refine t_alloc (cs:=[I 0,I 0]) H Al40 rfl ?_;intro ay bF H;refine s_nil ⟨(H.pk [2,3]),?_⟩;refine t_l rfl ?_;refine t_sw 0 0 [I ((((ab.getD (Int.toNat x.sec) default).rows).getD (Int.toNat (r0-1)) default).stage),I ((((ab.getD (Int.toNat x.sec) default).rows).getD (Int.toNat (r0-1)) default).carry)] (.agg #[I ((((ab.getD (Int.toNat x.sec) default).rows).getD (Int.toNat (r0-1)) default).stage),I ((((ab.getD (Int.toNat x.sec) default).rows).getD (Int.toNat (r0-1)) default).carry)]) H rfl rfl Sz40 rfl rfl rfl rfl ?_;intro bG H;refine s_nil ⟨(H.pk [2,3]),?_⟩;refine t_l rfl ?_;refine t_sw 1 0 [I ((((ab.getD (Int.toNat x.sec) default).rows).getD (Int.toNat r0) default).stage),I ((((ab.getD (Int.toNat x.sec) default).rows).getD (Int.toNat r0) default).carry)] (.agg #[I ((((ab.getD (Int.toNat x.sec) default).rows).getD (Int.toNat r0) default).stage),I ((((ab.getD (Int.toNat x.sec) default).rows).getD (Int.toNat r0) default).carry)]) H rfl rfl Sz40 rfl rfl rfl rfl ?_;intro bH H;refine s_nil ⟨(H.pk [2,3]),?_⟩;refine t_nil ?_;refine W.draw (fun W=>St w W [cBlk ay [I ((((ab.getD (Int.toNat x.sec) default).rows).getD (Int.toNat (r0-1)) default).stage),I ((((ab.getD (Int.toNat x.sec) default).rows).getD (Int.toNat (r0-1)) default).carry)] 40,cBlk az [I ((((ab.getD (Int.toNat x.sec) default).rows).getD (Int.toNat r0) default).stage),I ((((ab.getD (Int.toNat x.sec) default).rows).getD (Int.toNat r0) default).carry)] 40,cBlk ag [I x.sec,I x.stage] 121,cMap encSpt I ai ae] R) [(0,true),(1,true),(2,true),(3,true),(4,true),(5,true),(6,true),(7,true),(8,true),(9,true),(10,true),(11,true),(12,true),(13,true),(14,true),(15,true),(16,true),(17,true),(18,true),(19,true),(20,true)] mixed (by decide +kernel) rfl ?_;intro bI ac;replace H:=H.ext ac;clear ac;refine ⟨(H.pk [0,1,2,3]),?_⟩;obtain ⟨bJ,hM⟩:=M.e_gd hM;obtain ⟨bK,hM⟩:=M.e_gd hM;obtain ⟨bL,hM⟩:=M.e_gd hM;obtain ⟨bM,hM⟩:=M.e_gd hM;obtain ⟨bN,hM⟩:=M.e_gd hM;obtain ⟨bO,hM⟩:=M.e_gd hM;refine kg 22 ?_;replace H:=H.pk [2,3];refine W.seq ?_;refine W.draw (fun W=>St w W [cBlk ag [I x.sec,I x.stage] 121] R) [(0,true),(1,true),(2,true),(3,true),(4,true),(5,true),(6,false)] mixed (by decide +kernel) rfl ?_;intro bP ac;replace H:=H.ext ac;clear ac;refine ⟨(H.pk [0]),?_⟩;refine kg 6 ?_;refine d_l rfl ?_;refine t_mapu (i:=1) (kenc:=encSpt) (venc:=I) (f:=ae) (k:=x) (v:=((((ab.getD (Int.toNat x.sec) default).rows).getD (Int.toNat (r0-1)) default).carry)+(((((((ab.getD (Int.toNat x.sec) default).rows).getD (Int.toNat r0) default).carry)-((((ab.getD (Int.toNat x.sec) default).rows).getD (Int.toNat (r0-1)) default).carry))*(x.stage-((((ab.getD (Int.toNat x.sec) default).rows).getD (Int.toNat (r0-1)) default).stage))) / (((((ab.getD (Int.toNat x.sec) default).rows).getD (Int.toNat r0) default).stage)-((((ab.getD (Int.toNat x.sec) default).rows).getD (Int.toNat (r0-1)) default).stage)))) (L':=[cBlk ag [I x.sec,I x.stage] 121,cMap encSpt I ai (updF ae x (((((ab.getD (Int.toNat x.sec) default).rows).getD (Int.toNat (r0-1)) default).carry)+(((((((ab.getD (Int.toNat x.sec) default).rows).getD (Int.toNat r0) default).carry)-((((ab.getD (Int.toNat x.sec) default).rows).getD (Int.toNat (r0-1)) default).carry))*(x.stage-((((ab.getD (Int.toNat x.sec) default).rows).getD (Int.toNat (r0-1)) default).stage))) / (((((ab.getD (Int.toNat x.sec) default).rows).getD (Int.toNat r0) default).stage)-((((ab.getD (Int.toNat x.sec) default).rows).getD (Int.toNat (r0-1)) default).stage)))))]) keySpot Tryz.underlying161 H rfl rfl rfl rfl rfl ?_;intro bQ H;refine s_nil ⟨(H.pk [0]),?_⟩;refine kg 6 ?_;refine W.ret ?_;replace H:=St.memShutI H (i:=1) rfl (memIput ak (by rw [M.e_pure hM]; exact hM0));replace H:=H.nf;have aj:=M.e_pure hM;exact ⟨_,resE_tmp rfl,⟨(((((ab.getD (Int.toNat x.sec) default).rows).getD (Int.toNat (r0-1)) default).carry)+(((((((ab.getD (Int.toNat x.sec) default).rows).getD (Int.toNat r0) default).carry)-((((ab.getD (Int.toNat x.sec) default).rows).getD (Int.toNat (r0-1)) default).carry))*(x.stage-((((ab.getD (Int.toNat x.sec) default).rows).getD (Int.toNat (r0-1)) default).stage))) / (((((ab.getD (Int.toNat x.sec) default).rows).getD (Int.toNat r0) default).stage)-((((ab.getD (Int.toNat x.sec) default).rows).getD (Int.toNat (r0-1)) default).stage)))),aj,rfl,(H.pk [1])⟩⟩
  replace hM:=M.e_f hM am;replace am:=dI am;refine kg 2 ?_;refine W.draw (fun W=>St w W [cBlk ag [I x.sec,I x.stage] 121] R) [(0,true),(1,true),(2,true),(3,true),(4,true),(5,true),(6,false)] mixed (by decide +kernel) rfl ?_;intro bR ac;replace H:=H.ext ac;clear ac;refine ⟨(H.pk [0]),?_⟩;refine kg 6 ?_;refine d_l rfl ?_;refine t_mapu (i:=1) (kenc:=encSpt) (venc:=I) (f:=ae) (k:=x) (v:=0) (L':=[cBlk ag [I x.sec,I x.stage] 121,cMap encSpt I ai (updF ae x 0)]) keySpot Tryz.underlying161 H rfl rfl rfl rfl rfl ?_;intro bS H;refine s_nil ⟨(H.pk [0]),?_⟩;refine kg 6 ?_;refine W.ret ?_;replace H:=St.memShutI H (i:=1) rfl (memIput ak (by rw [M.e_pure hM]; exact hM0));replace H:=H.nf;have aj:=M.e_pure hM;exact ⟨_,resE_tmp rfl,⟨0,aj,rfl,(H.pk [1])⟩⟩
 | some ap =>
  have aO:=M.Ends.det (ak x ap av) hM0;subst aO;replace hM:(M.pure ap).Ends ap:=M.i_pure;refine kg 2 ?_;refine t_bx [I x.sec,I x.stage] H rfl ?_;intro ag bT H;refine kg 4 ?_;refine W.draw (fun W=>St w W [cBlk ag [I x.sec,I x.stage] 121] R) [(0,true),(1,true),(2,true),(3,true),(4,true),(5,false),(6,true),(7,true),(8,true),(9,true),(10,true)] mixed (by decide +kernel) rfl ?_;intro bU ac;replace H:=H.ext ac;clear ac;refine ⟨(H.pk [0]),?_⟩;refine kg 5 ?_;refine d_l rfl<|s_val (q_look (kenc:=encSpt) (venc:=I) (f:=ae) (k:=x) (z:=I 0) (v:=.tuple #[I ap,B true]) keySpot Tryz.underlying161 Al3 rfl rfl (H.get (k:=1) rfl) true (by simp [av])) ?_
  refine s_nil ⟨(H.pk [0]),?_⟩;refine kg 10 ?_;refine W.cond true rfl (fun aK=>?_) (fun aK=>?_)
  ·skip
   refine kg 5 ?_;refine W.ret ?_;replace H:=St.memShutI H (i:=1) rfl ak;replace H:=H.nf;have aj:=M.e_pure hM;exact ⟨_,resE_tmp rfl,⟨ap,aj,rfl,(H.pk [1])⟩⟩
  skip
  exact absurd aK (by decide)

def zcV (n:Int):(Int × Int)->M ((Int × Int) ⊕ Int):=fun (low,high) =>
  bif decide (low<high) then (
  M.grd (decide ((-9223372036854775808:Int)<=(high-low))&&decide ((high-low)<=(9223372036854775807:Int))) <|
  M.grd (decide ((-9223372036854775808:Int)<=((high-low)+1))&&decide (((high-low)+1)<=(9223372036854775807:Int))) <|
  M.grd (decide (0<=((high-low)+1))&&decide (((high-low)+1)<=(9223372036854775807:Int))&&decide ((0:Int)<2)) <|
  M.grd (decide ((-9223372036854775808:Int)<=(low+(((high-low)+1) / 2)))&&decide ((low+(((high-low)+1) / 2))<=(9223372036854775807:Int))) <|
  M.grd (decide ((-9223372036854775808:Int)<=((low+(((high-low)+1) / 2))*(low+(((high-low)+1) / 2))))&&decide (((low+(((high-low)+1) / 2))*(low+(((high-low)+1) / 2)))<=(9223372036854775807:Int))) <|
  bif decide (((low+(((high-low)+1) / 2))*(low+(((high-low)+1) / 2)))<=n) then (
  M.pure (.inl (low+(((high-low)+1) / 2),high)))
  else (
  M.grd (decide ((-9223372036854775808:Int)<=((low+(((high-low)+1) / 2))-1))&&decide (((low+(((high-low)+1) / 2))-1)<=(9223372036854775807:Int))) <|
  M.pure (.inl (low,(low+(((high-low)+1) / 2))-1))))
  else (
  M.pure (.inr low))
def zcx (n:Int):M Int :=
  M.bind (M.iter (zcV n) (0,2147483648)) fun low2 =>
  M.pure low2
theorem ze0 {R:List Chunk}  (n:Int)  {r:Int} (hM:(zcx n).Ends r) (w:World) (H:St w w [] R):Ret Tryz.prog 95 #[I n] w fun v w'=>∃ (y0:Int),y0=r/\v=I y0/\St w w' [] R:=by
 refine ret_of_W Tryz.func95 rfl rfl rfl ?_;refine kg 11 ?_;obtain ⟨al,ae,am⟩:=M.e_bind hM;obtain ⟨aq,ae⟩:=M.e_iter ae;refine W.loop (fun m σ W=>∃ (low:Int) (high:Int) (ρ:Env),σ=upds ρ [(0,I n),(3,I low),(4,I high)]/\M.iterN (zcV n) m (low,high)=some al/\St w W [] R) ?_ ?_
 ·exact ⟨_,0,2147483648,_,upds_of _ _ ⟨rfl,rfl,rfl,trivial⟩,ae,H⟩
 rintro au σ av ⟨low,high,ρ,rfl,ai,H⟩;obtain ⟨aj,ak,aw,hM,ag⟩:=M.e_iterN ai;simp only [zcV] at hM;clear ai;refine kg 7 ?_;refine W.cond (decide (low<high)) rfl (fun ab=>?_) (fun ab=>?_)
 ·replace hM:=M.e_t hM ab;replace ab:=dI ab;obtain ⟨ax,hM⟩:=M.e_gd hM;obtain ⟨ay,hM⟩:=M.e_gd hM;obtain ⟨az,hM⟩:=M.e_gd hM;obtain ⟨aA,hM⟩:=M.e_gd hM;obtain ⟨aB,hM⟩:=M.e_gd hM;refine kg 21 ?_;refine W.cond (decide (((low+(((high-low)+1) / 2))*(low+(((high-low)+1) / 2)))<=n)) rfl (fun ac=>?_) (fun ac=>?_)
  ·replace hM:=M.e_t hM ac;replace ac:=dI ac;refine kg 4 ?_;exact ⟨aj,ak,low+(((high-low)+1) / 2),high,_,upds_of _ _ ⟨rfl,rfl,rfl,trivial⟩,M.e_inl hM ag,H⟩
  replace hM:=M.e_f hM ac;replace ac:=dI ac;obtain ⟨aC,hM⟩:=M.e_gd hM;refine kg 5 ?_;exact ⟨aj,ak,low,(low+(((high-low)+1) / 2))-1,_,upds_of _ _ ⟨rfl,rfl,rfl,trivial⟩,M.e_inl hM ag,H⟩
 replace hM:=M.e_f hM ab;replace ab:=dI ab;refine W.exit ?_;have ao:=M.e_inr hM ag;subst ao;replace hM:=am;(try dsimp only at hM);refine kg 5 ?_;refine W.ret ?_;have ap:=M.e_pure hM;exact ⟨_,resE_tmp rfl,⟨low,ap,rfl,H⟩⟩

def zbl (ab:List Sect) (ac:List Mrk) (ae:List Rch) (r_:Rch) (c:Cas) (r3 s a:Int):M Int :=
  M.grd (decide ((0:Int)<=r_.down)&&decide (r_.down<(ab.length:Int))) <|
  M.grd (decide ((0:Int)<=r_.up)&&decide (r_.up<(ab.length:Int))) <|
  M.grd (decide ((-9223372036854775808:Int)<=(((ab.getD (Int.toNat r_.down) default).place)-((ab.getD (Int.toNat r_.up) default).place)))&&decide ((((ab.getD (Int.toNat r_.down) default).place)-((ab.getD (Int.toNat r_.up) default).place))<=(9223372036854775807:Int))) <|
  M.grd (decide ((-9223372036854775808:Int)<=(10000*a))&&decide ((10000*a)<=(9223372036854775807:Int))) <|
  M.grd (decide ((-9223372036854775808:Int)<=((10000*a)*r3))&&decide (((10000*a)*r3)<=(9223372036854775807:Int))) <|
  M.grd (decide ((-9223372036854775808:Int)<=(c.up-c.down))&&decide ((c.up-c.down)<=(9223372036854775807:Int))) <|
  M.grd (decide ((-9223372036854775808:Int)<=(((10000*a)*r3)*(c.up-c.down)))&&decide ((((10000*a)*r3)*(c.up-c.down))<=(9223372036854775807:Int))) <|
  M.grd (decide ((-9223372036854775808:Int)<=(s*c.roughdown))&&decide ((s*c.roughdown)<=(9223372036854775807:Int))) <|
  M.grd (decide ((-9223372036854775808:Int)<=((s*c.roughdown)*(((ab.getD (Int.toNat r_.down) default).place)-((ab.getD (Int.toNat r_.up) default).place))))&&decide (((s*c.roughdown)*(((ab.getD (Int.toNat r_.down) default).place)-((ab.getD (Int.toNat r_.up) default).place)))<=(9223372036854775807:Int))) <|
  M.grd (decide (0<=(((10000*a)*r3)*(c.up-c.down)))&&decide ((((10000*a)*r3)*(c.up-c.down))<=(9223372036854775807:Int))&&decide ((0:Int)<((s*c.roughdown)*(((ab.getD (Int.toNat r_.down) default).place)-((ab.getD (Int.toNat r_.up) default).place))))) <|
  M.bind (zcx ((((10000*a)*r3)*(c.up-c.down)) / ((s*c.roughdown)*(((ab.getD (Int.toNat r_.down) default).place)-((ab.getD (Int.toNat r_.up) default).place))))) fun r4 =>
  M.pure r4
def zbo (ab:List Sect) (ac:List Mrk) (ae:List Rch) (r_:Rch) (c:Cas):M Int :=
  M.bind (zaa ab ac ae (⟨(r_.up:Int),(c.up:Int)⟩:Spot)) fun r2 =>
  M.bind (zaa ab ac ae (⟨(r_.down:Int),(c.down:Int)⟩:Spot)) fun r3 =>
  bif r_.narrow then (
  zbl ab ac ae r_ c r3 c.roughdown r3)
  else (
  zbl ab ac ae r_ c r3 c.roughup r2)
theorem zdP {R:List Chunk} {ak:Nat} {ap:Cells} {aq:Value} {au:Cells} {av:Value} {aw:Cells} {ax:Value} {aj:Nat} (ab:List Sect) (ac:List Mrk) (ae:List Rch) (r_:Rch) (c:Cas) (ay:Reads R ap) (az:Sl ap aq ab) (aA:Reads R au) (aB:Sl au av ac) (aC:Reads R aw) (aD:Sl aw ax ae) (aE:Has R (cBlk ak [aq,av,ax,.map (some aj)] 163)) {r:Int} (hM:(zbo ab ac ae r_ c).Ends r) (w:World) (H:St w w [cMemI encSpt aj (zaa ab ac ae)] R):Ret Tryz.prog 55 #[Pq ak,.agg #[I r_.up,I r_.down,I r_.lo,I r_.hi,B r_.narrow],.agg #[I c.up,I c.down,I c.roughup,I c.roughdown]] w fun v w'=>∃ (y0:Int),y0=r/\v=I y0/\St w w' [cMemI encSpt aj (zaa ab ac ae)] R:=by
 refine ret_of_W Tryz.func55 rfl rfl rfl ?_;refine kg 2 ?_;refine t_bx [I r_.up,I r_.down,I r_.lo,I r_.hi,B r_.narrow] H rfl ?_;intro al aJ H;refine t_bx [I c.up,I c.down,I c.roughup,I c.roughdown] H rfl ?_;intro am aK H;refine kg 3 ?_;refine W.draw (fun W=>St w W [cBlk am [I c.up,I c.down,I c.roughup,I c.roughdown] 36,cBlk al [I r_.up,I r_.down,I r_.lo,I r_.hi,B r_.narrow] 44] R) [(0,true),(1,true),(2,true),(3,true),(4,true),(5,true),(7,true),(8,true),(9,true),(10,true),(11,true),(12,true),(6,false),(13,false),(14,true),(15,true)] mixed (by decide +kernel) rfl ?_;intro aL ag;replace H:=H.ext ag;clear ag;refine ⟨(H.pk [0,1]),?_⟩;refine kg 5 ?_;refine d_q rfl (fun w' H=>x_bld (ps:=[(0,I r_.up),(1,I c.up)]) (zs:=[I 0,I 0]) (L':=[I r_.up,I c.up]) rfl Tryz.underlying121 Al121 rfl (Bd121 Tryz.underlying121) (.cons (cs:=[I r_.up]) rfl rfl rfl rfl rfl<|.cons (cs:=[I c.up]) rfl rfl rfl rfl rfl<|.nil)) ?_;refine kg 5 ?_;refine d_q rfl (fun w' H=>x_bld (ps:=[(0,I r_.down),(1,I c.down)]) (zs:=[I 0,I 0]) (L':=[I r_.down,I c.down]) rfl Tryz.underlying121 Al121 rfl (Bd121 Tryz.underlying121) (.cons (cs:=[I r_.down]) rfl rfl rfl rfl rfl<|.cons (cs:=[I c.down]) rfl rfl rfl rfl rfl<|.nil))<|d_l rfl ?_;obtain ⟨aM,aF,hM⟩:=M.e_bind hM;refine s_call cf59 [Pq ak,.agg #[I r_.up,I c.up]] rfl (zds ab ac ae (⟨(r_.up:Int),(c.up:Int)⟩:Spot) (ay.app _) az (aA.app _) aB (aC.app _) aD (aE.app _) aF _ ((H.pk [2,0,1]).gt 2)) ?_
 rintro vq aN ⟨r2,rfl,hvq,ai⟩;subst vq;(try dsimp only at hM);replace H:=H.pk [2,0,1] |>.bk ai
 clear ai;refine s_nil ⟨(H.pk [1,2]),?_⟩;refine d_l rfl ?_;obtain ⟨aO,aG,hM⟩:=M.e_bind hM;refine s_call cf59 [Pq ak,.agg #[I r_.down,I c.down]] rfl (zds ab ac ae (⟨(r_.down:Int),(c.down:Int)⟩:Spot) (ay.app _) az (aA.app _) aB (aC.app _) aD (aE.app _) aG _ (H.gt 2)) ?_;rintro vq aP ⟨r3,rfl,hvq,ai⟩;subst vq;(try dsimp only at hM);replace H:=H.bk ai;clear ai;refine s_nil ⟨(H.pk [1,2]),?_⟩;refine kg 3 ?_;refine W.seqJ (fun σ W=>∃ (s:Int) (a:Int) (ρ:Env),σ=upds ρ [(0,Pq ak),(4,Pq al),(5,Pq am),(7,I a),(8,I r3)]/\(zbl ab ac ae r_ c r3 s a).Ends r/\St w W [cMemI encSpt aj (zaa ab ac ae),cBlk am [I c.up,I c.down,I s,I c.roughdown] 36,cBlk al [I r_.up,I r_.down,I r_.lo,I r_.hi,B r_.narrow] 44] R) ?_ ?_
 ·skip
  refine kg 5 ?_;refine W.cond r_.narrow rfl (fun ao=>?_) (fun ao=>?_)
  ·replace hM:=M.e_t hM ao;refine W.draw (fun W=>St w W [cMemI encSpt aj (zaa ab ac ae),cBlk al [I r_.up,I r_.down,I r_.lo,I r_.hi,B r_.narrow] 44] R) [(0,true),(1,true),(3,true),(2,false),(4,true),(5,false)] mixed (by decide +kernel) rfl ?_;intro aQ ag;replace H:=H.ext ag;clear ag;refine ⟨(H.pk [0,2]),?_⟩;refine kg 3 ?_;refine d_l rfl ?_;refine kg 1 ?_;refine s_nil ⟨(H.pk [0,2]),?_⟩;refine kg 1 ?_;refine d_l rfl ?_;refine t_sw 1 2 [I c.roughdown] (I c.roughdown) H rfl rfl Sz3 rfl rfl rfl rfl ?_;intro aR H;refine s_nil ⟨(H.pk [0,2]),?_⟩;refine d_nil ?_;exact ⟨c.roughdown,r3,_,upds_of _ _ ⟨rfl,rfl,rfl,rfl,rfl,trivial⟩,hM,H⟩
  replace hM:=M.e_f hM ao;refine W.skip ?_;exact ⟨c.roughup,r2,_,upds_of _ _ ⟨rfl,rfl,rfl,rfl,rfl,trivial⟩,hM,H⟩
 rintro _ aS ⟨s,a,ρ,rfl,hM,H⟩;unfold zbl at hM;refine W.seq ?_;refine W.draw (fun W=>St w W [cMemI encSpt aj (zaa ab ac ae),cBlk am [I c.up,I c.down,I s,I c.roughdown] 36,cBlk al [I r_.up,I r_.down,I r_.lo,I r_.hi,B r_.narrow] 44] R) [(0,true),(1,true),(2,true),(3,true),(4,true),(5,true),(6,true),(7,true),(8,true),(9,true),(10,true),(11,true),(12,true),(13,true),(14,true),(15,true),(16,true),(17,true),(18,true),(19,true),(20,true),(21,true)] mixed (by decide +kernel) rfl ?_;intro aT ag;replace H:=H.ext ag;clear ag;refine ⟨(H.pk [0,1,2]),?_⟩;obtain ⟨aU,hM⟩:=M.e_gd hM;obtain ⟨aV,hM⟩:=M.e_gd hM;obtain ⟨aW,hM⟩:=M.e_gd hM;obtain ⟨aX,hM⟩:=M.e_gd hM;obtain ⟨aY,hM⟩:=M.e_gd hM;obtain ⟨aZ,hM⟩:=M.e_gd hM;obtain ⟨a6,hM⟩:=M.e_gd hM;obtain ⟨a7,hM⟩:=M.e_gd hM;obtain ⟨a8,hM⟩:=M.e_gd hM;obtain ⟨ba,hM⟩:=M.e_gd hM;refine kg 43 ?_;obtain ⟨bb,aH,hM⟩:=M.e_bind hM;refine s_call cf95 [I ((((10000*a)*r3)*(c.up-c.down)) / ((s*c.roughdown)*(((ab.getD (Int.toNat r_.down) default).place)-((ab.getD (Int.toNat r_.up) default).place))))] rfl (ze0 ((((10000*a)*r3)*(c.up-c.down)) / ((s*c.roughdown)*(((ab.getD (Int.toNat r_.down) default).place)-((ab.getD (Int.toNat r_.up) default).place)))) aH _ (H.gt 3)) ?_;rintro vq bc ⟨r4,rfl,hvq,ai⟩;subst vq;(try dsimp only at hM);replace H:=H.bk ai;clear ai;refine kg 2 ?_;replace H:=H.pk [0];refine W.ret ?_;have aI:=M.e_pure hM;exact ⟨_,resE_tmp rfl,⟨r4,aI,rfl,H⟩⟩

def zco  : M Unit :=
  M.pure ()
theorem zdA {R:List Chunk}    {r:Unit} (hM:(zco).Ends r) (w:World) (H:St w w [] R):Ret Tryz.prog 83 #[] w fun v w'=>()=r/\v = .agg #[.func (.func 109) #[] #[]]/\St w w' [] R:=by
 refine ret_of_W Tryz.func83 rfl rfl rfl ?_;refine kg 2 ?_;refine t_alloc (cs:=[.nilFunc]) H Al152 rfl ?_;intro ae ag H;refine kg 3 ?_;refine s_val (x_bld (ps:=[(0,.func (.func 109) #[] #[])]) (zs:=[.nilFunc]) (L':=[.func (.func 109) #[] #[]]) rfl Tryz.underlying152 Al152 rfl (Bd152 Tryz.underlying152) (.cons (cs:=[.func (.func 109) #[] #[]]) rfl rfl rfl rfl rfl<|.nil)) ?_;refine t_sw 0 0 [.func (.func 109) #[] #[]] (.agg #[.func (.func 109) #[] #[]]) H rfl rfl Sz152 rfl rfl rfl rfl ?_;intro ai H;refine s_nil ?_;refine W.ret ?_;have ab:=(H.bl 0)
 have ac:=M.e_pure hM;exact ⟨_,(resE_of1 (v:=.agg #[.func (.func 109) #[] #[]]) rfl (.cell (v:=.agg #[.func (.func 109) #[] #[]]) rfl (run_loadVar_ag (ds:=[.func (.func 109) #[] #[]]) Ag152 Sz152 ab rfl rfl)<|.nil)),⟨ac,rfl,(H.pk [])⟩⟩

def zcg (l:List Int):(Int × Nat)->M ((Int × Nat) ⊕ Int):=fun (first2,s) =>
  bif decide ((s:Int)<(l.length:Int)) then (
  M.grd (decide ((s:Int)<(l.length:Int))) <|
  M.pure (.inl (min first2 (l.getD s 0),s+1)))
  else (
  M.pure (.inr first2))
def zaS (first:Int) (l:List Int):M Int :=
  M.bind (M.iter (zcg l) (first,0)) fun first3 =>
  M.pure first3
theorem zal {R:List Chunk} {ag:Cells} {ac:Value} (first:Int) (l:List Int) (av:Reads R ag) (ak:Sl ag ac l) {r:Int} (hM:(zaS first l).Ends r) (w:World) (H:St w w [] R):Ret Tryz.prog 86 #[I first,ac] w fun v w'=>∃ (y0:Int),y0=r/\v=I y0/\St w w' [] R:=by
 refine ret_of_W Tryz.func86 rfl rfl rfl ?_;have aw:=(ak).len_le;refine kg 12 ?_;obtain ⟨al,ae,am⟩:=M.e_bind hM;obtain ⟨ax,ae⟩:=M.e_iter ae;refine W.loop (fun m σ W=>∃ (first2:Int) (s:Nat) (ρ:Env),σ=upds ρ [(0,I first2),(7,ac),(8,I (l.length:Int)),(9,I (s:Int))]/\M.iterN (zcg l) m (first2,s)=some al/\St w W [] R) ?_ ?_
 ·exact ⟨_,first,0,_,upds_of _ _ ⟨rfl,rfl,rfl,rfl,trivial⟩,ae,H⟩
 rintro ay σ az ⟨first2,s,ρ,rfl,ai,H⟩;obtain ⟨ao,ap,aA,hM,aj⟩:=M.e_iterN ai;simp only [zcg] at hM;clear ai;refine kg 5 ?_;refine W.cond (decide ((s:Int)<(l.length:Int))) rfl (fun ab=>?_) (fun ab=>?_)
 ·replace hM:=M.e_t hM ab;replace ab:=dI ab;obtain ⟨aB,hM⟩:=M.e_gd hM;refine kg 19 ?_;exact ⟨ao,ap,min first2 (l.getD s 0),s+1,_,upds_of _ _ ⟨rfl,rfl,rfl,rfl,trivial⟩,M.e_inl hM aj,H⟩
 replace hM:=M.e_f hM ab;replace ab:=dI ab;refine W.exit ?_;have aq:=M.e_inr hM aj;subst aq;replace hM:=am;(try dsimp only at hM);refine kg 5 ?_;refine W.ret ?_;have au:=M.e_pure hM;exact ⟨_,resE_tmp rfl,⟨first2,au,rfl,H⟩⟩

end Go.Proofs.YtbldmjejckjflaaGreat
end
section
set_option maxRecDepth 100000
set_option maxHeartbeats 16000000
namespace Go.Proofs.YtbldmjejckjflaaGreat
open Go Go.Nm
attribute [local irreducible] gd execOp SL SLD SLT WR
def zck (ae:List Sect) (ab:List Mrk) (marks:List Int) (ac:Int):(Int × Int × Nat)->M ((Int × Int × Nat) ⊕ (Int × Int)):=fun (s2,s3,s4) =>
  bif decide ((s4:Int)<(marks.length:Int)) then (
  M.grd (decide ((s4:Int)<(marks.length:Int))) <|
  M.grd (decide ((0:Int)<=(marks.getD s4 0))&&decide ((marks.getD s4 0)<(ab.length:Int))) <|
  M.grd (decide ((0:Int)<=ac)&&decide (ac<(ae.length:Int))) <|
  bif decide (((ab.getD (Int.toNat (marks.getD s4 0)) default).place)<=((ae.getD (Int.toNat ac) default).place)) then (
  M.bind (zaS s3 ([((ab.getD (Int.toNat (marks.getD s4 0)) default).hi:Int)])) fun r2 =>
  bif decide (((ae.getD (Int.toNat ac) default).place)<=((ab.getD (Int.toNat (marks.getD s4 0)) default).place)) then (
  M.pure (.inl (max s2 ((ab.getD (Int.toNat (marks.getD s4 0)) default).lo),r2,s4+1)))
  else (
  M.pure (.inl (s2,r2,s4+1))))
  else (
  bif decide (((ae.getD (Int.toNat ac) default).place)<=((ab.getD (Int.toNat (marks.getD s4 0)) default).place)) then (
  M.pure (.inl (max s2 ((ab.getD (Int.toNat (marks.getD s4 0)) default).lo),s3,s4+1)))
  else (
  M.pure (.inl (s2,s3,s4+1)))))
  else (
  M.pure (.inr (s2,s3)))
def zaD (ab:List Sect) (ac:List Mrk) (ag:List Rch) (marks:List Int) (ae:Int):M (Int × Int) :=
  M.bind (M.iter (zck ab ac marks ae) (0,2000,0)) fun (s5,s6) =>
  M.pure (s5,s6)
theorem zb9 {R:List Chunk} {av:Nat} {az:Cells} {aA:Value} {aB:Cells} {aC:Value} {aD:Cells} {aE:Value} {aK:Nat} {aF:Cells} {aw:Value} (al:List Sect) (ab:List Mrk) (aG:List Rch) (marks:List Int) (ae:Int) (aS:Reads R az) (aT:Sl az aA al) (aU:Reads R aB) (aV:Sl aB aC ab) (aW:Reads R aD) (aX:Sl aD aE aG) (aY:Has R (cBlk av [aA,aC,aE,.map (some aK)] 163)) (aZ:Reads R aF) (aL:Sl aF aw marks) {r:(Int × Int)} (hM:(zaD al ab aG marks ae).Ends r) (w:World) (H:St w w [] R):Ret Tryz.prog 74 #[Pq av,aw,I ae] w fun v w'=>∃ (y0:Int) (y1:Int),(y0,y1)=r/\v = .agg #[I y0,I y1]/\St w w' [] R:=by
 refine ret_of_W Tryz.func74 rfl rfl rfl ?_;refine kg 2 ?_;refine t_alloc (cs:=[I 0,I 0]) H Al30 rfl ?_;intro am a6 H;refine kg 3 ?_;refine s_val (x_bld (ps:=[(1,I 2000)]) (zs:=[I 0,I 0]) (L':=[I 0,I 2000]) rfl Tryz.underlying30 Al30 rfl (Bd30 Tryz.underlying30) (.cons (cs:=[I 2000]) rfl rfl rfl rfl rfl<|.nil)) ?_;refine t_alloc (cs:=[I 0,I 0]) H Al30 rfl ?_;intro ao a7 H;refine t_sw 0 0 [I 0,I 2000] (.agg #[I 0,I 2000]) H rfl rfl Sz30 rfl rfl rfl rfl ?_;intro a8 H;have ba:=(aL).len_le;refine kg 9 ?_;obtain ⟨aM,ax,aN⟩:=M.e_bind hM;obtain ⟨bb,ax⟩:=M.e_iter ax;refine W.loop (fun m σ W=>∃ (s2:Int) (s3:Int) (s4:Nat) (ρ:Env),σ=upds ρ [(0,Pq av),(2,I ae),(6,Pq am),(7,Pq ao),(12,aw),(13,I (marks.length:Int)),(14,I (s4:Int))]/\M.iterN (zck al ab marks ae) m (s2,s3,s4)=some aM/\St w W [cBlk ao [I s2,I s3] 30,cBlk am [I 0,I 0] 30] R) ?_ ?_
 ·exact ⟨_,0,2000,0,_,upds_of _ _ ⟨rfl,rfl,rfl,rfl,rfl,rfl,rfl,trivial⟩,ax,H⟩
 rintro bc σ bf ⟨s2,s3,s4,ρ,rfl,aH,H⟩;obtain ⟨aq,au,bg,hM,ap⟩:=M.e_iterN aH;simp only [zck] at hM;clear aH;refine kg 5 ?_;refine W.cond (decide ((s4:Int)<(marks.length:Int))) rfl (fun ag=>?_) (fun ag=>?_)
 ·replace hM:=M.e_t hM ag;replace ag:=dI ag;obtain ⟨bh,hM⟩:=M.e_gd hM;obtain ⟨bi,hM⟩:=M.e_gd hM;refine kg 19 ?_;refine t_alloc (cs:=[I 0,I 0,I 0]) H Al32 rfl ?_;intro ay bj H;refine t_sw 0 0 [I ((ab.getD (Int.toNat (marks.getD s4 0)) default).place),I ((ab.getD (Int.toNat (marks.getD s4 0)) default).lo),I ((ab.getD (Int.toNat (marks.getD s4 0)) default).hi)] (.agg #[I ((ab.getD (Int.toNat (marks.getD s4 0)) default).place),I ((ab.getD (Int.toNat (marks.getD s4 0)) default).lo),I ((ab.getD (Int.toNat (marks.getD s4 0)) default).hi)]) H rfl rfl Sz32 rfl rfl rfl rfl ?_;intro bm H;refine kg 3 ?_;refine W.draw (fun W=>St w W [cBlk ay [I ((ab.getD (Int.toNat (marks.getD s4 0)) default).place),I ((ab.getD (Int.toNat (marks.getD s4 0)) default).lo),I ((ab.getD (Int.toNat (marks.getD s4 0)) default).hi)] 32,cBlk ao [I s2,I s3] 30,cBlk am [I 0,I 0] 30] R) [(0,true),(1,true),(2,true),(3,true),(4,true),(5,true),(6,true),(7,true),(8,true),(9,true),(10,true),(11,true)] mixed (by decide +kernel) rfl ?_;intro bn ac;replace H:=H.ext ac;clear ac;refine ⟨(H.pk [0,1,2]),?_⟩;obtain ⟨bo,hM⟩:=M.e_gd hM;refine kg 13 ?_;refine W.cond (decide (((ab.getD (Int.toNat (marks.getD s4 0)) default).place)<=((al.getD (Int.toNat ae) default).place))) rfl (fun ai=>?_) (fun ai=>?_)
  ·replace hM:=M.e_t hM ai;replace ai:=dI ai;refine kg 6 ?_;refine t_bs (α:=Int) T22 [I ((ab.getD (Int.toNat (marks.getD s4 0)) default).hi)] [((ab.getD (Int.toNat (marks.getD s4 0)) default).hi:Int)] H rfl (.cons rfl (Flat.rep_enc _ ((ab.getD (Int.toNat (marks.getD s4 0)) default).hi:Int))<|.nil) rfl rfl rfl ?_;intro aI bp H;obtain ⟨br,aO,hM⟩:=M.e_bind hM;refine s_call cf86 [I s3,aI] rfl (zal s3 ([((ab.getD (Int.toNat (marks.getD s4 0)) default).hi:Int)]) (rdo 0) (H.os 0) aO _ (H.gt 4)) ?_;rintro vq bt ⟨r2,rfl,hvq,aJ⟩;subst vq;(try dsimp only at hM);replace H:=H.bk aJ;clear aJ;refine kg 1 ?_;refine t_sw 2 1 [I r2] (I r2) H rfl rfl Sz3 rfl rfl rfl rfl ?_;intro bu H;refine kg 2 ?_;refine W.draw (fun W=>St w W [cOwn (α:=Int) 3 aI ([((ab.getD (Int.toNat (marks.getD s4 0)) default).hi:Int)]),cBlk ay [I ((ab.getD (Int.toNat (marks.getD s4 0)) default).place),I ((ab.getD (Int.toNat (marks.getD s4 0)) default).lo),I ((ab.getD (Int.toNat (marks.getD s4 0)) default).hi)] 32,cBlk ao [I s2,I r2] 30,cBlk am [I 0,I 0] 30] R) [(0,true),(1,true),(2,true),(3,true),(4,true),(5,true),(6,true),(7,true),(8,true),(9,true),(10,true),(11,true)] mixed (by decide +kernel) rfl ?_;intro bv ac;replace H:=H.ext ac;clear ac;refine ⟨(H.pk [0,1,2,3]),?_⟩;refine kg 13 ?_;refine W.cond (decide (((al.getD (Int.toNat ae) default).place)<=((ab.getD (Int.toNat (marks.getD s4 0)) default).place))) rfl (fun aj=>?_) (fun aj=>?_)
   ·replace hM:=M.e_t hM aj;replace aj:=dI aj;refine kg 8 ?_;refine t_sw 2 0 [I (max s2 ((ab.getD (Int.toNat (marks.getD s4 0)) default).lo))] (I (max s2 ((ab.getD (Int.toNat (marks.getD s4 0)) default).lo))) H rfl rfl Sz3 rfl rfl rfl rfl ?_;intro bw H;refine s_nil ?_;replace H:=H.pk [2,3];refine kg 4 ?_;exact ⟨aq,au,max s2 ((ab.getD (Int.toNat (marks.getD s4 0)) default).lo),r2,s4+1,_,upds_of _ _ ⟨rfl,rfl,rfl,rfl,rfl,rfl,rfl,trivial⟩,M.e_inl hM ap,H⟩
   replace hM:=M.e_f hM aj;replace aj:=dI aj;refine W.skip ?_;replace H:=H.pk [2,3];refine kg 4 ?_;exact ⟨aq,au,s2,r2,s4+1,_,upds_of _ _ ⟨rfl,rfl,rfl,rfl,rfl,rfl,rfl,trivial⟩,M.e_inl hM ap,H⟩
  replace hM:=M.e_f hM ai;replace ai:=dI ai;refine kg 2 ?_;refine W.draw (fun W=>St w W [cBlk ay [I ((ab.getD (Int.toNat (marks.getD s4 0)) default).place),I ((ab.getD (Int.toNat (marks.getD s4 0)) default).lo),I ((ab.getD (Int.toNat (marks.getD s4 0)) default).hi)] 32,cBlk ao [I s2,I s3] 30,cBlk am [I 0,I 0] 30] R) [(0,true),(1,true),(2,true),(3,true),(4,true),(5,true),(6,true),(7,true),(8,true),(9,true),(10,true),(11,true)] mixed (by decide +kernel) rfl ?_;intro bx ac;replace H:=H.ext ac;clear ac;refine ⟨(H.pk [0,1,2]),?_⟩;refine kg 13 ?_;refine W.cond (decide (((al.getD (Int.toNat ae) default).place)<=((ab.getD (Int.toNat (marks.getD s4 0)) default).place))) rfl (fun ak=>?_) (fun ak=>?_)
  ·replace hM:=M.e_t hM ak;replace ak:=dI ak;refine kg 8 ?_;refine t_sw 1 0 [I (max s2 ((ab.getD (Int.toNat (marks.getD s4 0)) default).lo))] (I (max s2 ((ab.getD (Int.toNat (marks.getD s4 0)) default).lo))) H rfl rfl Sz3 rfl rfl rfl rfl ?_;intro bz H;refine kg 5 ?_;exact ⟨aq,au,max s2 ((ab.getD (Int.toNat (marks.getD s4 0)) default).lo),s3,s4+1,_,upds_of _ _ ⟨rfl,rfl,rfl,rfl,rfl,rfl,rfl,trivial⟩,M.e_inl hM ap,(H.pk [1,2])⟩
  replace hM:=M.e_f hM ak;replace ak:=dI ak;refine kg 5 ?_;exact ⟨aq,au,s2,s3,s4+1,_,upds_of _ _ ⟨rfl,rfl,rfl,rfl,rfl,rfl,rfl,trivial⟩,M.e_inl hM ap,(H.pk [1,2])⟩
 replace hM:=M.e_f hM ag;replace ag:=dI ag;refine W.exit ?_;have aP:=M.e_inr hM ap;subst aP;replace hM:=aN;(try dsimp only at hM);refine kg 3 ?_;refine t_sw 1 0 [I s2,I s3] (.agg #[I s2,I s3]) H rfl rfl Sz30 rfl rfl rfl rfl ?_;intro bA H;refine s_nil ?_;refine W.ret ?_;have aQ:=(H.bl 1)
 have aR:=M.e_pure hM;exact ⟨_,(resE_of1 (v:=.agg #[I s2,I s3]) rfl (.cell (v:=.agg #[I s2,I s3]) rfl (run_loadVar_ag (ds:=[I s2,I s3]) Ag30 Sz30 aQ rfl rfl)<|.nil)),⟨s2,s3,aR,rfl,(H.pk [])⟩⟩

def zb8 (a b:Int):M Bool :=
  M.pure (decide (a<b))
theorem zd4 {R:List Chunk}  (a:Int) (b:Int)  {r:Bool} (hM:(zb8 a b).Ends r) (w:World) (H:St w w [] R):Ret Tryz.prog 109 #[I a,I b] w fun v w'=>∃ (y0:Bool),y0=r/\v=B y0/\St w w' [] R:=by
 refine ret_of_W Tryz.func109 rfl rfl rfl ?_;refine kg 11 ?_;refine W.ret ?_;have ab:=M.e_pure hM;exact ⟨_,resE_tmp rfl,⟨(decide (a<b)),ab,rfl,H⟩⟩

def zaV (s:Span):M (Int × Int) :=
  M.pure (s.lo,s.hi)
theorem zdq {R:List Chunk}  (s:Span)  {r:(Int × Int)} (hM:(zaV s).Ends r) (w:World) (H:St w w [] R):Ret Tryz.prog 87 #[.agg #[I s.lo,I s.hi]] w fun v w'=>∃ (y0:Int) (y1:Int) (ab:Nat),(y0,y1)=r/\v = .func (.func 111) #[] #[Pq ab]/\St w w' [cBlk ab [I y0,I y1] 30] R:=by
 refine ret_of_W Tryz.func87 rfl rfl rfl ?_;refine kg 2 ?_;refine t_bx [I s.lo,I s.hi] H rfl ?_;intro ac ag H;refine kg 4 ?_;refine s_val (x_mf (fs:=[]) (cs:=[Pq ac]) rfl rfl) ?_;refine kg 2 ?_;refine W.ret ?_;have ae:=M.e_pure hM;exact ⟨_,resE_tmp rfl,⟨s.lo,s.hi,ac,ae,rfl,H⟩⟩

def zcz {T_:Type} (ab:T_->Int->M (Bool × T_)) (ac:Int):(Int × T_)->M ((Int × T_) ⊕ (T_ ⊕ T_)):=fun (n,t2) =>
  bif decide (n<=ac) then (
  M.bind (ab t2 n) fun (go,t) =>
  bif !go then (
  M.pure (.inr (.inl t)))
  else (
  M.grd (decide ((-9223372036854775808:Int)<=(n+1))&&decide ((n+1)<=(9223372036854775807:Int))) <|
  M.pure (.inl (n+1,t))))
  else (
  M.pure (.inr (.inr t2)))
def za6 {T_:Type} (ab:T_->Int->M (Bool × T_)) (t_:T_) (ac ae:Int):M T_ :=
  M.bind (M.iter (zcz ab ae) (ac,t_)) fun x_=>match x_ with
  | (.inl t3)=>(
  M.pure t3)
  | (.inr t4)=>(
  M.pure t4)
theorem zdm {R:List Chunk} {T_:Type} {Y_:T_->List Chunk->Prop} {ae:Value} {ag:List Chunk} {ai:Nat} (aj:T_->Int->M (Bool × T_)) (t_:T_) (ak:Int) (ac:Int) (ax:YieldC Tryz.prog R arI Y_ ae aj) (ay:Y_ t_ ag) (aF:Has R (cBlk ai [I ak,I ac] 30)) {r:T_} (hM:(za6 aj t_ ak ac).Ends r) (w:World) (H:St w w [cAll ag] R):Ret Tryz.prog 111 #[ae,Pq ai] w fun v w'=>∃ (y0:T_) (Ls0:List Chunk),y0=r/\v = .tuple #[]/\St w w' [cAll Ls0] R/\Y_ y0 Ls0:=by
 refine ret_of_W Tryz.func111 rfl rfl rfl ?_;refine kg 7 ?_;obtain ⟨az,al,aq⟩:=M.e_bind hM;obtain ⟨aG,al⟩:=M.e_iter al;refine W.loop (fun m σ W=>∃ (n:Int) (t2:T_) (Ls_t2:List Chunk) (ρ:Env),σ=upds ρ [(0,ae),(1,Pq ai),(3,I n)]/\M.iterN (zcz aj ac) m (n,t2)=some az/\St w W [cAll Ls_t2] R/\Y_ t2 Ls_t2) ?_ ?_
 ·exact ⟨_,ak,t_,ag,_,upds_of _ _ ⟨rfl,rfl,rfl,trivial⟩,al,H,ay⟩
 rintro aH σ aI ⟨n,t2,Ls_t2,ρ,rfl,au,H,hY_t2⟩;obtain ⟨aA,aB,aJ,hM,am⟩:=M.e_iterN au;simp only [zcz] at hM;clear au;refine kg 8 ?_;refine W.cond (decide (n<=ac)) rfl (fun ab=>?_) (fun ab=>?_)
 ·replace hM:=M.e_t hM ab;replace ab:=dI ab;refine kg 7 ?_;obtain ⟨⟨go,t⟩,aC,hM⟩:=M.e_bind hM;(try dsimp only at hM);refine t_yield (L:=[]) H ax hY_t2 rfl [I n] rfl n Reads.none rfl aC ?_;intro av aK aw H;replace H:=H.nf;refine kg 2 ?_;refine W.cond (!go) rfl (fun ao=>?_) (fun ao=>?_)
  ·replace hM:=M.e_t hM ao;refine W.ret ?_;have aD:=M.e_inr hM am;subst aD;replace hM:=aq;(try dsimp only at hM);have ap:=M.e_pure hM;exact ⟨_,resE_tmp0 rfl,⟨t,av,ap,rfl,H,aw⟩⟩
  replace hM:=M.e_f hM ao;obtain ⟨aL,hM⟩:=M.e_gd hM;refine kg 6 ?_;exact ⟨aA,aB,n+1,t,av,_,upds_of _ _ ⟨rfl,rfl,rfl,trivial⟩,M.e_inl hM am,H,aw⟩
 replace hM:=M.e_f hM ab;replace ab:=dI ab;refine W.exit ?_;have aE:=M.e_inr hM am;subst aE;replace hM:=aq;(try dsimp only at hM);have ap:=M.e_pure hM;exact ⟨_,resE_tmp0 rfl,⟨t2,Ls_t2,ap,rfl,H,hY_t2⟩⟩
def zaM (ab:List Sect) (ac:List Mrk) (ae:List Rch) (r_:Rch) (r0:Int) (r2:Bool):(Int × Int × Int × Int × Int)->Int->M ((Int × Int × Int × Int × Int) ⊕ Unit):=fun (s,s2,s3,s4,s5) x =>
  bif r2 then (
  M.fail)
  else (
  M.bind (zbo ab ac ae r_ (⟨(max r0 x:Int),(x:Int),(r_.hi:Int),(r_.hi:Int)⟩:Cas)) fun r4 =>
  M.bind (M.opt (!(decide ((⟨(s2:Int),(s3:Int),(s4:Int),(s5:Int)⟩:Cas)=(⟨(0:Int),(0:Int),(0:Int),(0:Int)⟩:Cas)))) (zb8 r4 s) false) fun r5 =>
  bif ((decide ((⟨(s2:Int),(s3:Int),(s4:Int),(s5:Int)⟩:Cas)=(⟨(0:Int),(0:Int),(0:Int),(0:Int)⟩:Cas)))||r5) then (
  M.pure (.inl (r4,max r0 x,x,r_.hi,r_.hi)))
  else (
  M.pure (.inl (s,s2,s3,s4,s5))))
def zbf (ab:List Sect) (ac:List Mrk) (ae:List Rch) (marks:List Int) (r_:Rch):M (Int × Int × Int × Int × Int) :=
  M.bind (zaD ab ac ae marks r_.up) fun (r0,r1) =>
  M.bind (zaD ab ac ae marks r_.down) fun (ag,ai) =>
  M.bind (zb8 1 0) fun r2 =>
  bif !r2 then (
  M.bind (zaS ai ([(r1:Int)])) fun r3 =>
  M.bind (zaV (⟨(ag:Int),(r3:Int)⟩:Span)) fun (aj,ak) =>
  M.bind (za6 (M.yl (zaM ab ac ae r_ r0 r2)) (.inl (0,0,0,0,0)) aj ak) fun x_=>match x_ with
  | .inl (s,s2,s3,s4,s5)=>(
  M.pure (s2,s3,s4,s5,s))
  | .inr _=>M.fail)
  else (
  M.fail)
theorem zc0 {R:List Chunk} {ag:Nat} {aZ:Cells} {a6:Value} {a7:Cells} {a8:Value} {ba:Cells} {bb:Value} {ai:Nat} {bc:Cells} {aB:Value} (ab:List Sect) (ac:List Mrk) (ae:List Rch) (marks:List Int) (r_:Rch) (aF:Reads R aZ) (aL:Sl aZ a6 ab) (aG:Reads R a7) (aM:Sl a7 a8 ac) (aH:Reads R ba) (aN:Sl ba bb ae) (aI:Has R (cBlk ag [a6,a8,bb,.map (some ai)] 163)) (aO:Reads R bc) (aS:Sl bc aB marks) {r:(Int × Int × Int × Int × Int)} (hM:(zbf ab ac ae marks r_).Ends r) (w:World) (H:St w w [cMemI encSpt ai (zaa ab ac ae)] R):Ret Tryz.prog 85 #[Pq ag,aB,.agg #[I r_.up,I r_.down,I r_.lo,I r_.hi,B r_.narrow],.agg #[.func (.func 109) #[] #[]]] w fun v w'=>∃ (y0:Int) (y1:Int) (y2:Int) (y3:Int) (y4:Int),(y0,y1,y2,y3,y4)=r/\v = .tuple #[.agg #[I y0,I y1,I y2,I y3],I y4]/\St w w' [cMemI encSpt ai (zaa ab ac ae)] R:=by
 refine ret_of_WD Tryz.func85 rfl rfl rfl ?_;replace H:St w w [cMk ([]),cMemI encSpt ai (zaa ab ac ae)] R:=H.mk0;have bI:=aL.len_le;have bJ:=aM.len_le;have bK:=aN.len_le;have bL:=aS.len_le;unfold zbf at hM;refine WD.seq<|WD.of<|W.region rfl ?_;refine t_b1 (Pq ag) H rfl rfl ?_;intro am bM H;refine t_bx [I r_.up,I r_.down,I r_.lo,I r_.hi,B r_.narrow] H rfl ?_;intro ak bN H;refine t_bx [.func (.func 109) #[] #[]] H rfl ?_;intro al bO H;refine t_alloc (cs:=[I 0,I 0,I 0,I 0]) H Al36 rfl ?_;intro ao bP H;refine kg 2 ?_;refine WD.seq<|WD.of ?_;refine W.drawA (fun W=>St w W [cBlk ao [I 0,I 0,I 0,I 0] 36,cBlk al [.func (.func 109) #[] #[]] 152,cBlk ak [I r_.up,I r_.down,I r_.lo,I r_.hi,B r_.narrow] 44,cBlk am [Pq ag] 107,cMk ([]),cMemI encSpt ai (zaa ab ac ae)] R) [(0,true),(1,true),(2,true),(3,true),(5,true),(6,true),(7,true),(8,true),(4,false),(9,false)] [(10,10,30,[I 0,I 0]),(11,11,30,[I 0,I 0])] (.l 12 (.l 13 .nil)) 2 mixed (by decide +kernel) rfl (by intro x hx; simp only [List.mem_cons,List.not_mem_nil,or_false] at hx; rcases hx with rfl | rfl <;> first | exact ⟨_,_,_,rfl,_,Al30,rfl⟩) (by decide) (by decide) H ?_;refine sa_q (fun aj w_ H=>(St.pick H [0,1,2,3,4,5] (by decide) rfl)) rfl rfl (fun g_ w' H=>x_ld (v:=Pq ag) rfl (ldb_sc Sc107 (H.bl 3) rfl)) ?_;refine sa_q (fun aj w_ H=>(St.pick H [0,1,2,3,4,5] (by decide) rfl)) rfl rfl (fun g_ w' H=>x_mv (v:=aB) rfl) ?_;refine sa_q (fun aj w_ H=>(St.pick H [0,1,2,3,4,5] (by decide) rfl)) rfl rfl (fun g_ w' H=>x_fa (v:=Pq ak) rfl (fa_blk (o:=0) Fd44_0 Sz3)) ?_;refine sa_q (fun aj w_ H=>(St.pick H [0,1,2,3,4,5] (by decide) rfl)) rfl rfl (fun g_ w' H=>x_ld (v:=I r_.up) rfl (ldb_sc Sc3 (H.bl 2) rfl)) ?_;refine sa_q (fun aj w_ H=>(St.pick H [0,1,2,3,4,5] (by decide) rfl)) rfl rfl (fun g_ w' H=>x_ld (v:=Pq ag) rfl (ldb_sc Sc107 (H.bl 3) rfl)) ?_;refine sa_q (fun aj w_ H=>(St.pick H [0,1,2,3,4,5] (by decide) rfl)) rfl rfl (fun g_ w' H=>x_mv (v:=aB) rfl) ?_;refine sa_q (fun aj w_ H=>(St.pick H [0,1,2,3,4,5] (by decide) rfl)) rfl rfl (fun g_ w' H=>x_fa (v:=Oq ak 1) rfl (fa_blk (o:=0) Fd44_1 Sz3)) ?_;refine sa_q (fun aj w_ H=>(St.pick H [0,1,2,3,4,5] (by decide) rfl)) rfl rfl (fun g_ w' H=>x_ld (v:=I r_.down) rfl (ldb_sc Sc3 (H.bl 2) rfl)) ?_;refine sa_l (fun aj w_ H=>(St.pick H [0,1,2,3,4,5] (by decide) rfl)) rfl ?_;intro g_ aj bg H
 replace H:St w bg (cBlk ao [I 0,I 0,I 0,I 0] 36 :: cBlk al [.func (.func 109) #[] #[]] 152 :: cBlk ak [I r_.up,I r_.down,I r_.lo,I r_.hi,B r_.narrow] 44 :: cBlk am [Pq ag] 107 :: cMk ([]) :: cMemI encSpt ai (zaa ab ac ae) :: aj) R:=H;obtain ⟨bQ,bh,hM⟩:=M.e_bind hM;refine s_call cf74 [Pq ag,aB,I r_.up] rfl (zb9 ab ac ae marks r_.up (aF.app _) aL (aG.app _) aM (aH.app _) aN (aI.app _) (aO.app _) aS bh _ (St.give (T:=(cBlk ao [I 0,I 0,I 0,I 0] 36 :: cBlk al [.func (.func 109) #[] #[]] 152 :: cBlk ak [I r_.up,I r_.down,I r_.lo,I r_.hi,B r_.narrow] 44 :: cBlk am [Pq ag] 107 :: cMk ([]) :: cMemI encSpt ai (zaa ab ac ae) :: aj)) H rfl)) ?_;rintro vq bi ⟨r0,r1,rfl,hvq,ap⟩;subst vq;(try dsimp only at hM);replace H:St w bi (cBlk ao [I 0,I 0,I 0,I 0] 36 :: cBlk al [.func (.func 109) #[] #[]] 152 :: cBlk ak [I r_.up,I r_.down,I r_.lo,I r_.hi,B r_.narrow] 44 :: cBlk am [Pq ag] 107 :: cMk ([]) :: cMemI encSpt ai (zaa ab ac ae) :: aj) R:=H.back ap rfl;clear ap;refine s_nil ⟨(St.pick H [0,1,2,3,4,5] (by decide) rfl),_,[cBlk ao [I 0,I 0,I 0,I 0] 36,cBlk al [.func (.func 109) #[] #[]] 152,cBlk ak [I r_.up,I r_.down,I r_.lo,I r_.hi,B r_.narrow] 44,cBlk am [Pq ag] 107,cMk ([]),cMemI encSpt ai (zaa ab ac ae)],mix_upd rfl,H,?_⟩;refine sa_l (fun aj w_ H=>(St.pick H [0,1,2,3,4,5] (by decide) rfl)) rfl ?_;intro g_ aj bj H;replace H:St w bj (cBlk ao [I 0,I 0,I 0,I 0] 36 :: cBlk al [.func (.func 109) #[] #[]] 152 :: cBlk ak [I r_.up,I r_.down,I r_.lo,I r_.hi,B r_.narrow] 44 :: cBlk am [Pq ag] 107 :: cMk ([]) :: cMemI encSpt ai (zaa ab ac ae) :: aj) R:=H;obtain ⟨bR,bm,hM⟩:=M.e_bind hM;refine s_call cf74 [Pq ag,aB,I r_.down] rfl (zb9 ab ac ae marks r_.down (aF.app _) aL (aG.app _) aM (aH.app _) aN (aI.app _) (aO.app _) aS bm _ (St.give (T:=(cBlk ao [I 0,I 0,I 0,I 0] 36 :: cBlk al [.func (.func 109) #[] #[]] 152 :: cBlk ak [I r_.up,I r_.down,I r_.lo,I r_.hi,B r_.narrow] 44 :: cBlk am [Pq ag] 107 :: cMk ([]) :: cMemI encSpt ai (zaa ab ac ae) :: aj)) H rfl)) ?_;rintro vq bn ⟨aq,av,rfl,hvq,ap⟩;subst vq;(try dsimp only at hM);replace H:St w bn (cBlk ao [I 0,I 0,I 0,I 0] 36 :: cBlk al [.func (.func 109) #[] #[]] 152 :: cBlk ak [I r_.up,I r_.down,I r_.lo,I r_.hi,B r_.narrow] 44 :: cBlk am [Pq ag] 107 :: cMk ([]) :: cMemI encSpt ai (zaa ab ac ae) :: aj) R:=H.back ap rfl;clear ap;refine s_nil ⟨(St.pick H [0,1,2,3,4,5] (by decide) rfl),_,[cBlk ao [I 0,I 0,I 0,I 0] 36,cBlk al [.func (.func 109) #[] #[]] 152,cBlk ak [I r_.up,I r_.down,I r_.lo,I r_.hi,B r_.narrow] 44,cBlk am [Pq ag] 107,cMk ([]),cMemI encSpt ai (zaa ab ac ae)],mix_upd rfl,H,?_⟩;refine sa_nil (fun aj w_ H=>(St.pick H [0,1,2,3,4,5] (by decide) rfl)) ?_;intro au ay bo H;replace H:St w bo [cBlk ao [I 0,I 0,I 0,I 0] 36,cBlk al [.func (.func 109) #[] #[]] 152,cBlk ak [I r_.up,I r_.down,I r_.lo,I r_.hi,B r_.narrow] 44,cBlk am [Pq ag] 107,cMk ([]),cMemI encSpt ai (zaa ab ac ae),cBlk au [I 0,I 0] 30,cBlk ay [I 0,I 0] 30] R:=(H)
 refine t_l rfl ?_;refine t_sw 6 0 [I r0,I r1] (.agg #[I r0,I r1]) H rfl rfl Sz30 rfl rfl rfl rfl ?_;intro bS H;refine s_nil ⟨(St.pick H [0,1,2,3,4,5] (by decide) rfl),?_⟩;refine t_l rfl ?_;refine t_sw 7 0 [I aq,I av] (.agg #[I aq,I av]) H rfl rfl Sz30 rfl rfl rfl rfl ?_;intro bT H;refine s_nil ⟨(St.pick H [0,1,2,3,4,5] (by decide) rfl),?_⟩;refine t_nil<|WD.seq<|WD.of ?_;refine W.drawA (fun W=>St w W [cBlk ao [I 0,I 0,I 0,I 0] 36,cBlk al [.func (.func 109) #[] #[]] 152,cBlk ak [I r_.up,I r_.down,I r_.lo,I r_.hi,B r_.narrow] 44,cBlk am [Pq ag] 107,cMk ([]),cMemI encSpt ai (zaa ab ac ae),cBlk au [I r0,I r1] 30,cBlk ay [I aq,I av] 30] R) [(0,true),(1,true),(2,true),(3,true),(4,true),(5,false)] [(6,12,3,[I 0]),(7,13,4,[B false])] (.l 8 (.l 9 .nil)) 2 mixed (by decide +kernel) rfl (by intro x hx; simp only [List.mem_cons,List.not_mem_nil,or_false] at hx; rcases hx with rfl | rfl <;> first | exact ⟨_,_,_,rfl,_,Al3,rfl⟩ | exact ⟨_,_,_,rfl,_,Al4,rfl⟩) (by decide) (by decide) H ?_;refine sa_q (fun aj w_ H=>(St.pick H [0,1,2,3,4,5,6,7] (by decide) rfl)) rfl rfl (fun g_ w' H=>x_fa (v:=Oq ak 2) rfl (fa_blk (o:=0) Fd44_2 Sz30)) ?_;refine sa_q (fun aj w_ H=>(St.pick H [0,1,2,3,4,5,6,7] (by decide) rfl)) rfl rfl (fun g_ w' H=>x_fa (v:=Oq ak 2) rfl (fa_blk (o:=2) Fd30_0 Sz3)) ?_;refine sa_q (fun aj w_ H=>(St.pick H [0,1,2,3,4,5,6,7] (by decide) rfl)) rfl rfl (fun g_ w' H=>x_ld (v:=I r_.lo) rfl (ldb_sc Sc3 (H.bl 2) rfl)) ?_;refine sa_q (fun aj w_ H=>(St.pick H [0,1,2,3,4,5,6,7] (by decide) rfl)) rfl rfl (fun g_ w' H=>x_fa (v:=Pq al) rfl (fa_blk (o:=0) Fd152_0 Sz123)) ?_;refine sa_q (fun aj w_ H=>(St.pick H [0,1,2,3,4,5,6,7] (by decide) rfl)) rfl rfl (fun g_ w' H=>x_ld (v:=.func (.func 109) #[] #[]) rfl (ldb_sc Sc123 (H.bl 1) rfl)) ?_;refine sa_l (fun aj w_ H=>(St.pick H [0,1,2,3,4,5,6,7] (by decide) rfl)) rfl ?_;intro g_ aj bp H
 replace H:St w bp (cBlk ao [I 0,I 0,I 0,I 0] 36 :: cBlk al [.func (.func 109) #[] #[]] 152 :: cBlk ak [I r_.up,I r_.down,I r_.lo,I r_.hi,B r_.narrow] 44 :: cBlk am [Pq ag] 107 :: cMk ([]) :: cMemI encSpt ai (zaa ab ac ae) :: cBlk au [I r0,I r1] 30 :: cBlk ay [I aq,I av] 30 :: aj) R:=H;obtain ⟨bU,br,hM⟩:=M.e_bind hM;refine s_callv (f:=109) rfl cf109 [I 1,I 0] rfl (zd4 1 0 br _ (St.give (T:=(cBlk ao [I 0,I 0,I 0,I 0] 36 :: cBlk al [.func (.func 109) #[] #[]] 152 :: cBlk ak [I r_.up,I r_.down,I r_.lo,I r_.hi,B r_.narrow] 44 :: cBlk am [Pq ag] 107 :: cMk ([]) :: cMemI encSpt ai (zaa ab ac ae) :: cBlk au [I r0,I r1] 30 :: cBlk ay [I aq,I av] 30 :: aj)) H rfl)) ?_;rintro vq bt ⟨r2,rfl,hvq,ap⟩;subst vq;(try dsimp only at hM);replace H:St w bt (cBlk ao [I 0,I 0,I 0,I 0] 36 :: cBlk al [.func (.func 109) #[] #[]] 152 :: cBlk ak [I r_.up,I r_.down,I r_.lo,I r_.hi,B r_.narrow] 44 :: cBlk am [Pq ag] 107 :: cMk ([]) :: cMemI encSpt ai (zaa ab ac ae) :: cBlk au [I r0,I r1] 30 :: cBlk ay [I aq,I av] 30 :: aj) R:=H.back ap rfl;clear ap;refine s_nil ⟨(St.pick H [0,1,2,3,4,5,6,7] (by decide) rfl),_,[cBlk ao [I 0,I 0,I 0,I 0] 36,cBlk al [.func (.func 109) #[] #[]] 152,cBlk ak [I r_.up,I r_.down,I r_.lo,I r_.hi,B r_.narrow] 44,cBlk am [Pq ag] 107,cMk ([]),cMemI encSpt ai (zaa ab ac ae),cBlk au [I r0,I r1] 30,cBlk ay [I aq,I av] 30],mix_upd rfl,H,?_⟩;refine sa_nil (fun aj w_ H=>(St.pick H [0,1,2,3,4,5,6,7] (by decide) rfl)) ?_;intro az aA bu H;replace H:St w bu [cBlk ao [I 0,I 0,I 0,I 0] 36,cBlk al [.func (.func 109) #[] #[]] 152,cBlk ak [I r_.up,I r_.down,I r_.lo,I r_.hi,B r_.narrow] 44,cBlk am [Pq ag] 107,cMk ([]),cMemI encSpt ai (zaa ab ac ae),cBlk au [I r0,I r1] 30,cBlk ay [I aq,I av] 30,cBlk az [I 0] 3,cBlk aA [B false] 4] R:=(H)
 refine t_l rfl ?_;refine t_sw 8 0 [I r_.lo] (I r_.lo) H rfl rfl Sz3 rfl rfl rfl rfl ?_;intro bV H;refine s_nil ⟨(St.pick H [0,1,2,3,4,5,6,7] (by decide) rfl),?_⟩;refine t_l rfl ?_;refine t_sw 9 0 [B r2] (B r2) H rfl rfl Sz4 rfl rfl rfl rfl ?_;intro bW H;refine s_nil ⟨(St.pick H [0,1,2,3,4,5,6,7] (by decide) rfl),?_⟩;refine t_nil<|WD.seq<|WD.seq<|WD.of ?_;refine kg 4 ?_
 refine WD.cond (!r2) rfl (fun aT=>?_) (fun aT=>?_)
 ·replace hM:=M.e_t hM aT;refine WD.of ?_;refine kg 4 ?_;refine t_sw 8 0 [I r_.hi] (I r_.hi) H rfl rfl Sz3 rfl rfl rfl rfl ?_;intro bX H;refine s_nil<|WD.seq<|WD.of<|W.region rfl ?_;refine t_alloc (cs:=[I 0,I 0,I 0,I 0]) H Al36 rfl ?_;intro aw bY H;refine s_nil<|WD.seq<|WD.of<|W.region rfl ?_;refine t_alloc (cs:=[I 0]) H Al3 rfl ?_;intro ax bZ H;refine t_sw 0 0 [I 0] (I 0) H rfl rfl Sz3 rfl rfl rfl rfl ?_;intro b0 H;refine s_nil<|WD.seq<|WD.seq<|WD.of ?_;refine W.draw (fun W=>St w W [cBlk ax [I 0] 3,cBlk aw [I 0,I 0,I 0,I 0] 36,cBlk ao [I 0,I 0,I 0,I 0] 36,cBlk al [.func (.func 109) #[] #[]] 152,cBlk ak [I r_.up,I r_.down,I r_.lo,I r_.hi,B r_.narrow] 44,cBlk am [Pq ag] 107,cMk ([]),cMemI encSpt ai (zaa ab ac ae),cBlk au [I r0,I r1] 30,cBlk ay [I aq,I av] 30,cBlk az [I r_.hi] 3,cBlk aA [B r2] 4] R) [(0,true),(1,true),(2,true),(3,true),(4,true),(5,true),(6,false),(7,false),(8,true),(9,false)] mixed (by decide +kernel) rfl ?_;intro b4 aJ;replace H:=H.ext aJ;clear aJ
  refine ⟨(H.pk [0,1,2,3,4,5,6,7,8,9,10,11]),?_⟩;refine kg 6 ?_;refine d_l rfl ?_;refine t_bs (α:=Int) T22 [I r1] [(r1:Int)] H rfl (.cons rfl (Flat.rep_enc _ (r1:Int))<|.nil) rfl rfl rfl ?_;intro bv b5 H;have b6:=Sl.cells (H.os 0);have b7:=Sl.oc (H.os 0);refine s_nil ⟨(H.pk [1,2,3,4,5,6,7,8,9,10,11,12]),?_⟩;refine d_l rfl ?_;obtain ⟨b8,bw,hM⟩:=M.e_bind hM;refine s_call cf86 [I av,bv] rfl (zal av ([(r1:Int)]) (rdo 0) (H.os 0) bw _ (H.gt 13)) ?_;rintro vq b9 ⟨r3,rfl,hvq,ap⟩;subst vq;(try dsimp only at hM);replace H:=H.bk ap;clear ap;refine s_nil ⟨(H.pk [1,2,3,4,5,6,7,8,9,10,11,12]),?_⟩;refine d_q rfl (fun w' H=>x_bld (ps:=[(0,I aq),(1,I r3)]) (zs:=[I 0,I 0]) (L':=[I aq,I r3]) rfl Tryz.underlying30 Al30 rfl (Bd30 Tryz.underlying30) (.cons (cs:=[I aq]) rfl rfl rfl rfl rfl<|.cons (cs:=[I r3]) rfl rfl rfl rfl rfl<|.nil))<|d_l rfl ?_;obtain ⟨ca,bx,hM⟩:=M.e_bind hM;refine s_call cf87 [.agg #[I aq,I r3]] rfl (zdq (⟨(aq:Int),(r3:Int)⟩:Span) bx _ (H.gt 13)) ?_
  rintro vq cb ⟨aC,aD,aE,rfl,hvq,ap⟩;subst vq;(try dsimp only at hM);replace H:=H.bk ap;clear ap;refine s_nil ⟨(H.pk [2,3,4,5,6,7,8,9,10,11,12,13]),?_⟩;refine d_nil ?_;replace H:=H.pk [0,2,3,4,5,6,7,8,9,10,12,13];refine WD.block ?_;obtain ⟨cc,bz,hM⟩:=M.e_bind hM;refine WD.range (L:=[cBlk ax [I 0] 3,cBlk aw [I 0,I 0,I 0,I 0] 36,cMemI encSpt ai (zaa ab ac ae),cBlk aE [I aC,I aD] 30,cBlk ao [I 0,I 0,I 0,I 0] 36,cBlk al [.func (.func 109) #[] #[]] 152,cBlk ak [I r_.up,I r_.down,I r_.lo,I r_.hi,B r_.narrow] 44,cBlk am [Pq ag] 107,cBlk au [I r0,I r1] 30,cBlk az [I r_.hi] 3,cBlk aA [B r2] 4]) [Pq aE] (H.pk [7,1,2,8,0,3,4,5,6,9,10,11]) rfl cf111 ?_;intro aP aQ aU bA aV H;have hYC:YieldC Tryz.prog ([cMk (aQ :: ([])),cBlk aE [I aC,I aD] 30,cBlk ao [I 0,I 0,I 0,I 0] 36,cBlk al [.func (.func 109) #[] #[]] 152,cBlk ak [I r_.up,I r_.down,I r_.lo,I r_.hi,B r_.narrow] 44,cBlk am [Pq ag] 107,cBlk au [I r0,I r1] 30,cBlk az [I r_.hi] 3,cBlk aA [B r2] 4]++R) arI (yJ aP aU (fun (s,s2,s3,s4,s5) aR=>aR=[cBlk ax [I s] 3,cBlk aw [I s2,I s3,I s4,I s5] 36,cMemI encSpt ai (zaa ab ac ae)]) (fun (_:Unit) _=>False) (fun _=>.ret)) (.func (.yield aP) #[] #[]) (M.yl (zaM ab ac ae r_ r0 r2)):=by
   refine YieldC.mk aV (fun (s,s2,s3,s4,s5) aR=>aR=[cBlk ax [I s] 3,cBlk aw [I s2,I s3,I s4,I s5] 36,cMemI encSpt ai (zaa ab ac ae)]) (fun (_:Unit) _=>False) (fun _=>.ret) (zaM ab ac ae r_ r0 r2) (by rintro ⟨s,s2,s3,s4,s5⟩ _ h_; obtain ⟨rfl⟩:=h_; rfl) (fun _ _ h_=>h_.elim) rfl (arI_len rfl) ?_;intro C_ cd x W_ bB;obtain rfl:=bB;refine kg 3 ?_;refine ⟨rfl,rfl,?_⟩;intro w R aK aR s_ r bC hM H;obtain ⟨s,s2,s3,s4,s5⟩:=s_;obtain ⟨rfl⟩:=bC;replace aF:=aF.sub aK;replace aG:=aG.sub aK;replace aH:=aH.sub aK;replace aI:=aI.sub aK;replace aO:=aO.sub aK;replace hM:(zaM ab ac ae r_ r0 r2 (s,s2,s3,s4,s5) x).Ends r:=hM;simp only [zaM] at hM;replace H:=H.pk [0,1,2,4,5,6,7,8,9,10,11,3];refine kg 10 ?_;refine s_val (x_bld (ps:=[(0,I (max r0 x)),(1,I x),(2,I r_.hi),(3,I r_.hi)]) (zs:=[I 0,I 0,I 0,I 0]) (L':=[I (max r0 x),I x,I r_.hi,I r_.hi]) rfl Tryz.underlying36 Al36 rfl (Bd36 Tryz.underlying36) (.cons (cs:=[I (max r0 x)]) rfl rfl rfl rfl rfl<|.cons (cs:=[I x]) rfl rfl rfl rfl rfl<|.cons (cs:=[I r_.hi]) rfl rfl rfl rfl rfl<|.cons (cs:=[I r_.hi]) rfl rfl rfl rfl rfl<|.nil)) ?_;refine t_alloc (cs:=[I 0,I 0,I 0,I 0]) H Al36 rfl ?_;intro ce cf H;refine t_sw 0 0 [I (max r0 x),I x,I r_.hi,I r_.hi] (.agg #[I (max r0 x),I x,I r_.hi,I r_.hi]) H rfl rfl Sz36 rfl rfl rfl rfl ?_;intro cg H;refine kg 6 ?_;refine W.cond r2 rfl (fun aW=>?_) (fun aW=>?_)
   ·replace hM:=M.e_t hM aW;exact (M.e_fail hM).elim
   replace hM:=M.e_f hM aW;refine kg 6 ?_;obtain ⟨ci,bD,hM⟩:=M.e_bind hM;refine s_call cf55 [Pq ag,.agg #[I r_.up,I r_.down,I r_.lo,I r_.hi,B r_.narrow],.agg #[I (max r0 x),I x,I r_.hi,I r_.hi]] rfl (zdP ab ac ae r_ (⟨(max r0 x:Int),(x:Int),(r_.hi:Int),(r_.hi:Int)⟩:Cas) (aF.app _) aL (aG.app _) aM (aH.app _) aN (aI.app _) bD _ ((H.pk [3,0,1,2,4,5,6,7,8,9,10,11,12]).gt 12)) ?_;rintro vq cj ⟨r4,rfl,hvq,ap⟩;subst vq;(try dsimp only at hM);replace H:=H.pk [3,0,1,2,4,5,6,7,8,9,10,11,12] |>.bk ap
   clear ap;refine kg 5 ?_;refine s_val (x_bld (ps:=[]) (zs:=[I 0,I 0,I 0,I 0]) (L':=[I 0,I 0,I 0,I 0]) rfl Tryz.underlying36 Al36 rfl (Bd36 Tryz.underlying36) (.nil))<|s_val (x_eqS (eqT36 (⟨(s2:Int),(s3:Int),(s4:Int),(s5:Int)⟩:Cas) (⟨(0:Int),(0:Int),(0:Int),(0:Int)⟩:Cas) _) gdT36 rfl rfl) ?_;refine kg 5 ?_;obtain ⟨r5,bE,hM⟩:=M.e_bind hM;refine t_gcallv (cap:=[]) (!(decide ((⟨(s2:Int),(s3:Int),(s4:Int),(s5:Int)⟩:Cas)=(⟨(0:Int),(0:Int),(0:Int),(0:Int)⟩:Cas)))) (gy_f rfl) cf109 (fun hg=>(gd_of hg (.func (.func 109) #[] #[]))) (B r5) (fun _=>[I r4,I s]) (fun hg=>lst2 (gd_of hg (I r4)) (gd_of hg (I s))) H (fun hg=>(zd4 r4 s (M.e_opt bE hg) _ (H.give (A:=[]) rfl)).mono fun v_ w_ ⟨y_,aX,bF,H_⟩=>by subst aX; exact ⟨bF,H.via H_⟩) ?_;intro co H;refine s_val (x_por (b:=decide ((⟨(s2:Int),(s3:Int),(s4:Int),(s5:Int)⟩:Cas)=(⟨(0:Int),(0:Int),(0:Int),(0:Int)⟩:Cas))) (r:=r5) rfl rfl (fun hb=>gd_of (c:=!(decide ((⟨(s2:Int),(s3:Int),(s4:Int),(s5:Int)⟩:Cas)=(⟨(0:Int),(0:Int),(0:Int),(0:Int)⟩:Cas)))) (by first | exact hb | (rw [hb]; rfl) | simp_all) (B r5)))<|s_nil ?_
   refine W.cond ((decide ((⟨(s2:Int),(s3:Int),(s4:Int),(s5:Int)⟩:Cas)=(⟨(0:Int),(0:Int),(0:Int),(0:Int)⟩:Cas)))||r5) rfl (fun aY=>?_) (fun aY=>?_)
   ·replace hM:=M.e_t hM aY;refine kg 3 ?_;refine t_sw 3 0 [I (max r0 x),I x,I r_.hi,I r_.hi] (.agg #[I (max r0 x),I x,I r_.hi,I r_.hi]) H rfl rfl Sz36 rfl rfl rfl rfl ?_;intro cp H;refine t_sw 2 0 [I r4] (I r4) H rfl rfl Sz3 rfl rfl rfl rfl ?_;intro cq H;refine s_nil ?_;exact ⟨(r4,max r0 x,x,r_.hi,r_.hi),[cBlk ax [I r4] 3,cBlk aw [I (max r0 x),I x,I r_.hi,I r_.hi] 36,cMemI encSpt ai (zaa ab ac ae)],(M.e_pure hM).symm,rfl,H.pick [2,3,0,12,4,5,6,7,8,9,10,11] (by decide) rfl⟩
   replace hM:=M.e_f hM aY;refine W.skip ?_;exact ⟨(s,s2,s3,s4,s5),[cBlk ax [I s] 3,cBlk aw [I s2,I s3,I s4,I s5] 36,cMemI encSpt ai (zaa ab ac ae)],(M.e_pure hM).symm,rfl,H.pick [2,3,0,12,4,5,6,7,8,9,10,11] (by decide) rfl⟩
  replace H:St w bA (cAll (cObj aP (.loop aU) :: [cBlk ax [I 0] 3,cBlk aw [I 0,I 0,I 0,I 0] 36,cMemI encSpt ai (zaa ab ac ae)]) :: [cMk (aQ :: ([])),cBlk aE [I aC,I aD] 30,cBlk ao [I 0,I 0,I 0,I 0] 36,cBlk al [.func (.func 109) #[] #[]] 152,cBlk ak [I r_.up,I r_.down,I r_.lo,I r_.hi,B r_.narrow] 44,cBlk am [Pq ag] 107,cBlk au [I r0,I r1] 30,cBlk az [I r_.hi] 3,cBlk aA [B r2] 4]) R:=St.bundleB (A:=cObj aP (.loop aU) :: [cBlk ax [I 0] 3,cBlk aw [I 0,I 0,I 0,I 0] 36,cMemI encSpt ai (zaa ab ac ae)]) (T:=[cMk (aQ :: ([])),cBlk aE [I aC,I aD] 30,cBlk ao [I 0,I 0,I 0,I 0] 36,cBlk al [.func (.func 109) #[] #[]] 152,cBlk ak [I r_.up,I r_.down,I r_.lo,I r_.hi,B r_.narrow] 44,cBlk am [Pq ag] 107,cBlk au [I r0,I r1] 30,cBlk az [I r_.hi] 3,cBlk aA [B r2] 4]) rfl (H.pk [0,2,3,4,1,5,6,7,8,9,10,11,12]);refine (zdm (M.yl (zaM ab ac ae r_ r0 r2)) (.inl (0,0,0,0,0)) aC aD hYC ⟨_,rfl,rfl⟩ (Has.here (k:=1) rfl) bz _ (H.gt 9)).mono ?_;rintro vq cr ⟨bG,ct,rfl,hvq,ap,bf⟩;replace H:=H.back ap rfl;clear ap hYC;rcases bG with ⟨s,s2,s3,s4,s5⟩ | _
  ·(try dsimp only at hM);obtain ⟨_,rfl,rfl⟩:=bf;refine ⟨_,[cBlk ax [I s] 3,cBlk aw [I s2,I s3,I s4,I s5] 36,cMemI encSpt ai (zaa ab ac ae),cBlk aE [I aC,I aD] 30,cBlk ao [I 0,I 0,I 0,I 0] 36,cBlk al [.func (.func 109) #[] #[]] 152,cBlk ak [I r_.up,I r_.down,I r_.lo,I r_.hi,B r_.narrow] 44,cBlk am [Pq ag] 107,cBlk au [I r0,I r1] 30,cBlk az [I r_.hi] 3,cBlk aA [B r2] 4],H.unbundle.pick [0,4,1,2,3,5,6,7,8,9,10,11,12] (by decide) rfl,aV.nb,?_⟩;intro cu H;rw [aV.pd];replace H:=H.nf
   try simp only []
   replace H:=H.pk [0,1,2,3,5];refine WD.seq<|WD.of ?_;refine W.draw (fun W=>St w W [cMk (aQ :: ([])),cBlk ax [I s] 3,cBlk aw [I s2,I s3,I s4,I s5] 36,cMemI encSpt ai (zaa ab ac ae)] R) [(0,true),(1,true),(2,false),(3,true)] mixed (by decide +kernel) rfl ?_;intro cv aJ;replace H:=H.ext aJ;clear aJ
   refine ⟨(H.pk [0,1,2,3]),?_⟩;refine kg 2 ?_;refine d_l rfl ?_;refine t_sw 4 0 [I s2,I s3,I s4,I s5] (.agg #[I s2,I s3,I s4,I s5]) H rfl rfl Sz36 rfl rfl rfl rfl ?_;intro cw H;refine s_nil ⟨(H.pk [0,1,2,3]),?_⟩;refine kg 2 ?_;replace H:=H.pk [0,3,4];refine WD.of ?_;refine W.ret ?_;refine bodyD_r (H.pk [0,1,2]) ?_;intro cx H;replace H:=H.nf;have bH:=(H.bl 1)
   have aX:=M.e_pure hM;exact ⟨_,(resE_ofn (vs:=[.agg #[I s2,I s3,I s4,I s5],I s]) rfl rfl (.cell (v:=.agg #[I s2,I s3,I s4,I s5]) rfl (run_loadVar_ag (ds:=[I s2,I s3,I s4,I s5]) Ag36 Sz36 bH rfl rfl)<|.tmp (v:=I s) rfl<|.nil)),⟨s2,s3,s4,s5,s,aX,rfl,(H.pk [0])⟩⟩
  obtain ⟨_,_,h_⟩:=bf; exact h_.elim
 replace hM:=M.e_f hM aT;exact (M.e_fail hM).elim

def zbH  : M Unit :=
  M.pure ()
theorem zaI {R:List Chunk}    {r:Unit} (hM:(zbH).Ends r) (w:World) (H:St w w [] R):Ret Tryz.prog 84 #[] w fun v w'=>()=r/\v = .agg #[.func (.func 110) #[] #[]]/\St w w' [] R:=by
 refine ret_of_W Tryz.func84 rfl rfl rfl ?_;refine kg 2 ?_;refine t_alloc (cs:=[.nilFunc]) H Al152 rfl ?_;intro ae ag H;refine kg 3 ?_;refine s_val (x_bld (ps:=[(0,.func (.func 110) #[] #[])]) (zs:=[.nilFunc]) (L':=[.func (.func 110) #[] #[]]) rfl Tryz.underlying152 Al152 rfl (Bd152 Tryz.underlying152) (.cons (cs:=[.func (.func 110) #[] #[]]) rfl rfl rfl rfl rfl<|.nil)) ?_;refine t_sw 0 0 [.func (.func 110) #[] #[]] (.agg #[.func (.func 110) #[] #[]]) H rfl rfl Sz152 rfl rfl rfl rfl ?_;intro ai H;refine s_nil ?_;refine W.ret ?_;have ab:=(H.bl 0)
 have ac:=M.e_pure hM;exact ⟨_,(resE_of1 (v:=.agg #[.func (.func 110) #[] #[]]) rfl (.cell (v:=.agg #[.func (.func 110) #[] #[]]) rfl (run_loadVar_ag (ds:=[.func (.func 110) #[] #[]]) Ag152 Sz152 ab rfl rfl)<|.nil)),⟨ac,rfl,(H.pk [])⟩⟩

def zbT (a b:Int):M Bool :=
  M.pure (decide (b<a))
theorem zef {R:List Chunk}  (a:Int) (b:Int)  {r:Bool} (hM:(zbT a b).Ends r) (w:World) (H:St w w [] R):Ret Tryz.prog 110 #[I a,I b] w fun v w'=>∃ (y0:Bool),y0=r/\v=B y0/\St w w' [] R:=by
 refine ret_of_W Tryz.func110 rfl rfl rfl ?_;refine kg 11 ?_;refine W.ret ?_;have ab:=M.e_pure hM;exact ⟨_,resE_tmp rfl,⟨(decide (b<a)),ab,rfl,H⟩⟩

def zaZ (ab:List Sect) (ac:List Mrk) (ae:List Rch) (r_:Rch) (r1:Int) (r2:Bool):(Int × Int × Int × Int × Int)->Int->M ((Int × Int × Int × Int × Int) ⊕ Unit):=fun (s,s2,s3,s4,s5) x =>
  bif r2 then (
  M.bind (zbo ab ac ae r_ (⟨(r1:Int),(x:Int),(r_.lo:Int),(r_.lo:Int)⟩:Cas)) fun r4 =>
  M.bind (M.opt (!(decide ((⟨(s2:Int),(s3:Int),(s4:Int),(s5:Int)⟩:Cas)=(⟨(0:Int),(0:Int),(0:Int),(0:Int)⟩:Cas)))) (zbT r4 s) false) fun r5 =>
  bif ((decide ((⟨(s2:Int),(s3:Int),(s4:Int),(s5:Int)⟩:Cas)=(⟨(0:Int),(0:Int),(0:Int),(0:Int)⟩:Cas)))||r5) then (
  M.pure (.inl (r4,r1,x,r_.lo,r_.lo)))
  else (
  M.pure (.inl (s,s2,s3,s4,s5))))
  else (
  M.fail)
def zbi (ab:List Sect) (ac:List Mrk) (ae:List Rch) (marks:List Int) (r_:Rch):M (Int × Int × Int × Int × Int) :=
  M.bind (zaD ab ac ae marks r_.up) fun (r0,r1) =>
  M.bind (zaD ab ac ae marks r_.down) fun (ag,ai) =>
  M.bind (zbT 1 0) fun r2 =>
  bif !r2 then (
  M.fail)
  else (
  M.bind (zaS ai ([(r1:Int)])) fun r3 =>
  M.bind (zaV (⟨(ag:Int),(r3:Int)⟩:Span)) fun (aj,ak) =>
  M.bind (za6 (M.yl (zaZ ab ac ae r_ r1 r2)) (.inl (0,0,0,0,0)) aj ak) fun x_=>match x_ with
  | .inl (s,s2,s3,s4,s5)=>(
  M.pure (s2,s3,s4,s5,s))
  | .inr _=>M.fail)
theorem zap {R:List Chunk} {ag:Nat} {aZ:Cells} {a6:Value} {a7:Cells} {a8:Value} {ba:Cells} {bb:Value} {ai:Nat} {bc:Cells} {aB:Value} (ab:List Sect) (ac:List Mrk) (ae:List Rch) (marks:List Int) (r_:Rch) (aF:Reads R aZ) (aL:Sl aZ a6 ab) (aG:Reads R a7) (aM:Sl a7 a8 ac) (aH:Reads R ba) (aN:Sl ba bb ae) (aI:Has R (cBlk ag [a6,a8,bb,.map (some ai)] 163)) (aO:Reads R bc) (aS:Sl bc aB marks) {r:(Int × Int × Int × Int × Int)} (hM:(zbi ab ac ae marks r_).Ends r) (w:World) (H:St w w [cMemI encSpt ai (zaa ab ac ae)] R):Ret Tryz.prog 85 #[Pq ag,aB,.agg #[I r_.up,I r_.down,I r_.lo,I r_.hi,B r_.narrow],.agg #[.func (.func 110) #[] #[]]] w fun v w'=>∃ (y0:Int) (y1:Int) (y2:Int) (y3:Int) (y4:Int),(y0,y1,y2,y3,y4)=r/\v = .tuple #[.agg #[I y0,I y1,I y2,I y3],I y4]/\St w w' [cMemI encSpt ai (zaa ab ac ae)] R:=by
 refine ret_of_WD Tryz.func85 rfl rfl rfl ?_;replace H:St w w [cMk ([]),cMemI encSpt ai (zaa ab ac ae)] R:=H.mk0;have bI:=aL.len_le;have bJ:=aM.len_le;have bK:=aN.len_le;have bL:=aS.len_le;unfold zbi at hM;refine WD.seq<|WD.of<|W.region rfl ?_;refine t_b1 (Pq ag) H rfl rfl ?_;intro am bM H;refine t_bx [I r_.up,I r_.down,I r_.lo,I r_.hi,B r_.narrow] H rfl ?_;intro ak bN H;refine t_bx [.func (.func 110) #[] #[]] H rfl ?_;intro al bO H;refine t_alloc (cs:=[I 0,I 0,I 0,I 0]) H Al36 rfl ?_;intro ao bP H;refine kg 2 ?_;refine WD.seq<|WD.of ?_;refine W.drawA (fun W=>St w W [cBlk ao [I 0,I 0,I 0,I 0] 36,cBlk al [.func (.func 110) #[] #[]] 152,cBlk ak [I r_.up,I r_.down,I r_.lo,I r_.hi,B r_.narrow] 44,cBlk am [Pq ag] 107,cMk ([]),cMemI encSpt ai (zaa ab ac ae)] R) [(0,true),(1,true),(2,true),(3,true),(5,true),(6,true),(7,true),(8,true),(4,false),(9,false)] [(10,10,30,[I 0,I 0]),(11,11,30,[I 0,I 0])] (.l 12 (.l 13 .nil)) 2 mixed (by decide +kernel) rfl (by intro x hx; simp only [List.mem_cons,List.not_mem_nil,or_false] at hx; rcases hx with rfl | rfl <;> first | exact ⟨_,_,_,rfl,_,Al30,rfl⟩) (by decide) (by decide) H ?_;refine sa_q (fun aj w_ H=>(St.pick H [0,1,2,3,4,5] (by decide) rfl)) rfl rfl (fun g_ w' H=>x_ld (v:=Pq ag) rfl (ldb_sc Sc107 (H.bl 3) rfl)) ?_;refine sa_q (fun aj w_ H=>(St.pick H [0,1,2,3,4,5] (by decide) rfl)) rfl rfl (fun g_ w' H=>x_mv (v:=aB) rfl) ?_;refine sa_q (fun aj w_ H=>(St.pick H [0,1,2,3,4,5] (by decide) rfl)) rfl rfl (fun g_ w' H=>x_fa (v:=Pq ak) rfl (fa_blk (o:=0) Fd44_0 Sz3)) ?_;refine sa_q (fun aj w_ H=>(St.pick H [0,1,2,3,4,5] (by decide) rfl)) rfl rfl (fun g_ w' H=>x_ld (v:=I r_.up) rfl (ldb_sc Sc3 (H.bl 2) rfl)) ?_;refine sa_q (fun aj w_ H=>(St.pick H [0,1,2,3,4,5] (by decide) rfl)) rfl rfl (fun g_ w' H=>x_ld (v:=Pq ag) rfl (ldb_sc Sc107 (H.bl 3) rfl)) ?_;refine sa_q (fun aj w_ H=>(St.pick H [0,1,2,3,4,5] (by decide) rfl)) rfl rfl (fun g_ w' H=>x_mv (v:=aB) rfl) ?_;refine sa_q (fun aj w_ H=>(St.pick H [0,1,2,3,4,5] (by decide) rfl)) rfl rfl (fun g_ w' H=>x_fa (v:=Oq ak 1) rfl (fa_blk (o:=0) Fd44_1 Sz3)) ?_;refine sa_q (fun aj w_ H=>(St.pick H [0,1,2,3,4,5] (by decide) rfl)) rfl rfl (fun g_ w' H=>x_ld (v:=I r_.down) rfl (ldb_sc Sc3 (H.bl 2) rfl)) ?_;refine sa_l (fun aj w_ H=>(St.pick H [0,1,2,3,4,5] (by decide) rfl)) rfl ?_;intro g_ aj bg H
 replace H:St w bg (cBlk ao [I 0,I 0,I 0,I 0] 36 :: cBlk al [.func (.func 110) #[] #[]] 152 :: cBlk ak [I r_.up,I r_.down,I r_.lo,I r_.hi,B r_.narrow] 44 :: cBlk am [Pq ag] 107 :: cMk ([]) :: cMemI encSpt ai (zaa ab ac ae) :: aj) R:=H;obtain ⟨bQ,bh,hM⟩:=M.e_bind hM;refine s_call cf74 [Pq ag,aB,I r_.up] rfl (zb9 ab ac ae marks r_.up (aF.app _) aL (aG.app _) aM (aH.app _) aN (aI.app _) (aO.app _) aS bh _ (St.give (T:=(cBlk ao [I 0,I 0,I 0,I 0] 36 :: cBlk al [.func (.func 110) #[] #[]] 152 :: cBlk ak [I r_.up,I r_.down,I r_.lo,I r_.hi,B r_.narrow] 44 :: cBlk am [Pq ag] 107 :: cMk ([]) :: cMemI encSpt ai (zaa ab ac ae) :: aj)) H rfl)) ?_;rintro vq bi ⟨r0,r1,rfl,hvq,ap⟩;subst vq;(try dsimp only at hM);replace H:St w bi (cBlk ao [I 0,I 0,I 0,I 0] 36 :: cBlk al [.func (.func 110) #[] #[]] 152 :: cBlk ak [I r_.up,I r_.down,I r_.lo,I r_.hi,B r_.narrow] 44 :: cBlk am [Pq ag] 107 :: cMk ([]) :: cMemI encSpt ai (zaa ab ac ae) :: aj) R:=H.back ap rfl;clear ap;refine s_nil ⟨(St.pick H [0,1,2,3,4,5] (by decide) rfl),_,[cBlk ao [I 0,I 0,I 0,I 0] 36,cBlk al [.func (.func 110) #[] #[]] 152,cBlk ak [I r_.up,I r_.down,I r_.lo,I r_.hi,B r_.narrow] 44,cBlk am [Pq ag] 107,cMk ([]),cMemI encSpt ai (zaa ab ac ae)],mix_upd rfl,H,?_⟩;refine sa_l (fun aj w_ H=>(St.pick H [0,1,2,3,4,5] (by decide) rfl)) rfl ?_;intro g_ aj bj H;replace H:St w bj (cBlk ao [I 0,I 0,I 0,I 0] 36 :: cBlk al [.func (.func 110) #[] #[]] 152 :: cBlk ak [I r_.up,I r_.down,I r_.lo,I r_.hi,B r_.narrow] 44 :: cBlk am [Pq ag] 107 :: cMk ([]) :: cMemI encSpt ai (zaa ab ac ae) :: aj) R:=H;obtain ⟨bR,bm,hM⟩:=M.e_bind hM;refine s_call cf74 [Pq ag,aB,I r_.down] rfl (zb9 ab ac ae marks r_.down (aF.app _) aL (aG.app _) aM (aH.app _) aN (aI.app _) (aO.app _) aS bm _ (St.give (T:=(cBlk ao [I 0,I 0,I 0,I 0] 36 :: cBlk al [.func (.func 110) #[] #[]] 152 :: cBlk ak [I r_.up,I r_.down,I r_.lo,I r_.hi,B r_.narrow] 44 :: cBlk am [Pq ag] 107 :: cMk ([]) :: cMemI encSpt ai (zaa ab ac ae) :: aj)) H rfl)) ?_;rintro vq bn ⟨aq,av,rfl,hvq,ap⟩;subst vq;(try dsimp only at hM);replace H:St w bn (cBlk ao [I 0,I 0,I 0,I 0] 36 :: cBlk al [.func (.func 110) #[] #[]] 152 :: cBlk ak [I r_.up,I r_.down,I r_.lo,I r_.hi,B r_.narrow] 44 :: cBlk am [Pq ag] 107 :: cMk ([]) :: cMemI encSpt ai (zaa ab ac ae) :: aj) R:=H.back ap rfl;clear ap;refine s_nil ⟨(St.pick H [0,1,2,3,4,5] (by decide) rfl),_,[cBlk ao [I 0,I 0,I 0,I 0] 36,cBlk al [.func (.func 110) #[] #[]] 152,cBlk ak [I r_.up,I r_.down,I r_.lo,I r_.hi,B r_.narrow] 44,cBlk am [Pq ag] 107,cMk ([]),cMemI encSpt ai (zaa ab ac ae)],mix_upd rfl,H,?_⟩;refine sa_nil (fun aj w_ H=>(St.pick H [0,1,2,3,4,5] (by decide) rfl)) ?_;intro au ay bo H;replace H:St w bo [cBlk ao [I 0,I 0,I 0,I 0] 36,cBlk al [.func (.func 110) #[] #[]] 152,cBlk ak [I r_.up,I r_.down,I r_.lo,I r_.hi,B r_.narrow] 44,cBlk am [Pq ag] 107,cMk ([]),cMemI encSpt ai (zaa ab ac ae),cBlk au [I 0,I 0] 30,cBlk ay [I 0,I 0] 30] R:=(H)
 refine t_l rfl ?_;refine t_sw 6 0 [I r0,I r1] (.agg #[I r0,I r1]) H rfl rfl Sz30 rfl rfl rfl rfl ?_;intro bS H;refine s_nil ⟨(St.pick H [0,1,2,3,4,5] (by decide) rfl),?_⟩;refine t_l rfl ?_;refine t_sw 7 0 [I aq,I av] (.agg #[I aq,I av]) H rfl rfl Sz30 rfl rfl rfl rfl ?_;intro bT H;refine s_nil ⟨(St.pick H [0,1,2,3,4,5] (by decide) rfl),?_⟩;refine t_nil<|WD.seq<|WD.of ?_;refine W.drawA (fun W=>St w W [cBlk ao [I 0,I 0,I 0,I 0] 36,cBlk al [.func (.func 110) #[] #[]] 152,cBlk ak [I r_.up,I r_.down,I r_.lo,I r_.hi,B r_.narrow] 44,cBlk am [Pq ag] 107,cMk ([]),cMemI encSpt ai (zaa ab ac ae),cBlk au [I r0,I r1] 30,cBlk ay [I aq,I av] 30] R) [(0,true),(1,true),(2,true),(3,true),(4,true),(5,false)] [(6,12,3,[I 0]),(7,13,4,[B false])] (.l 8 (.l 9 .nil)) 2 mixed (by decide +kernel) rfl (by intro x hx; simp only [List.mem_cons,List.not_mem_nil,or_false] at hx; rcases hx with rfl | rfl <;> first | exact ⟨_,_,_,rfl,_,Al3,rfl⟩ | exact ⟨_,_,_,rfl,_,Al4,rfl⟩) (by decide) (by decide) H ?_;refine sa_q (fun aj w_ H=>(St.pick H [0,1,2,3,4,5,6,7] (by decide) rfl)) rfl rfl (fun g_ w' H=>x_fa (v:=Oq ak 2) rfl (fa_blk (o:=0) Fd44_2 Sz30)) ?_;refine sa_q (fun aj w_ H=>(St.pick H [0,1,2,3,4,5,6,7] (by decide) rfl)) rfl rfl (fun g_ w' H=>x_fa (v:=Oq ak 2) rfl (fa_blk (o:=2) Fd30_0 Sz3)) ?_;refine sa_q (fun aj w_ H=>(St.pick H [0,1,2,3,4,5,6,7] (by decide) rfl)) rfl rfl (fun g_ w' H=>x_ld (v:=I r_.lo) rfl (ldb_sc Sc3 (H.bl 2) rfl)) ?_;refine sa_q (fun aj w_ H=>(St.pick H [0,1,2,3,4,5,6,7] (by decide) rfl)) rfl rfl (fun g_ w' H=>x_fa (v:=Pq al) rfl (fa_blk (o:=0) Fd152_0 Sz123)) ?_;refine sa_q (fun aj w_ H=>(St.pick H [0,1,2,3,4,5,6,7] (by decide) rfl)) rfl rfl (fun g_ w' H=>x_ld (v:=.func (.func 110) #[] #[]) rfl (ldb_sc Sc123 (H.bl 1) rfl)) ?_;refine sa_l (fun aj w_ H=>(St.pick H [0,1,2,3,4,5,6,7] (by decide) rfl)) rfl ?_;intro g_ aj bp H
 replace H:St w bp (cBlk ao [I 0,I 0,I 0,I 0] 36 :: cBlk al [.func (.func 110) #[] #[]] 152 :: cBlk ak [I r_.up,I r_.down,I r_.lo,I r_.hi,B r_.narrow] 44 :: cBlk am [Pq ag] 107 :: cMk ([]) :: cMemI encSpt ai (zaa ab ac ae) :: cBlk au [I r0,I r1] 30 :: cBlk ay [I aq,I av] 30 :: aj) R:=H;obtain ⟨bU,br,hM⟩:=M.e_bind hM;refine s_callv (f:=110) rfl cf110 [I 1,I 0] rfl (zef 1 0 br _ (St.give (T:=(cBlk ao [I 0,I 0,I 0,I 0] 36 :: cBlk al [.func (.func 110) #[] #[]] 152 :: cBlk ak [I r_.up,I r_.down,I r_.lo,I r_.hi,B r_.narrow] 44 :: cBlk am [Pq ag] 107 :: cMk ([]) :: cMemI encSpt ai (zaa ab ac ae) :: cBlk au [I r0,I r1] 30 :: cBlk ay [I aq,I av] 30 :: aj)) H rfl)) ?_;rintro vq bt ⟨r2,rfl,hvq,ap⟩;subst vq;(try dsimp only at hM);replace H:St w bt (cBlk ao [I 0,I 0,I 0,I 0] 36 :: cBlk al [.func (.func 110) #[] #[]] 152 :: cBlk ak [I r_.up,I r_.down,I r_.lo,I r_.hi,B r_.narrow] 44 :: cBlk am [Pq ag] 107 :: cMk ([]) :: cMemI encSpt ai (zaa ab ac ae) :: cBlk au [I r0,I r1] 30 :: cBlk ay [I aq,I av] 30 :: aj) R:=H.back ap rfl;clear ap;refine s_nil ⟨(St.pick H [0,1,2,3,4,5,6,7] (by decide) rfl),_,[cBlk ao [I 0,I 0,I 0,I 0] 36,cBlk al [.func (.func 110) #[] #[]] 152,cBlk ak [I r_.up,I r_.down,I r_.lo,I r_.hi,B r_.narrow] 44,cBlk am [Pq ag] 107,cMk ([]),cMemI encSpt ai (zaa ab ac ae),cBlk au [I r0,I r1] 30,cBlk ay [I aq,I av] 30],mix_upd rfl,H,?_⟩;refine sa_nil (fun aj w_ H=>(St.pick H [0,1,2,3,4,5,6,7] (by decide) rfl)) ?_;intro az aA bu H;replace H:St w bu [cBlk ao [I 0,I 0,I 0,I 0] 36,cBlk al [.func (.func 110) #[] #[]] 152,cBlk ak [I r_.up,I r_.down,I r_.lo,I r_.hi,B r_.narrow] 44,cBlk am [Pq ag] 107,cMk ([]),cMemI encSpt ai (zaa ab ac ae),cBlk au [I r0,I r1] 30,cBlk ay [I aq,I av] 30,cBlk az [I 0] 3,cBlk aA [B false] 4] R:=(H)
 refine t_l rfl ?_;refine t_sw 8 0 [I r_.lo] (I r_.lo) H rfl rfl Sz3 rfl rfl rfl rfl ?_;intro bV H;refine s_nil ⟨(St.pick H [0,1,2,3,4,5,6,7] (by decide) rfl),?_⟩;refine t_l rfl ?_;refine t_sw 9 0 [B r2] (B r2) H rfl rfl Sz4 rfl rfl rfl rfl ?_;intro bW H;refine s_nil ⟨(St.pick H [0,1,2,3,4,5,6,7] (by decide) rfl),?_⟩;refine t_nil<|WD.seq<|WD.seq<|WD.of ?_;refine kg 4 ?_
 refine WD.cond (!r2) rfl (fun aT=>?_) (fun aT=>?_)
 ·replace hM:=M.e_t hM aT;exact (M.e_fail hM).elim
 replace hM:=M.e_f hM aT;refine WD.of<|W.skip<|WD.seq<|WD.of<|W.region rfl ?_;refine t_alloc (cs:=[I 0,I 0,I 0,I 0]) H Al36 rfl ?_;intro aw bX H;refine s_nil<|WD.seq<|WD.of<|W.region rfl ?_;refine t_alloc (cs:=[I 0]) H Al3 rfl ?_;intro ax bY H;refine t_sw 0 0 [I 0] (I 0) H rfl rfl Sz3 rfl rfl rfl rfl ?_;intro bZ H;refine s_nil<|WD.seq<|WD.seq<|WD.of ?_;refine W.draw (fun W=>St w W [cBlk ax [I 0] 3,cBlk aw [I 0,I 0,I 0,I 0] 36,cBlk ao [I 0,I 0,I 0,I 0] 36,cBlk al [.func (.func 110) #[] #[]] 152,cBlk ak [I r_.up,I r_.down,I r_.lo,I r_.hi,B r_.narrow] 44,cBlk am [Pq ag] 107,cMk ([]),cMemI encSpt ai (zaa ab ac ae),cBlk au [I r0,I r1] 30,cBlk ay [I aq,I av] 30,cBlk az [I r_.lo] 3,cBlk aA [B r2] 4] R) [(0,true),(1,true),(2,true),(3,true),(4,true),(5,true),(6,false),(7,false),(8,true),(9,false)] mixed (by decide +kernel) rfl ?_;intro b0 aJ;replace H:=H.ext aJ;clear aJ
 refine ⟨(H.pk [0,1,2,3,4,5,6,7,8,9,10,11]),?_⟩;refine kg 6 ?_;refine d_l rfl ?_;refine t_bs (α:=Int) T22 [I r1] [(r1:Int)] H rfl (.cons rfl (Flat.rep_enc _ (r1:Int))<|.nil) rfl rfl rfl ?_;intro bv b4 H;have b5:=Sl.cells (H.os 0);have b6:=Sl.oc (H.os 0);refine s_nil ⟨(H.pk [1,2,3,4,5,6,7,8,9,10,11,12]),?_⟩;refine d_l rfl ?_;obtain ⟨b7,bw,hM⟩:=M.e_bind hM;refine s_call cf86 [I av,bv] rfl (zal av ([(r1:Int)]) (rdo 0) (H.os 0) bw _ (H.gt 13)) ?_;rintro vq b8 ⟨r3,rfl,hvq,ap⟩;subst vq;(try dsimp only at hM);replace H:=H.bk ap;clear ap;refine s_nil ⟨(H.pk [1,2,3,4,5,6,7,8,9,10,11,12]),?_⟩;refine d_q rfl (fun w' H=>x_bld (ps:=[(0,I aq),(1,I r3)]) (zs:=[I 0,I 0]) (L':=[I aq,I r3]) rfl Tryz.underlying30 Al30 rfl (Bd30 Tryz.underlying30) (.cons (cs:=[I aq]) rfl rfl rfl rfl rfl<|.cons (cs:=[I r3]) rfl rfl rfl rfl rfl<|.nil))<|d_l rfl ?_;obtain ⟨b9,bx,hM⟩:=M.e_bind hM;refine s_call cf87 [.agg #[I aq,I r3]] rfl (zdq (⟨(aq:Int),(r3:Int)⟩:Span) bx _ (H.gt 13)) ?_
 rintro vq ca ⟨aC,aD,aE,rfl,hvq,ap⟩;subst vq;(try dsimp only at hM);replace H:=H.bk ap;clear ap;refine s_nil ⟨(H.pk [2,3,4,5,6,7,8,9,10,11,12,13]),?_⟩;refine d_nil ?_;replace H:=H.pk [0,2,3,4,5,6,7,8,9,10,12,13];refine WD.block ?_;obtain ⟨cb,bz,hM⟩:=M.e_bind hM;refine WD.range (L:=[cBlk ax [I 0] 3,cBlk aw [I 0,I 0,I 0,I 0] 36,cMemI encSpt ai (zaa ab ac ae),cBlk aE [I aC,I aD] 30,cBlk ao [I 0,I 0,I 0,I 0] 36,cBlk al [.func (.func 110) #[] #[]] 152,cBlk ak [I r_.up,I r_.down,I r_.lo,I r_.hi,B r_.narrow] 44,cBlk am [Pq ag] 107,cBlk au [I r0,I r1] 30,cBlk az [I r_.lo] 3,cBlk aA [B r2] 4]) [Pq aE] (H.pk [7,1,2,8,0,3,4,5,6,9,10,11]) rfl cf111 ?_;intro aP aQ aU bA aV H;have hYC:YieldC Tryz.prog ([cMk (aQ :: ([])),cBlk aE [I aC,I aD] 30,cBlk ao [I 0,I 0,I 0,I 0] 36,cBlk al [.func (.func 110) #[] #[]] 152,cBlk ak [I r_.up,I r_.down,I r_.lo,I r_.hi,B r_.narrow] 44,cBlk am [Pq ag] 107,cBlk au [I r0,I r1] 30,cBlk az [I r_.lo] 3,cBlk aA [B r2] 4]++R) arI (yJ aP aU (fun (s,s2,s3,s4,s5) aR=>aR=[cBlk ax [I s] 3,cBlk aw [I s2,I s3,I s4,I s5] 36,cMemI encSpt ai (zaa ab ac ae)]) (fun (_:Unit) _=>False) (fun _=>.ret)) (.func (.yield aP) #[] #[]) (M.yl (zaZ ab ac ae r_ r1 r2)):=by
  refine YieldC.mk aV (fun (s,s2,s3,s4,s5) aR=>aR=[cBlk ax [I s] 3,cBlk aw [I s2,I s3,I s4,I s5] 36,cMemI encSpt ai (zaa ab ac ae)]) (fun (_:Unit) _=>False) (fun _=>.ret) (zaZ ab ac ae r_ r1 r2) (by rintro ⟨s,s2,s3,s4,s5⟩ _ h_; obtain ⟨rfl⟩:=h_; rfl) (fun _ _ h_=>h_.elim) rfl (arI_len rfl) ?_;intro C_ cc x W_ bB;obtain rfl:=bB;refine kg 3 ?_;refine ⟨rfl,rfl,?_⟩;intro w R aK aR s_ r bC hM H;obtain ⟨s,s2,s3,s4,s5⟩:=s_;obtain ⟨rfl⟩:=bC;replace aF:=aF.sub aK;replace aG:=aG.sub aK;replace aH:=aH.sub aK;replace aI:=aI.sub aK;replace aO:=aO.sub aK;replace hM:(zaZ ab ac ae r_ r1 r2 (s,s2,s3,s4,s5) x).Ends r:=hM;simp only [zaZ] at hM;replace H:=H.pk [0,1,2,4,5,6,7,8,9,10,11,3];refine kg 10 ?_;refine s_val (x_bld (ps:=[(0,I (max r0 x)),(1,I x),(2,I r_.lo),(3,I r_.lo)]) (zs:=[I 0,I 0,I 0,I 0]) (L':=[I (max r0 x),I x,I r_.lo,I r_.lo]) rfl Tryz.underlying36 Al36 rfl (Bd36 Tryz.underlying36) (.cons (cs:=[I (max r0 x)]) rfl rfl rfl rfl rfl<|.cons (cs:=[I x]) rfl rfl rfl rfl rfl<|.cons (cs:=[I r_.lo]) rfl rfl rfl rfl rfl<|.cons (cs:=[I r_.lo]) rfl rfl rfl rfl rfl<|.nil)) ?_;refine t_alloc (cs:=[I 0,I 0,I 0,I 0]) H Al36 rfl ?_;intro cd ce H;refine t_sw 0 0 [I (max r0 x),I x,I r_.lo,I r_.lo] (.agg #[I (max r0 x),I x,I r_.lo,I r_.lo]) H rfl rfl Sz36 rfl rfl rfl rfl ?_;intro cf H;refine kg 6 ?_;refine W.cond r2 rfl (fun aW=>?_) (fun aW=>?_)
  ·replace hM:=M.e_t hM aW;refine kg 4 ?_;refine t_sw 0 0 [I r1] (I r1) H rfl rfl Sz3 rfl rfl rfl rfl ?_;intro cg H;refine kg 6 ?_;obtain ⟨ci,bD,hM⟩:=M.e_bind hM;refine s_call cf55 [Pq ag,.agg #[I r_.up,I r_.down,I r_.lo,I r_.hi,B r_.narrow],.agg #[I r1,I x,I r_.lo,I r_.lo]] rfl (zdP ab ac ae r_ (⟨(r1:Int),(x:Int),(r_.lo:Int),(r_.lo:Int)⟩:Cas) (aF.app _) aL (aG.app _) aM (aH.app _) aN (aI.app _) bD _ ((H.pk [3,0,1,2,4,5,6,7,8,9,10,11,12]).gt 12)) ?_;rintro vq cj ⟨r4,rfl,hvq,ap⟩;subst vq;(try dsimp only at hM);replace H:=H.pk [3,0,1,2,4,5,6,7,8,9,10,11,12] |>.bk ap
   clear ap;refine kg 5 ?_;refine s_val (x_bld (ps:=[]) (zs:=[I 0,I 0,I 0,I 0]) (L':=[I 0,I 0,I 0,I 0]) rfl Tryz.underlying36 Al36 rfl (Bd36 Tryz.underlying36) (.nil))<|s_val (x_eqS (eqT36 (⟨(s2:Int),(s3:Int),(s4:Int),(s5:Int)⟩:Cas) (⟨(0:Int),(0:Int),(0:Int),(0:Int)⟩:Cas) _) gdT36 rfl rfl) ?_;refine kg 5 ?_;obtain ⟨r5,bE,hM⟩:=M.e_bind hM;refine t_gcallv (cap:=[]) (!(decide ((⟨(s2:Int),(s3:Int),(s4:Int),(s5:Int)⟩:Cas)=(⟨(0:Int),(0:Int),(0:Int),(0:Int)⟩:Cas)))) (gy_f rfl) cf110 (fun hg=>(gd_of hg (.func (.func 110) #[] #[]))) (B r5) (fun _=>[I r4,I s]) (fun hg=>lst2 (gd_of hg (I r4)) (gd_of hg (I s))) H (fun hg=>(zef r4 s (M.e_opt bE hg) _ (H.give (A:=[]) rfl)).mono fun v_ w_ ⟨y_,aX,bF,H_⟩=>by subst aX; exact ⟨bF,H.via H_⟩) ?_;intro co H;refine s_val (x_por (b:=decide ((⟨(s2:Int),(s3:Int),(s4:Int),(s5:Int)⟩:Cas)=(⟨(0:Int),(0:Int),(0:Int),(0:Int)⟩:Cas))) (r:=r5) rfl rfl (fun hb=>gd_of (c:=!(decide ((⟨(s2:Int),(s3:Int),(s4:Int),(s5:Int)⟩:Cas)=(⟨(0:Int),(0:Int),(0:Int),(0:Int)⟩:Cas)))) (by first | exact hb | (rw [hb]; rfl) | simp_all) (B r5)))<|s_nil ?_
   refine W.cond ((decide ((⟨(s2:Int),(s3:Int),(s4:Int),(s5:Int)⟩:Cas)=(⟨(0:Int),(0:Int),(0:Int),(0:Int)⟩:Cas)))||r5) rfl (fun aY=>?_) (fun aY=>?_)
   ·replace hM:=M.e_t hM aY;refine kg 3 ?_;refine t_sw 3 0 [I r1,I x,I r_.lo,I r_.lo] (.agg #[I r1,I x,I r_.lo,I r_.lo]) H rfl rfl Sz36 rfl rfl rfl rfl ?_;intro cp H;refine t_sw 2 0 [I r4] (I r4) H rfl rfl Sz3 rfl rfl rfl rfl ?_;intro cq H;refine s_nil ?_;exact ⟨(r4,r1,x,r_.lo,r_.lo),[cBlk ax [I r4] 3,cBlk aw [I r1,I x,I r_.lo,I r_.lo] 36,cMemI encSpt ai (zaa ab ac ae)],(M.e_pure hM).symm,rfl,H.pick [2,3,0,12,4,5,6,7,8,9,10,11] (by decide) rfl⟩
   replace hM:=M.e_f hM aY;refine W.skip ?_;exact ⟨(s,s2,s3,s4,s5),[cBlk ax [I s] 3,cBlk aw [I s2,I s3,I s4,I s5] 36,cMemI encSpt ai (zaa ab ac ae)],(M.e_pure hM).symm,rfl,H.pick [2,3,0,12,4,5,6,7,8,9,10,11] (by decide) rfl⟩
  replace hM:=M.e_f hM aW;exact (M.e_fail hM).elim
 replace H:St w bA (cAll (cObj aP (.loop aU) :: [cBlk ax [I 0] 3,cBlk aw [I 0,I 0,I 0,I 0] 36,cMemI encSpt ai (zaa ab ac ae)]) :: [cMk (aQ :: ([])),cBlk aE [I aC,I aD] 30,cBlk ao [I 0,I 0,I 0,I 0] 36,cBlk al [.func (.func 110) #[] #[]] 152,cBlk ak [I r_.up,I r_.down,I r_.lo,I r_.hi,B r_.narrow] 44,cBlk am [Pq ag] 107,cBlk au [I r0,I r1] 30,cBlk az [I r_.lo] 3,cBlk aA [B r2] 4]) R:=St.bundleB (A:=cObj aP (.loop aU) :: [cBlk ax [I 0] 3,cBlk aw [I 0,I 0,I 0,I 0] 36,cMemI encSpt ai (zaa ab ac ae)]) (T:=[cMk (aQ :: ([])),cBlk aE [I aC,I aD] 30,cBlk ao [I 0,I 0,I 0,I 0] 36,cBlk al [.func (.func 110) #[] #[]] 152,cBlk ak [I r_.up,I r_.down,I r_.lo,I r_.hi,B r_.narrow] 44,cBlk am [Pq ag] 107,cBlk au [I r0,I r1] 30,cBlk az [I r_.lo] 3,cBlk aA [B r2] 4]) rfl (H.pk [0,2,3,4,1,5,6,7,8,9,10,11,12]);refine (zdm (M.yl (zaZ ab ac ae r_ r1 r2)) (.inl (0,0,0,0,0)) aC aD hYC ⟨_,rfl,rfl⟩ (Has.here (k:=1) rfl) bz _ (H.gt 9)).mono ?_;rintro vq cr ⟨bG,ct,rfl,hvq,ap,bf⟩;replace H:=H.back ap rfl;clear ap hYC;rcases bG with ⟨s,s2,s3,s4,s5⟩ | _
 ·(try dsimp only at hM);obtain ⟨_,rfl,rfl⟩:=bf;refine ⟨_,[cBlk ax [I s] 3,cBlk aw [I s2,I s3,I s4,I s5] 36,cMemI encSpt ai (zaa ab ac ae),cBlk aE [I aC,I aD] 30,cBlk ao [I 0,I 0,I 0,I 0] 36,cBlk al [.func (.func 110) #[] #[]] 152,cBlk ak [I r_.up,I r_.down,I r_.lo,I r_.hi,B r_.narrow] 44,cBlk am [Pq ag] 107,cBlk au [I r0,I r1] 30,cBlk az [I r_.lo] 3,cBlk aA [B r2] 4],H.unbundle.pick [0,4,1,2,3,5,6,7,8,9,10,11,12] (by decide) rfl,aV.nb,?_⟩;intro cu H;rw [aV.pd];replace H:=H.nf
  try simp only []
  replace H:=H.pk [0,1,2,3,5];refine WD.seq<|WD.of ?_;refine W.draw (fun W=>St w W [cMk (aQ :: ([])),cBlk ax [I s] 3,cBlk aw [I s2,I s3,I s4,I s5] 36,cMemI encSpt ai (zaa ab ac ae)] R) [(0,true),(1,true),(2,false),(3,true)] mixed (by decide +kernel) rfl ?_;intro cv aJ;replace H:=H.ext aJ;clear aJ
  refine ⟨(H.pk [0,1,2,3]),?_⟩;refine kg 2 ?_;refine d_l rfl ?_;refine t_sw 4 0 [I s2,I s3,I s4,I s5] (.agg #[I s2,I s3,I s4,I s5]) H rfl rfl Sz36 rfl rfl rfl rfl ?_;intro cw H;refine s_nil ⟨(H.pk [0,1,2,3]),?_⟩;refine kg 2 ?_;replace H:=H.pk [0,3,4];refine WD.of ?_;refine W.ret ?_;refine bodyD_r (H.pk [0,1,2]) ?_;intro cx H;replace H:=H.nf;have bH:=(H.bl 1)
  have aX:=M.e_pure hM;exact ⟨_,(resE_ofn (vs:=[.agg #[I s2,I s3,I s4,I s5],I s]) rfl rfl (.cell (v:=.agg #[I s2,I s3,I s4,I s5]) rfl (run_loadVar_ag (ds:=[I s2,I s3,I s4,I s5]) Ag36 Sz36 bH rfl rfl)<|.tmp (v:=I s) rfl<|.nil)),⟨s2,s3,s4,s5,s,aX,rfl,(H.pk [0])⟩⟩
 obtain ⟨_,_,h_⟩:=bf; exact h_.elim

end Go.Proofs.YtbldmjejckjflaaGreat
end
section
set_option maxRecDepth 100000
set_option maxHeartbeats 16000000
namespace Go.Proofs.YtbldmjejckjflaaGreat
open Go Go.Nm
attribute [local irreducible] gd execOp SL SLD SLT WR
def zaA (ab:List Sect) (ac:List Mrk) (ae:List Rch) (marks:List Int) (r_:Rch):M (Int × Int) :=
  M.bind (zco) fun (_:Unit) =>
  M.bind (zbf ab ac ae marks r_) fun (ai,aj,ak,al,r1) =>
  M.bind (zbH) fun (_:Unit) =>
  M.bind (zbi ab ac ae marks r_) fun (am,ao,ap,aq,ag) =>
  M.pure (r1,ag)
theorem zcJ {R:List Chunk} {ap:Nat} {aN:Cells} {aO:Value} {aP:Cells} {aQ:Value} {aR:Cells} {aS:Value} {aM:Nat} {aT:Cells} {aq:Value} (al:List Sect) (am:List Mrk) (ao:List Rch) (marks:List Int) (r_:Rch) (au:Reads R aN) (av:Sl aN aO al) (aw:Reads R aP) (ax:Sl aP aQ am) (ay:Reads R aR) (az:Sl aR aS ao) (aA:Has R (cBlk ap [aO,aQ,aS,.map (some aM)] 163)) (aB:Reads R aT) (aC:Sl aT aq marks) {r:(Int × Int)} (hM:(zaA al am ao marks r_).Ends r) (w:World) (H:St w w [cMemI encSpt aM (zaa al am ao)] R):Ret Tryz.prog 80 #[Pq ap,aq,.agg #[I r_.up,I r_.down,I r_.lo,I r_.hi,B r_.narrow]] w fun v w'=>∃ (y0:Int) (y1:Int),(y0,y1)=r/\v = .agg #[I y0,I y1]/\St w w' [cMemI encSpt aM (zaa al am ao)] R:=by
 refine ret_of_W Tryz.func80 rfl rfl rfl ?_;refine kg 2 ?_;refine t_bx [I r_.up,I r_.down,I r_.lo,I r_.hi,B r_.narrow] H rfl ?_;intro aK bB H;refine t_alloc (cs:=[I 0,I 0]) H Al30 rfl ?_;intro aL bC H;refine kg 2 ?_;refine W.drawT (fun W=>St w W [cBlk aL [I 0,I 0] 30,cBlk aK [I r_.up,I r_.down,I r_.lo,I r_.hi,B r_.narrow] 44] R) (.q 0 (.q 1 (.q 2 (.l2 3 (.l2 4 (.q 5 (.q 6 (.q 7 (.l 8 (.l 9 (.q 10 .nil)))))) 8 (.l 4 (.q 5 (.q 6 (.q 7 (.l 9 (.q 10 .nil))))))) 8 (.l 3 (.l 4 (.q 5 (.q 6 (.q 7 (.l 9 (.q 10 .nil))))))))))) mixed (by decide +kernel) rfl ?_;intro bD aD;replace H:=H.ext aD;clear aD;refine ⟨(H.pk [0,1]),?_⟩;refine kg 3 ?_;refine t_l2 rfl rfl ?_ ?_
 ·skip
  obtain ⟨bE,aU,hM⟩:=M.e_bind hM;refine s_call cf83 [] rfl (zdA aU _ (H.gt 3)) ?_;rintro vq bF ⟨rfl,hvq,ac⟩;subst vq;(try dsimp only at hM);replace H:=H.bk ac;clear ac;refine s_nil ⟨(H.pk [0,1]),?_⟩;refine t_l2 rfl rfl ?_ ?_
  ·skip
   obtain ⟨bG,aV,hM⟩:=M.e_bind hM;refine s_call cf85 [Pq ap,aq,.agg #[I r_.up,I r_.down,I r_.lo,I r_.hi,B r_.narrow],.agg #[.func (.func 109) #[] #[]]] rfl (zc0 al am ao marks r_ (au.app _) av (aw.app _) ax (ay.app _) az (aA.app _) (aB.app _) aC aV _ ((H.pk [2,0,1]).gt 2)) ?_;rintro vq bH ⟨aE,aF,aG,aH,r1,rfl,hvq,ac⟩;subst vq;(try dsimp only at hM);replace H:=H.pk [2,0,1] |>.bk ac
   clear ac;refine s_nil ⟨(H.pk [1,2]),?_⟩;refine kg 3 ?_;refine t_l rfl ?_;refine t_alloc (cs:=[I 0,I 0,I 0,I 0]) H Al36 rfl ?_;intro aJ bI H;refine s_nil ⟨(H.pk [2,3]),?_⟩;refine t_l rfl ?_;refine t_sw 0 0 [I aE,I aF,I aG,I aH] (.agg #[I aE,I aF,I aG,I aH]) H rfl rfl Sz36 rfl rfl rfl rfl ?_;intro bJ H;refine s_nil ⟨(H.pk [2,3]),?_⟩;refine kg 3 ?_;refine W.drawT (fun W=>St w W [cBlk aJ [I aE,I aF,I aG,I aH] 36,cBlk aL [I 0,I 0] 30,cBlk aK [I r_.up,I r_.down,I r_.lo,I r_.hi,B r_.narrow] 44] R) (.q 0 (.q 1 (.q 2 (.l2 3 (.l2 4 (.q 5 (.q 6 (.q 7 (.l 8 (.l 9 (.q 10 .nil)))))) 8 (.l 4 (.q 5 (.q 6 (.q 7 (.l 9 (.q 10 .nil))))))) 8 (.l 3 (.l 4 (.q 5 (.q 6 (.q 7 (.l 9 (.q 10 .nil))))))))))) mixed (by decide +kernel) rfl ?_;intro bK aD;replace H:=H.ext aD;clear aD;refine ⟨(H.pk [0,2,3]),?_⟩;refine kg 3 ?_;refine t_l2 rfl rfl ?_ ?_
   ·skip
    obtain ⟨bL,aW,hM⟩:=M.e_bind hM;refine s_call cf84 [] rfl (zaI aW _ (H.gt 4)) ?_;rintro vq bM ⟨rfl,hvq,ac⟩;subst vq;(try dsimp only at hM);replace H:=H.bk ac;clear ac;refine s_nil ⟨(H.pk [0,2,3]),?_⟩;refine t_l2 rfl rfl ?_ ?_
    ·skip
     obtain ⟨bN,aX,hM⟩:=M.e_bind hM;refine s_call cf85 [Pq ap,aq,.agg #[I r_.up,I r_.down,I r_.lo,I r_.hi,B r_.narrow],.agg #[.func (.func 110) #[] #[]]] rfl (zap al am ao marks r_ (au.app _) av (aw.app _) ax (ay.app _) az (aA.app _) (aB.app _) aC aX _ ((H.pk [1,0,2,3]).gt 3)) ?_;rintro vq bO ⟨ae,ag,ai,aj,ab,rfl,hvq,ac⟩;subst vq;(try dsimp only at hM);replace H:=H.pk [1,0,2,3] |>.bk ac
     clear ac;refine s_nil ⟨(H.pk [1,2,3]),?_⟩;refine kg 3 ?_;refine t_l rfl ?_;refine t_alloc (cs:=[I 0,I 0,I 0,I 0]) H Al36 rfl ?_;intro aI bP H;refine s_nil ⟨(H.pk [2,3,4]),?_⟩;refine t_l rfl ?_;refine t_sw 0 0 [I ae,I ag,I ai,I aj] (.agg #[I ae,I ag,I ai,I aj]) H rfl rfl Sz36 rfl rfl rfl rfl ?_;intro bQ H;refine s_nil ⟨(H.pk [2,3,4]),?_⟩;refine kg 2 ?_;replace H:=H.pk [1,3];refine kg 4 ?_;refine s_val (x_bld (ps:=[(0,I r1),(1,I ab)]) (zs:=[I 0,I 0]) (L':=[I r1,I ab]) rfl Tryz.underlying30 Al30 rfl (Bd30 Tryz.underlying30) (.cons (cs:=[I r1]) rfl rfl rfl rfl rfl<|.cons (cs:=[I ab]) rfl rfl rfl rfl rfl<|.nil)) ?_;refine t_sw 1 0 [I r1,I ab] (.agg #[I r1,I ab]) H rfl rfl Sz30 rfl rfl rfl rfl ?_;intro bR H;refine s_nil ?_;refine W.ret ?_;have aY:=(H.bl 1)
     have ak:=M.e_pure hM;exact ⟨_,(resE_of1 (v:=.agg #[I r1,I ab]) rfl (.cell (v:=.agg #[I r1,I ab]) rfl (run_loadVar_ag (ds:=[I r1,I ab]) Ag30 Sz30 aY rfl rfl)<|.nil)),⟨r1,ab,ak,rfl,(H.pk [0])⟩⟩
    skip
    refine t_alloc (cs:=[I 0,I 0,I 0,I 0]) H Al36 rfl ?_;intro aI bS H;refine s_nil ⟨(H.pk [1,3,4]),?_⟩;refine t_l rfl ?_;obtain ⟨bT,aZ,hM⟩:=M.e_bind hM;refine s_call cf85 [Pq ap,aq,.agg #[I r_.up,I r_.down,I r_.lo,I r_.hi,B r_.narrow],.agg #[.func (.func 110) #[] #[]]] rfl (zap al am ao marks r_ (au.app _) av (aw.app _) ax (ay.app _) az (aA.app _) (aB.app _) aC aZ _ ((H.pk [2,0,1,3,4]).gt 4)) ?_;rintro vq bU ⟨ae,ag,ai,aj,ab,rfl,hvq,ac⟩;subst vq;(try dsimp only at hM);replace H:=H.pk [2,0,1,3,4] |>.bk ac
    clear ac;refine s_nil ⟨(H.pk [2,3,4]),?_⟩;refine kg 3 ?_;refine t_l rfl ?_;refine t_sw 1 0 [I ae,I ag,I ai,I aj] (.agg #[I ae,I ag,I ai,I aj]) H rfl rfl Sz36 rfl rfl rfl rfl ?_;intro bV H;refine s_nil ⟨(H.pk [2,3,4]),?_⟩;refine kg 2 ?_;replace H:=H.pk [0,3];refine kg 4 ?_;refine s_val (x_bld (ps:=[(0,I r1),(1,I ab)]) (zs:=[I 0,I 0]) (L':=[I r1,I ab]) rfl Tryz.underlying30 Al30 rfl (Bd30 Tryz.underlying30) (.cons (cs:=[I r1]) rfl rfl rfl rfl rfl<|.cons (cs:=[I ab]) rfl rfl rfl rfl rfl<|.nil)) ?_;refine t_sw 1 0 [I r1,I ab] (.agg #[I r1,I ab]) H rfl rfl Sz30 rfl rfl rfl rfl ?_;intro bW H;refine s_nil ?_;refine W.ret ?_;have a6:=(H.bl 1)
    have ak:=M.e_pure hM;exact ⟨_,(resE_of1 (v:=.agg #[I r1,I ab]) rfl (.cell (v:=.agg #[I r1,I ab]) rfl (run_loadVar_ag (ds:=[I r1,I ab]) Ag30 Sz30 a6 rfl rfl)<|.nil)),⟨r1,ab,ak,rfl,(H.pk [0])⟩⟩
   skip
   refine t_alloc (cs:=[I 0,I 0,I 0,I 0]) H Al36 rfl ?_;intro aI bX H;refine s_nil ⟨(H.pk [1,3,4]),?_⟩;refine t_l rfl ?_;obtain ⟨bY,a7,hM⟩:=M.e_bind hM;refine s_call cf84 [] rfl (zaI a7 _ (H.gt 5)) ?_;rintro vq bZ ⟨rfl,hvq,ac⟩;subst vq;(try dsimp only at hM);replace H:=H.bk ac;clear ac;refine s_nil ⟨(H.pk [1,3,4]),?_⟩;refine t_l rfl ?_;obtain ⟨b0,a8,hM⟩:=M.e_bind hM;refine s_call cf85 [Pq ap,aq,.agg #[I r_.up,I r_.down,I r_.lo,I r_.hi,B r_.narrow],.agg #[.func (.func 110) #[] #[]]] rfl (zap al am ao marks r_ (au.app _) av (aw.app _) ax (ay.app _) az (aA.app _) (aB.app _) aC a8 _ ((H.pk [2,0,1,3,4]).gt 4)) ?_;rintro vq b4 ⟨ae,ag,ai,aj,ab,rfl,hvq,ac⟩;subst vq;(try dsimp only at hM);replace H:=H.pk [2,0,1,3,4] |>.bk ac
   clear ac;refine s_nil ⟨(H.pk [2,3,4]),?_⟩;refine kg 3 ?_;refine t_l rfl ?_;refine t_sw 1 0 [I ae,I ag,I ai,I aj] (.agg #[I ae,I ag,I ai,I aj]) H rfl rfl Sz36 rfl rfl rfl rfl ?_;intro b5 H;refine s_nil ⟨(H.pk [2,3,4]),?_⟩;refine kg 2 ?_;replace H:=H.pk [0,3];refine kg 4 ?_;refine s_val (x_bld (ps:=[(0,I r1),(1,I ab)]) (zs:=[I 0,I 0]) (L':=[I r1,I ab]) rfl Tryz.underlying30 Al30 rfl (Bd30 Tryz.underlying30) (.cons (cs:=[I r1]) rfl rfl rfl rfl rfl<|.cons (cs:=[I ab]) rfl rfl rfl rfl rfl<|.nil)) ?_;refine t_sw 1 0 [I r1,I ab] (.agg #[I r1,I ab]) H rfl rfl Sz30 rfl rfl rfl rfl ?_;intro b6 H;refine s_nil ?_;refine W.ret ?_;have ba:=(H.bl 1)
   have ak:=M.e_pure hM;exact ⟨_,(resE_of1 (v:=.agg #[I r1,I ab]) rfl (.cell (v:=.agg #[I r1,I ab]) rfl (run_loadVar_ag (ds:=[I r1,I ab]) Ag30 Sz30 ba rfl rfl)<|.nil)),⟨r1,ab,ak,rfl,(H.pk [0])⟩⟩
  skip
  refine t_alloc (cs:=[I 0,I 0,I 0,I 0]) H Al36 rfl ?_;intro aJ b7 H;refine s_nil ⟨(H.pk [1,2]),?_⟩;refine t_l rfl ?_;obtain ⟨b8,bb,hM⟩:=M.e_bind hM;refine s_call cf85 [Pq ap,aq,.agg #[I r_.up,I r_.down,I r_.lo,I r_.hi,B r_.narrow],.agg #[.func (.func 109) #[] #[]]] rfl (zc0 al am ao marks r_ (au.app _) av (aw.app _) ax (ay.app _) az (aA.app _) (aB.app _) aC bb _ ((H.pk [3,0,1,2]).gt 3)) ?_;rintro vq b9 ⟨aE,aF,aG,aH,r1,rfl,hvq,ac⟩;subst vq;(try dsimp only at hM);replace H:=H.pk [3,0,1,2] |>.bk ac
  clear ac;refine s_nil ⟨(H.pk [2,3]),?_⟩;refine kg 3 ?_;refine t_l rfl ?_;refine t_sw 1 0 [I aE,I aF,I aG,I aH] (.agg #[I aE,I aF,I aG,I aH]) H rfl rfl Sz36 rfl rfl rfl rfl ?_;intro ca H;refine s_nil ⟨(H.pk [2,3]),?_⟩;refine kg 3 ?_;refine W.drawT (fun W=>St w W [cBlk aJ [I aE,I aF,I aG,I aH] 36,cBlk aL [I 0,I 0] 30,cBlk aK [I r_.up,I r_.down,I r_.lo,I r_.hi,B r_.narrow] 44] R) (.q 0 (.q 1 (.q 2 (.l2 3 (.l2 4 (.q 5 (.q 6 (.q 7 (.l 8 (.l 9 (.q 10 .nil)))))) 8 (.l 4 (.q 5 (.q 6 (.q 7 (.l 9 (.q 10 .nil))))))) 8 (.l 3 (.l 4 (.q 5 (.q 6 (.q 7 (.l 9 (.q 10 .nil))))))))))) mixed (by decide +kernel) rfl ?_;intro cb aD;replace H:=H.ext aD;clear aD;refine ⟨(H.pk [1,2,3]),?_⟩;refine kg 3 ?_;refine t_l2 rfl rfl ?_ ?_
  ·skip
   obtain ⟨cc,bc,hM⟩:=M.e_bind hM;refine s_call cf84 [] rfl (zaI bc _ (H.gt 4)) ?_;rintro vq cd ⟨rfl,hvq,ac⟩;subst vq;(try dsimp only at hM);replace H:=H.bk ac;clear ac;refine s_nil ⟨(H.pk [1,2,3]),?_⟩;refine t_l2 rfl rfl ?_ ?_
   ·skip
    obtain ⟨ce,bf,hM⟩:=M.e_bind hM;refine s_call cf85 [Pq ap,aq,.agg #[I r_.up,I r_.down,I r_.lo,I r_.hi,B r_.narrow],.agg #[.func (.func 110) #[] #[]]] rfl (zap al am ao marks r_ (au.app _) av (aw.app _) ax (ay.app _) az (aA.app _) (aB.app _) aC bf _ (H.gt 3)) ?_;rintro vq cf ⟨ae,ag,ai,aj,ab,rfl,hvq,ac⟩;subst vq;(try dsimp only at hM);replace H:=H.bk ac;clear ac;refine s_nil ⟨(H.pk [1,2,3]),?_⟩;refine kg 3 ?_;refine t_l rfl ?_;refine t_alloc (cs:=[I 0,I 0,I 0,I 0]) H Al36 rfl ?_;intro aI cg H;refine s_nil ⟨(H.pk [2,3,4]),?_⟩;refine t_l rfl ?_;refine t_sw 0 0 [I ae,I ag,I ai,I aj] (.agg #[I ae,I ag,I ai,I aj]) H rfl rfl Sz36 rfl rfl rfl rfl ?_;intro ci H;refine s_nil ⟨(H.pk [2,3,4]),?_⟩;refine kg 2 ?_;replace H:=H.pk [1,3];refine kg 4 ?_;refine s_val (x_bld (ps:=[(0,I r1),(1,I ab)]) (zs:=[I 0,I 0]) (L':=[I r1,I ab]) rfl Tryz.underlying30 Al30 rfl (Bd30 Tryz.underlying30) (.cons (cs:=[I r1]) rfl rfl rfl rfl rfl<|.cons (cs:=[I ab]) rfl rfl rfl rfl rfl<|.nil)) ?_;refine t_sw 1 0 [I r1,I ab] (.agg #[I r1,I ab]) H rfl rfl Sz30 rfl rfl rfl rfl ?_;intro cj H;refine s_nil ?_;refine W.ret ?_;have bg:=(H.bl 1)
    have ak:=M.e_pure hM;exact ⟨_,(resE_of1 (v:=.agg #[I r1,I ab]) rfl (.cell (v:=.agg #[I r1,I ab]) rfl (run_loadVar_ag (ds:=[I r1,I ab]) Ag30 Sz30 bg rfl rfl)<|.nil)),⟨r1,ab,ak,rfl,(H.pk [0])⟩⟩
   skip
   refine t_alloc (cs:=[I 0,I 0,I 0,I 0]) H Al36 rfl ?_;intro aI co H;refine s_nil ⟨(H.pk [2,3,4]),?_⟩;refine t_l rfl ?_;obtain ⟨cp,bh,hM⟩:=M.e_bind hM;refine s_call cf85 [Pq ap,aq,.agg #[I r_.up,I r_.down,I r_.lo,I r_.hi,B r_.narrow],.agg #[.func (.func 110) #[] #[]]] rfl (zap al am ao marks r_ (au.app _) av (aw.app _) ax (ay.app _) az (aA.app _) (aB.app _) aC bh _ ((H.pk [1,0,2,3,4]).gt 4)) ?_;rintro vq cq ⟨ae,ag,ai,aj,ab,rfl,hvq,ac⟩;subst vq;(try dsimp only at hM);replace H:=H.pk [1,0,2,3,4] |>.bk ac
   clear ac;refine s_nil ⟨(H.pk [2,3,4]),?_⟩;refine kg 3 ?_;refine t_l rfl ?_;refine t_sw 1 0 [I ae,I ag,I ai,I aj] (.agg #[I ae,I ag,I ai,I aj]) H rfl rfl Sz36 rfl rfl rfl rfl ?_;intro cr H;refine s_nil ⟨(H.pk [2,3,4]),?_⟩;refine kg 2 ?_;replace H:=H.pk [0,3];refine kg 4 ?_;refine s_val (x_bld (ps:=[(0,I r1),(1,I ab)]) (zs:=[I 0,I 0]) (L':=[I r1,I ab]) rfl Tryz.underlying30 Al30 rfl (Bd30 Tryz.underlying30) (.cons (cs:=[I r1]) rfl rfl rfl rfl rfl<|.cons (cs:=[I ab]) rfl rfl rfl rfl rfl<|.nil)) ?_;refine t_sw 1 0 [I r1,I ab] (.agg #[I r1,I ab]) H rfl rfl Sz30 rfl rfl rfl rfl ?_;intro ct H;refine s_nil ?_;refine W.ret ?_;have bi:=(H.bl 1)
   have ak:=M.e_pure hM;exact ⟨_,(resE_of1 (v:=.agg #[I r1,I ab]) rfl (.cell (v:=.agg #[I r1,I ab]) rfl (run_loadVar_ag (ds:=[I r1,I ab]) Ag30 Sz30 bi rfl rfl)<|.nil)),⟨r1,ab,ak,rfl,(H.pk [0])⟩⟩
  skip
  refine t_alloc (cs:=[I 0,I 0,I 0,I 0]) H Al36 rfl ?_;intro aI cu H;refine s_nil ⟨(H.pk [2,3,4]),?_⟩;refine t_l rfl ?_;obtain ⟨cv,bj,hM⟩:=M.e_bind hM;refine s_call cf84 [] rfl (zaI bj _ (H.gt 5)) ?_;rintro vq cw ⟨rfl,hvq,ac⟩;subst vq;(try dsimp only at hM);replace H:=H.bk ac;clear ac;refine s_nil ⟨(H.pk [2,3,4]),?_⟩;refine t_l rfl ?_;obtain ⟨cx,bm,hM⟩:=M.e_bind hM;refine s_call cf85 [Pq ap,aq,.agg #[I r_.up,I r_.down,I r_.lo,I r_.hi,B r_.narrow],.agg #[.func (.func 110) #[] #[]]] rfl (zap al am ao marks r_ (au.app _) av (aw.app _) ax (ay.app _) az (aA.app _) (aB.app _) aC bm _ ((H.pk [1,0,2,3,4]).gt 4)) ?_;rintro vq cy ⟨ae,ag,ai,aj,ab,rfl,hvq,ac⟩;subst vq;(try dsimp only at hM);replace H:=H.pk [1,0,2,3,4] |>.bk ac
  clear ac;refine s_nil ⟨(H.pk [2,3,4]),?_⟩;refine kg 3 ?_;refine t_l rfl ?_;refine t_sw 1 0 [I ae,I ag,I ai,I aj] (.agg #[I ae,I ag,I ai,I aj]) H rfl rfl Sz36 rfl rfl rfl rfl ?_;intro cz H;refine s_nil ⟨(H.pk [2,3,4]),?_⟩;refine kg 2 ?_;replace H:=H.pk [0,3];refine kg 4 ?_;refine s_val (x_bld (ps:=[(0,I r1),(1,I ab)]) (zs:=[I 0,I 0]) (L':=[I r1,I ab]) rfl Tryz.underlying30 Al30 rfl (Bd30 Tryz.underlying30) (.cons (cs:=[I r1]) rfl rfl rfl rfl rfl<|.cons (cs:=[I ab]) rfl rfl rfl rfl rfl<|.nil)) ?_;refine t_sw 1 0 [I r1,I ab] (.agg #[I r1,I ab]) H rfl rfl Sz30 rfl rfl rfl rfl ?_;intro cA H;refine s_nil ?_;refine W.ret ?_;have bn:=(H.bl 1)
  have ak:=M.e_pure hM;exact ⟨_,(resE_of1 (v:=.agg #[I r1,I ab]) rfl (.cell (v:=.agg #[I r1,I ab]) rfl (run_loadVar_ag (ds:=[I r1,I ab]) Ag30 Sz30 bn rfl rfl)<|.nil)),⟨r1,ab,ak,rfl,(H.pk [0])⟩⟩
 skip
 refine t_alloc (cs:=[I 0,I 0,I 0,I 0]) H Al36 rfl ?_;intro aJ cB H;refine s_nil ⟨(H.pk [1,2]),?_⟩;refine t_l rfl ?_;obtain ⟨cC,bo,hM⟩:=M.e_bind hM;refine s_call cf83 [] rfl (zdA bo _ (H.gt 4)) ?_;rintro vq cD ⟨rfl,hvq,ac⟩;subst vq;(try dsimp only at hM);replace H:=H.bk ac;clear ac;refine s_nil ⟨(H.pk [1,2]),?_⟩;refine t_l rfl ?_;obtain ⟨cE,bp,hM⟩:=M.e_bind hM;refine s_call cf85 [Pq ap,aq,.agg #[I r_.up,I r_.down,I r_.lo,I r_.hi,B r_.narrow],.agg #[.func (.func 109) #[] #[]]] rfl (zc0 al am ao marks r_ (au.app _) av (aw.app _) ax (ay.app _) az (aA.app _) (aB.app _) aC bp _ ((H.pk [3,0,1,2]).gt 3)) ?_;rintro vq cF ⟨aE,aF,aG,aH,r1,rfl,hvq,ac⟩;subst vq;(try dsimp only at hM);replace H:=H.pk [3,0,1,2] |>.bk ac
 clear ac;refine s_nil ⟨(H.pk [2,3]),?_⟩;refine kg 3 ?_;refine t_l rfl ?_;refine t_sw 1 0 [I aE,I aF,I aG,I aH] (.agg #[I aE,I aF,I aG,I aH]) H rfl rfl Sz36 rfl rfl rfl rfl ?_;intro cG H;refine s_nil ⟨(H.pk [2,3]),?_⟩;refine kg 3 ?_;refine W.drawT (fun W=>St w W [cBlk aJ [I aE,I aF,I aG,I aH] 36,cBlk aL [I 0,I 0] 30,cBlk aK [I r_.up,I r_.down,I r_.lo,I r_.hi,B r_.narrow] 44] R) (.q 0 (.q 1 (.q 2 (.l2 3 (.l2 4 (.q 5 (.q 6 (.q 7 (.l 8 (.l 9 (.q 10 .nil)))))) 8 (.l 4 (.q 5 (.q 6 (.q 7 (.l 9 (.q 10 .nil))))))) 8 (.l 3 (.l 4 (.q 5 (.q 6 (.q 7 (.l 9 (.q 10 .nil))))))))))) mixed (by decide +kernel) rfl ?_;intro cH aD;replace H:=H.ext aD;clear aD;refine ⟨(H.pk [1,2,3]),?_⟩;refine kg 3 ?_;refine t_l2 rfl rfl ?_ ?_
 ·skip
  obtain ⟨cI,br,hM⟩:=M.e_bind hM;refine s_call cf84 [] rfl (zaI br _ (H.gt 4)) ?_;rintro vq cJ ⟨rfl,hvq,ac⟩;subst vq;(try dsimp only at hM);replace H:=H.bk ac;clear ac;refine s_nil ⟨(H.pk [1,2,3]),?_⟩;refine t_l2 rfl rfl ?_ ?_
  ·skip
   obtain ⟨cK,bt,hM⟩:=M.e_bind hM;refine s_call cf85 [Pq ap,aq,.agg #[I r_.up,I r_.down,I r_.lo,I r_.hi,B r_.narrow],.agg #[.func (.func 110) #[] #[]]] rfl (zap al am ao marks r_ (au.app _) av (aw.app _) ax (ay.app _) az (aA.app _) (aB.app _) aC bt _ (H.gt 3)) ?_;rintro vq cL ⟨ae,ag,ai,aj,ab,rfl,hvq,ac⟩;subst vq;(try dsimp only at hM);replace H:=H.bk ac;clear ac;refine s_nil ⟨(H.pk [1,2,3]),?_⟩;refine kg 3 ?_;refine t_l rfl ?_;refine t_alloc (cs:=[I 0,I 0,I 0,I 0]) H Al36 rfl ?_;intro aI cM H;refine s_nil ⟨(H.pk [2,3,4]),?_⟩;refine t_l rfl ?_;refine t_sw 0 0 [I ae,I ag,I ai,I aj] (.agg #[I ae,I ag,I ai,I aj]) H rfl rfl Sz36 rfl rfl rfl rfl ?_;intro cN H;refine s_nil ⟨(H.pk [2,3,4]),?_⟩;refine kg 2 ?_;replace H:=H.pk [1,3];refine kg 4 ?_;refine s_val (x_bld (ps:=[(0,I r1),(1,I ab)]) (zs:=[I 0,I 0]) (L':=[I r1,I ab]) rfl Tryz.underlying30 Al30 rfl (Bd30 Tryz.underlying30) (.cons (cs:=[I r1]) rfl rfl rfl rfl rfl<|.cons (cs:=[I ab]) rfl rfl rfl rfl rfl<|.nil)) ?_;refine t_sw 1 0 [I r1,I ab] (.agg #[I r1,I ab]) H rfl rfl Sz30 rfl rfl rfl rfl ?_;intro cO H;refine s_nil ?_;refine W.ret ?_;have bu:=(H.bl 1)
   have ak:=M.e_pure hM;exact ⟨_,(resE_of1 (v:=.agg #[I r1,I ab]) rfl (.cell (v:=.agg #[I r1,I ab]) rfl (run_loadVar_ag (ds:=[I r1,I ab]) Ag30 Sz30 bu rfl rfl)<|.nil)),⟨r1,ab,ak,rfl,(H.pk [0])⟩⟩
  skip
  refine t_alloc (cs:=[I 0,I 0,I 0,I 0]) H Al36 rfl ?_;intro aI cP H;refine s_nil ⟨(H.pk [2,3,4]),?_⟩;refine t_l rfl ?_;obtain ⟨cQ,bv,hM⟩:=M.e_bind hM;refine s_call cf85 [Pq ap,aq,.agg #[I r_.up,I r_.down,I r_.lo,I r_.hi,B r_.narrow],.agg #[.func (.func 110) #[] #[]]] rfl (zap al am ao marks r_ (au.app _) av (aw.app _) ax (ay.app _) az (aA.app _) (aB.app _) aC bv _ ((H.pk [1,0,2,3,4]).gt 4)) ?_;rintro vq cR ⟨ae,ag,ai,aj,ab,rfl,hvq,ac⟩;subst vq;(try dsimp only at hM);replace H:=H.pk [1,0,2,3,4] |>.bk ac
  clear ac;refine s_nil ⟨(H.pk [2,3,4]),?_⟩;refine kg 3 ?_;refine t_l rfl ?_;refine t_sw 1 0 [I ae,I ag,I ai,I aj] (.agg #[I ae,I ag,I ai,I aj]) H rfl rfl Sz36 rfl rfl rfl rfl ?_;intro cS H;refine s_nil ⟨(H.pk [2,3,4]),?_⟩;refine kg 2 ?_;replace H:=H.pk [0,3];refine kg 4 ?_;refine s_val (x_bld (ps:=[(0,I r1),(1,I ab)]) (zs:=[I 0,I 0]) (L':=[I r1,I ab]) rfl Tryz.underlying30 Al30 rfl (Bd30 Tryz.underlying30) (.cons (cs:=[I r1]) rfl rfl rfl rfl rfl<|.cons (cs:=[I ab]) rfl rfl rfl rfl rfl<|.nil)) ?_;refine t_sw 1 0 [I r1,I ab] (.agg #[I r1,I ab]) H rfl rfl Sz30 rfl rfl rfl rfl ?_;intro cT H;refine s_nil ?_;refine W.ret ?_;have bw:=(H.bl 1)
  have ak:=M.e_pure hM;exact ⟨_,(resE_of1 (v:=.agg #[I r1,I ab]) rfl (.cell (v:=.agg #[I r1,I ab]) rfl (run_loadVar_ag (ds:=[I r1,I ab]) Ag30 Sz30 bw rfl rfl)<|.nil)),⟨r1,ab,ak,rfl,(H.pk [0])⟩⟩
 skip
 refine t_alloc (cs:=[I 0,I 0,I 0,I 0]) H Al36 rfl ?_;intro aI cU H;refine s_nil ⟨(H.pk [2,3,4]),?_⟩;refine t_l rfl ?_;obtain ⟨cV,bx,hM⟩:=M.e_bind hM;refine s_call cf84 [] rfl (zaI bx _ (H.gt 5)) ?_;rintro vq cW ⟨rfl,hvq,ac⟩;subst vq;(try dsimp only at hM);replace H:=H.bk ac;clear ac;refine s_nil ⟨(H.pk [2,3,4]),?_⟩;refine t_l rfl ?_;obtain ⟨cX,bz,hM⟩:=M.e_bind hM;refine s_call cf85 [Pq ap,aq,.agg #[I r_.up,I r_.down,I r_.lo,I r_.hi,B r_.narrow],.agg #[.func (.func 110) #[] #[]]] rfl (zap al am ao marks r_ (au.app _) av (aw.app _) ax (ay.app _) az (aA.app _) (aB.app _) aC bz _ ((H.pk [1,0,2,3,4]).gt 4)) ?_;rintro vq cY ⟨ae,ag,ai,aj,ab,rfl,hvq,ac⟩;subst vq;(try dsimp only at hM);replace H:=H.pk [1,0,2,3,4] |>.bk ac
 clear ac;refine s_nil ⟨(H.pk [2,3,4]),?_⟩;refine kg 3 ?_;refine t_l rfl ?_;refine t_sw 1 0 [I ae,I ag,I ai,I aj] (.agg #[I ae,I ag,I ai,I aj]) H rfl rfl Sz36 rfl rfl rfl rfl ?_;intro cZ H;refine s_nil ⟨(H.pk [2,3,4]),?_⟩;refine kg 2 ?_;replace H:=H.pk [0,3];refine kg 4 ?_;refine s_val (x_bld (ps:=[(0,I r1),(1,I ab)]) (zs:=[I 0,I 0]) (L':=[I r1,I ab]) rfl Tryz.underlying30 Al30 rfl (Bd30 Tryz.underlying30) (.cons (cs:=[I r1]) rfl rfl rfl rfl rfl<|.cons (cs:=[I ab]) rfl rfl rfl rfl rfl<|.nil)) ?_;refine t_sw 1 0 [I r1,I ab] (.agg #[I r1,I ab]) H rfl rfl Sz30 rfl rfl rfl rfl ?_;intro da H;refine s_nil ?_;refine W.ret ?_;have bA:=(H.bl 1)
 have ak:=M.e_pure hM;exact ⟨_,(resE_of1 (v:=.agg #[I r1,I ab]) rfl (.cell (v:=.agg #[I r1,I ab]) rfl (run_loadVar_ag (ds:=[I r1,I ab]) Ag30 Sz30 bA rfl rfl)<|.nil)),⟨r1,ab,ak,rfl,(H.pk [0])⟩⟩

def zab (n ab greatest:Int):M Bool :=
  M.pure ((decide (ab<=n))&&(decide (n<=greatest)))
theorem zac {R:List Chunk}  (n:Int) (ab:Int) (greatest:Int)  {r:Bool} (hM:(zab n ab greatest).Ends r) (w:World) (H:St w w [] R):Ret Tryz.prog 45 #[I n,I ab,I greatest] w fun v w'=>∃ (y0:Bool),y0=r/\v=B y0/\St w w' [] R:=by
 refine ret_of_W Tryz.func45 rfl rfl rfl ?_;refine kg 13 ?_;refine s_val (x_pand (b:=decide (ab<=n)) (r:=decide (n<=greatest)) rfl (fun hb=>gd_of (c:=decide (ab<=n)) (by first | exact hb | (rw [hb]; rfl) | simp_all) (B (decide (n<=greatest)))) rfl) ?_;refine kg 2 ?_;refine W.ret ?_;have ac:=M.e_pure hM;exact ⟨_,resE_tmp rfl,⟨((decide (ab<=n))&&(decide (n<=greatest))),ac,rfl,H⟩⟩

def zaY (s:List Sect) (f:Sect->M Bool):Nat->M (Nat ⊕ (Int ⊕ Unit)):=fun s2 =>
  bif decide ((s2:Int)<(s.length:Int)) then (
  M.grd (decide ((s2:Int)<(s.length:Int))) <|
  M.bind (f (s.getD s2 default)) fun r2 =>
  bif r2 then (
  M.pure (.inr (.inl (s2:Int))))
  else (
  M.pure (.inl (s2+1))))
  else (
  M.pure (.inr (.inr ())))
def zcT (s:List Sect) (f:Sect->M Bool):M Int :=
  M.bind (M.iter (zaY s f) 0) fun x_=>match x_ with
  | (.inl s3)=>(
  M.pure s3)
  | (.inr (_:Unit))=>(
  M.pure (-1))
theorem zeW {R:List Chunk} {am:Cells} {ae:Value} {ag:Value} (s:List Sect) (f:Sect->M Bool) (ao:Reads R am) (ap:Sl am ae s) (aw:FnM Tryz.prog R ag f) {r:Int} (hM:(zcT s f).Ends r) (w:World) (H:St w w [] R):Ret Tryz.prog 112 #[ae,ag] w fun v w'=>∃ (y0:Int),y0=r/\v=I y0/\St w w' [] R:=by
 refine ret_of_W Tryz.func112 rfl rfl rfl ?_;have aE:=(ap).len_le;refine kg 12 ?_;obtain ⟨ax,ai,aq⟩:=M.e_bind hM;obtain ⟨aF,ai⟩:=M.e_iter ai;refine W.loop (fun m σ W=>∃ (s2:Nat) (ρ:Env),σ=upds ρ [(0,ae),(1,ag),(7,I (s.length:Int)),(8,I (s2:Int))]/\M.iterN (zaY s f) m s2=some ax/\St w W [] R) ?_ ?_
 ·exact ⟨_,0,_,upds_of _ _ ⟨rfl,rfl,rfl,rfl,trivial⟩,ai,H⟩
 rintro aG σ aH ⟨s2,ρ,rfl,au,H⟩;obtain ⟨ay,az,aI,hM,aj⟩:=M.e_iterN au;simp only [zaY] at hM;clear au;refine kg 5 ?_;refine W.cond (decide ((s2:Int)<(s.length:Int))) rfl (fun ab=>?_) (fun ab=>?_)
 ·replace hM:=M.e_t hM ab;replace ab:=dI ab;obtain ⟨aJ,hM⟩:=M.e_gd hM;refine kg 14 ?_;obtain ⟨av,aA,ac⟩:=Sect_atA ap (i:=(s2:Int)) (by omega) (by omega);replace ac:Sl _ av (s.getD s2 default).rows:=ac;have aK:=ac.len_le;refine s_val (x_ld (v:=.agg #[I ((s.getD s2 default).place),av]) rfl (ld_ag Ag42 Sz42 (At.mono aA (ao.at H)))) ?_;obtain ⟨r2,aB,hM⟩:=M.e_bind hM;refine t_callM H aw rfl rfl (s.getD s2 default) (ao.app _) ⟨_,Sect_mk ac,rfl⟩ aB ?_;intro aL H;refine s_nil ?_;refine W.cond r2 rfl (fun ak=>?_) (fun ak=>?_)
  ·replace hM:=M.e_t hM ak;refine kg 5 ?_;refine W.ret ?_;have aC:=M.e_inr hM aj;subst aC;replace hM:=aq;(try dsimp only at hM);have al:=M.e_pure hM;exact ⟨_,resE_tmp rfl,⟨(s2:Int),al,rfl,H⟩⟩
  replace hM:=M.e_f hM ak;refine kg 5 ?_;exact ⟨ay,az,s2+1,_,upds_of _ _ ⟨rfl,rfl,rfl,rfl,trivial⟩,M.e_inl hM aj,H⟩
 replace hM:=M.e_f hM ab;replace ab:=dI ab;refine W.exit ?_;have aD:=M.e_inr hM aj;subst aD;replace hM:=aq;(try dsimp only at hM);refine kg 4 ?_;refine W.ret ?_;have al:=M.e_pure hM;exact ⟨_,resE_tmp rfl,⟨(-1),al,rfl,H⟩⟩

def zcA (s:List Sect) (f:Sect->M Bool):M Bool :=
  M.bind (zcT s f) fun r2 =>
  M.pure (decide (0<=r2))
theorem zez {R:List Chunk} {ae:Cells} {ab:Value} {ac:Value} (s:List Sect) (f:Sect->M Bool) (ai:Reads R ae) (aj:Sl ae ab s) (ak:FnM Tryz.prog R ac f) {r:Bool} (hM:(zcA s f).Ends r) (w:World) (H:St w w [] R):Ret Tryz.prog 88 #[ab,ac] w fun v w'=>∃ (y0:Bool),y0=r/\v=B y0/\St w w' [] R:=by
 refine ret_of_W Tryz.func88 rfl rfl rfl ?_;refine kg 8 ?_;obtain ⟨ao,al,hM⟩:=M.e_bind hM;refine s_call cf112 [ab,ac] rfl (zeW s f (ai.app _) aj (ak.app _) al _ (H.gt 0)) ?_;rintro vq ap ⟨r2,rfl,hvq,ag⟩;subst vq;(try dsimp only at hM);replace H:=H.bk ag;clear ag;refine kg 3 ?_;refine W.ret ?_;have am:=M.e_pure hM;exact ⟨_,resE_tmp rfl,⟨(decide (0<=r2)),am,rfl,H⟩⟩

def zbr (x:Sect) (ab:Sect->M Bool):M Bool :=
  M.bind (ab x) fun r2 =>
  M.pure (!r2)
theorem zfm {R:List Chunk} {ac:Cells} {ab:Value} {ae:Nat} {ag:Value} (x:Sect) (ai:Sect->M Bool) (aj:Reads R ac) (ak:Sl ac ab x.rows) (al:FnM Tryz.prog R ag ai) (ap:Has R (cBlk ae [ag] 100)) {r:Bool} (hM:(zbr x ai).Ends r) (w:World) (H:St w w [] R):Ret Tryz.prog 89 #[.agg #[I x.place,ab],Pq ae] w fun v w'=>∃ (y0:Bool),y0=r/\v=B y0/\St w w' [] R:=by
 refine ret_of_W Tryz.func89 rfl rfl rfl ?_;refine kg 2 ?_;refine t_bx [I x.place,ab] H rfl ?_;intro aq au H;refine kg 6 ?_;obtain ⟨r2,am,hM⟩:=M.e_bind hM;refine t_callM H al rfl rfl x (aj.app _) ⟨_,Sect_mk ak,rfl⟩ am ?_;intro av H;refine kg 3 ?_;refine W.ret ?_;have ao:=M.e_pure hM;exact ⟨_,resE_tmp rfl,⟨(!r2),ao,rfl,(H.pk [])⟩⟩

def zbd (l:List Sect) (so:Sect->M Bool):M Bool :=
  M.bind (zcA l (fun ab=>zbr ab so)) fun r2 =>
  M.pure (!r2)
theorem zeB {R:List Chunk} {ai:Cells} {ac:Value} {ab:Value} (l:List Sect) (so:Sect->M Bool) (am:Reads R ai) (ao:Sl ai ac l) (aj:FnM Tryz.prog R ab so) {r:Bool} (hM:(zbd l so).Ends r) (w:World) (H:St w w [] R):Ret Tryz.prog 46 #[ac,ab] w fun v w'=>∃ (y0:Bool),y0=r/\v=B y0/\St w w' [] R:=by
 refine ret_of_W Tryz.func46 rfl rfl rfl ?_;refine kg 2 ?_;refine t_box (v:=ab) (cs:=[ab]) H rfl (FnM.cells aj) ?_;intro ae aD H;refine kg 5 ?_;refine s_val (x_mf (fs:=[]) (cs:=[Pq ae]) rfl rfl) ?_;obtain ⟨aE,ap,hM⟩:=M.e_bind hM;refine s_call cf88 [ac,.func (.func 89) #[] #[Pq ae]] rfl (zez l (fun ag=>zbr ag so) (am.app _) ao ⟨89,[Pq ae],rfl,cf89,fun ak aF aG aq ag aH au av aw ax=>by obtain ⟨aI,rfl,ay⟩:=Sect_arg aw; exact (zfm ag so av ay (FnM.app (aj.app _) _) (Has.app (Has.here (k:=0) rfl) _) ax ak (St.refl au)).mono fun aq ak ⟨aJ,az,aA,aB⟩=>by subst az; exact ⟨aA,aB⟩⟩ ap _ (H.gt 1)) ?_;rintro vq aK ⟨r2,rfl,hvq,al⟩;subst vq;(try dsimp only at hM);replace H:=H.bk al;clear al;refine kg 3 ?_;refine W.ret ?_;have aC:=M.e_pure hM;exact ⟨_,resE_tmp rfl,⟨(!r2),aC,rfl,(H.pk [])⟩⟩

def za5 (x:Sect):M Bool :=
  M.bind (zab (x.rows.length:Int) 2 8) fun r2 =>
  M.pure r2
theorem zeX {R:List Chunk} {ac:Cells} {ab:Value} (x:Sect) (ak:Reads R ac) (ag:Sl ac ab x.rows) {r:Bool} (hM:(za5 x).Ends r) (w:World) (H:St w w [] R):Ret Tryz.prog 44 #[.agg #[I x.place,ab]] w fun v w'=>∃ (y0:Bool),y0=r/\v=B y0/\St w w' [] R:=by
 refine ret_of_W Tryz.func44 rfl rfl rfl ?_;refine kg 2 ?_;refine t_bx [I x.place,ab] H rfl ?_;intro al am H;have ao:=(ag).len_le;refine kg 7 ?_;obtain ⟨ap,ai,hM⟩:=M.e_bind hM;refine s_call cf45 [I (x.rows.length:Int),I 2,I 8] rfl (zac (x.rows.length:Int) 2 8 ai _ (H.gt 1)) ?_;rintro vq aq ⟨r2,rfl,hvq,ae⟩;subst vq;(try dsimp only at hM);replace H:=H.bk ae;clear ae;refine kg 2 ?_;refine W.ret ?_;have aj:=M.e_pure hM;exact ⟨_,resE_tmp rfl,⟨r2,aj,rfl,(H.pk [])⟩⟩

def zaH (x:Sect):(Int × Int × Nat)->M ((Int × Int × Nat) ⊕ ((Int × Int) ⊕ (Int × Int))):=fun (s,s2,s3) =>
  bif decide ((s3:Int)<(x.rows.length:Int)) then (
  M.grd (decide ((s3:Int)<(x.rows.length:Int))) <|
  M.grd (decide ((-9223372036854775808:Int)<=(s+1))&&decide ((s+1)<=(9223372036854775807:Int))) <|
  M.bind (zab ((x.rows.getD s3 default).stage) (s+1) 2000) fun r2 =>
  M.bind (M.opt (!(!r2)) (zab ((x.rows.getD s3 default).carry) s2 100000) false) fun r3 =>
  bif ((!r2)||(!r3)) then (
  M.pure (.inr (.inl (s,s2))))
  else (
  M.pure (.inl ((x.rows.getD s3 default).stage,(x.rows.getD s3 default).carry,s3+1))))
  else (
  M.pure (.inr (.inr (s,s2))))
def zbh (x:Sect):M Bool :=
  M.bind (M.iter (zaH x) (-1,0,0)) fun x_=>match x_ with
  | (.inl (s4,s5))=>(
  M.pure false)
  | (.inr (s6,s7))=>(
  M.bind (zab x.place 0 10000) fun r4 =>
  M.pure r4)
theorem zeO {R:List Chunk} {al:Cells} {ac:Value} (x:Sect) (aE:Reads R al) (au:Sl al ac x.rows) {r:Bool} (hM:(zbh x).Ends r) (w:World) (H:St w w [] R):Ret Tryz.prog 47 #[.agg #[I x.place,ac]] w fun v w'=>∃ (y0:Bool),y0=r/\v=B y0/\St w w' [] R:=by
 refine ret_of_W Tryz.func47 rfl rfl rfl ?_;refine kg 2 ?_;refine t_bx [I x.place,ac] H rfl ?_;intro am aF H;refine kg 4 ?_;refine s_val (x_bld (ps:=[(0,I (-1))]) (zs:=[I 0,I 0]) (L':=[I (-1),I 0]) rfl Tryz.underlying40 Al40 rfl (Bd40 Tryz.underlying40) (.cons (cs:=[I (-1)]) rfl rfl rfl rfl rfl<|.nil)) ?_;refine t_alloc (cs:=[I 0,I 0]) H Al40 rfl ?_;intro ao aG H;refine t_sw 0 0 [I (-1),I 0] (.agg #[I (-1),I 0]) H rfl rfl Sz40 rfl rfl rfl rfl ?_;intro aH H;have aI:=(au).len_le;refine kg 10 ?_;obtain ⟨av,ai,ap⟩:=M.e_bind hM;obtain ⟨aJ,ai⟩:=M.e_iter ai;refine W.loop (fun m σ W=>∃ (s:Int) (s2:Int) (s3:Nat) (ρ:Env),σ=upds ρ [(1,Pq am),(3,Pq ao),(8,ac),(9,I (x.rows.length:Int)),(10,I (s3:Int))]/\M.iterN (zaH x) m (s,s2,s3)=some av/\St w W [cBlk ao [I s,I s2] 40,cBlk am [I x.place,ac] 42] R) ?_ ?_
 ·exact ⟨_,-1,0,0,_,upds_of _ _ ⟨rfl,rfl,rfl,rfl,rfl,trivial⟩,ai,H⟩
 rintro aK σ aL ⟨s,s2,s3,ρ,rfl,aq,H⟩;obtain ⟨aw,ax,aM,hM,aj⟩:=M.e_iterN aq;simp only [zaH] at hM;clear aq;refine kg 5 ?_;refine W.cond (decide ((s3:Int)<(x.rows.length:Int))) rfl (fun ab=>?_) (fun ab=>?_)
 ·replace hM:=M.e_t hM ab;replace ab:=dI ab;obtain ⟨aN,hM⟩:=M.e_gd hM;refine kg 7 ?_;refine t_alloc (cs:=[I 0,I 0]) H Al40 rfl ?_;intro aO aP H;refine t_sw 0 0 [I ((x.rows.getD s3 default).stage),I ((x.rows.getD s3 default).carry)] (.agg #[I ((x.rows.getD s3 default).stage),I ((x.rows.getD s3 default).carry)]) H rfl rfl Sz40 rfl rfl rfl rfl ?_;intro aQ H;obtain ⟨aR,hM⟩:=M.e_gd hM;refine kg 9 ?_;obtain ⟨aS,ay,hM⟩:=M.e_bind hM;refine s_call cf45 [I ((x.rows.getD s3 default).stage),I (s+1),I 2000] rfl (zac ((x.rows.getD s3 default).stage) (s+1) 2000 ay _ (H.gt 3)) ?_;rintro vq aT ⟨r2,rfl,hvq,ae⟩;subst vq;(try dsimp only at hM);replace H:=H.bk ae;clear ae;refine kg 6 ?_;obtain ⟨r3,az,hM⟩:=M.e_bind hM;refine t_gcall (!(!r2)) (gy_f rfl) cf45 (B r3) (fun _=>[I ((x.rows.getD s3 default).carry),I s2,I 100000]) (fun hg=>lst3 (gd_of hg (I ((x.rows.getD s3 default).carry))) (gd_of hg (I s2)) rfl) H (fun hg=>(zac ((x.rows.getD s3 default).carry) s2 100000 (M.e_opt az hg) _ (H.give (A:=[]) rfl)).mono fun v_ w_ ⟨y_,ag,aA,H_⟩=>by subst ag; exact ⟨aA,H.via H_⟩) ?_;intro aU H;refine kg 1 ?_;refine s_val (x_por (b:=!r2) (r:=!r3) rfl rfl (fun hb=>gd_of (c:=!(!r2)) (by first | exact hb | (rw [hb]; rfl) | simp_all) (B (!r3))))<|s_nil ?_
  refine W.cond ((!r2)||(!r3)) rfl (fun ak=>?_) (fun ak=>?_)
  ·replace hM:=M.e_t hM ak;refine kg 4 ?_;refine W.ret ?_;have aB:=M.e_inr hM aj;subst aB;replace hM:=ap;(try dsimp only at hM);have ag:=M.e_pure hM;exact ⟨_,resE_tmp rfl,⟨false,ag,rfl,(H.pk [])⟩⟩
  replace hM:=M.e_f hM ak;refine kg 3 ?_;refine t_sw 1 0 [I ((x.rows.getD s3 default).stage),I ((x.rows.getD s3 default).carry)] (.agg #[I ((x.rows.getD s3 default).stage),I ((x.rows.getD s3 default).carry)]) H rfl rfl Sz40 rfl rfl rfl rfl ?_;intro aV H;refine kg 5 ?_;exact ⟨aw,ax,(x.rows.getD s3 default).stage,(x.rows.getD s3 default).carry,s3+1,_,upds_of _ _ ⟨rfl,rfl,rfl,rfl,rfl,trivial⟩,M.e_inl hM aj,(H.pk [1,2])⟩
 replace hM:=M.e_f hM ab;replace ab:=dI ab;refine W.exit ?_;have aC:=M.e_inr hM aj;subst aC;replace hM:=ap;(try dsimp only at hM);refine kg 4 ?_;obtain ⟨aW,aD,hM⟩:=M.e_bind hM;refine s_call cf45 [I x.place,I 0,I 10000] rfl (zac x.place 0 10000 aD _ (H.gt 2)) ?_;rintro vq aX ⟨r4,rfl,hvq,ae⟩;subst vq;(try dsimp only at hM);replace H:=H.bk ae;clear ae;refine kg 2 ?_;replace H:=H.pk [];refine W.ret ?_;have ag:=M.e_pure hM;exact ⟨_,resE_tmp rfl,⟨r4,ag,rfl,H⟩⟩

def zaT (s:List Mrk) (f:Mrk->M Bool):Nat->M (Nat ⊕ (Int ⊕ Unit)):=fun s2 =>
  bif decide ((s2:Int)<(s.length:Int)) then (
  M.grd (decide ((s2:Int)<(s.length:Int))) <|
  M.bind (f (s.getD s2 default)) fun r2 =>
  bif r2 then (
  M.pure (.inr (.inl (s2:Int))))
  else (
  M.pure (.inl (s2+1))))
  else (
  M.pure (.inr (.inr ())))
def zcU (s:List Mrk) (f:Mrk->M Bool):M Int :=
  M.bind (M.iter (zaT s f) 0) fun x_=>match x_ with
  | (.inl s3)=>(
  M.pure s3)
  | (.inr (_:Unit))=>(
  M.pure (-1))
theorem zeE {R:List Chunk} {al:Cells} {ac:Value} {ae:Value} (s:List Mrk) (f:Mrk->M Bool) (aA:Reads R al) (ap:Sl al ac s) (aq:FnM Tryz.prog R ae f) {r:Int} (hM:(zcU s f).Ends r) (w:World) (H:St w w [] R):Ret Tryz.prog 113 #[ac,ae] w fun v w'=>∃ (y0:Int),y0=r/\v=I y0/\St w w' [] R:=by
 refine ret_of_W Tryz.func113 rfl rfl rfl ?_;have aB:=(ap).len_le;refine kg 12 ?_;obtain ⟨au,ag,am⟩:=M.e_bind hM;obtain ⟨aC,ag⟩:=M.e_iter ag;refine W.loop (fun m σ W=>∃ (s2:Nat) (ρ:Env),σ=upds ρ [(0,ac),(1,ae),(7,I (s.length:Int)),(8,I (s2:Int))]/\M.iterN (zaT s f) m s2=some au/\St w W [] R) ?_ ?_
 ·exact ⟨_,0,_,upds_of _ _ ⟨rfl,rfl,rfl,rfl,trivial⟩,ag,H⟩
 rintro aD σ aE ⟨s2,ρ,rfl,ao,H⟩;obtain ⟨av,aw,aF,hM,ai⟩:=M.e_iterN ao;simp only [zaT] at hM;clear ao;refine kg 5 ?_;refine W.cond (decide ((s2:Int)<(s.length:Int))) rfl (fun ab=>?_) (fun ab=>?_)
 ·replace hM:=M.e_t hM ab;replace ab:=dI ab;obtain ⟨aG,hM⟩:=M.e_gd hM;refine kg 15 ?_;obtain ⟨r2,ax,hM⟩:=M.e_bind hM;refine t_callM H aq rfl rfl (s.getD s2 default) Reads.none ⟨_,rfl,rfl⟩ ax ?_;intro aH H;refine s_nil ?_;refine W.cond r2 rfl (fun aj=>?_) (fun aj=>?_)
  ·replace hM:=M.e_t hM aj;refine kg 5 ?_;refine W.ret ?_;have ay:=M.e_inr hM ai;subst ay;replace hM:=am;(try dsimp only at hM);have ak:=M.e_pure hM;exact ⟨_,resE_tmp rfl,⟨(s2:Int),ak,rfl,H⟩⟩
  replace hM:=M.e_f hM aj;refine kg 5 ?_;exact ⟨av,aw,s2+1,_,upds_of _ _ ⟨rfl,rfl,rfl,rfl,trivial⟩,M.e_inl hM ai,H⟩
 replace hM:=M.e_f hM ab;replace ab:=dI ab;refine W.exit ?_;have az:=M.e_inr hM ai;subst az;replace hM:=am;(try dsimp only at hM);refine kg 4 ?_;refine W.ret ?_;have ak:=M.e_pure hM;exact ⟨_,resE_tmp rfl,⟨(-1),ak,rfl,H⟩⟩

def zcG (s:List Mrk) (f:Mrk->M Bool):M Bool :=
  M.bind (zcU s f) fun r2 =>
  M.pure (decide (0<=r2))
theorem zeK {R:List Chunk} {ae:Cells} {ab:Value} {ac:Value} (s:List Mrk) (f:Mrk->M Bool) (ai:Reads R ae) (aj:Sl ae ab s) (ak:FnM Tryz.prog R ac f) {r:Bool} (hM:(zcG s f).Ends r) (w:World) (H:St w w [] R):Ret Tryz.prog 90 #[ab,ac] w fun v w'=>∃ (y0:Bool),y0=r/\v=B y0/\St w w' [] R:=by
 refine ret_of_W Tryz.func90 rfl rfl rfl ?_;refine kg 8 ?_;obtain ⟨ao,al,hM⟩:=M.e_bind hM;refine s_call cf113 [ab,ac] rfl (zeE s f (ai.app _) aj (ak.app _) al _ (H.gt 0)) ?_;rintro vq ap ⟨r2,rfl,hvq,ag⟩;subst vq;(try dsimp only at hM);replace H:=H.bk ag;clear ag;refine kg 3 ?_;refine W.ret ?_;have am:=M.e_pure hM;exact ⟨_,resE_tmp rfl,⟨(decide (0<=r2)),am,rfl,H⟩⟩

def zbB (x:Mrk) (ab:Mrk->M Bool):M Bool :=
  M.bind (ab x) fun r2 =>
  M.pure (!r2)
theorem zey {R:List Chunk} {ab:Nat} {ac:Value} (x:Mrk) (ae:Mrk->M Bool) (ag:FnM Tryz.prog R ac ae) (ak:Has R (cBlk ab [ac] 103)) {r:Bool} (hM:(zbB x ae).Ends r) (w:World) (H:St w w [] R):Ret Tryz.prog 91 #[.agg #[I x.place,I x.lo,I x.hi],Pq ab] w fun v w'=>∃ (y0:Bool),y0=r/\v=B y0/\St w w' [] R:=by
 refine ret_of_W Tryz.func91 rfl rfl rfl ?_;refine kg 2 ?_;refine t_bx [I x.place,I x.lo,I x.hi] H rfl ?_;intro al am H;refine kg 6 ?_;obtain ⟨r2,ai,hM⟩:=M.e_bind hM;refine t_callM H ag rfl rfl x Reads.none ⟨_,rfl,rfl⟩ ai ?_;intro ao H;refine kg 3 ?_;refine W.ret ?_;have aj:=M.e_pure hM;exact ⟨_,resE_tmp rfl,⟨(!r2),aj,rfl,(H.pk [])⟩⟩

def za4 (l:List Mrk) (so:Mrk->M Bool):M Bool :=
  M.bind (zcG l (fun ab=>zbB ab so)) fun r2 =>
  M.pure (!r2)
theorem zeR {R:List Chunk} {ai:Cells} {ac:Value} {ab:Value} (l:List Mrk) (so:Mrk->M Bool) (am:Reads R ai) (ao:Sl ai ac l) (aj:FnM Tryz.prog R ab so) {r:Bool} (hM:(za4 l so).Ends r) (w:World) (H:St w w [] R):Ret Tryz.prog 48 #[ac,ab] w fun v w'=>∃ (y0:Bool),y0=r/\v=B y0/\St w w' [] R:=by
 refine ret_of_W Tryz.func48 rfl rfl rfl ?_;refine kg 2 ?_;refine t_box (v:=ab) (cs:=[ab]) H rfl (FnM.cells aj) ?_;intro ae aB H;refine kg 5 ?_;refine s_val (x_mf (fs:=[]) (cs:=[Pq ae]) rfl rfl) ?_;obtain ⟨aC,ap,hM⟩:=M.e_bind hM;refine s_call cf90 [ac,.func (.func 91) #[] #[Pq ae]] rfl (zeK l (fun ag=>zbB ag so) (am.app _) ao ⟨91,[Pq ae],rfl,cf91,fun ak aD aE aq ag aF au aG av aw=>by obtain rfl:=Mrk_arg av; exact (zey ag so (FnM.app (aj.app _) _) (Has.app (Has.here (k:=0) rfl) _) aw ak (St.refl au)).mono fun aq ak ⟨aH,ax,ay,az⟩=>by subst ax; exact ⟨ay,az⟩⟩ ap _ (H.gt 1)) ?_;rintro vq aI ⟨r2,rfl,hvq,al⟩;subst vq;(try dsimp only at hM);replace H:=H.bk al;clear al;refine kg 3 ?_;refine W.ret ?_;have aA:=M.e_pure hM;exact ⟨_,resE_tmp rfl,⟨(!r2),aA,rfl,(H.pk [])⟩⟩

def zaU (s:Span) (ab greatest:Int):M Bool :=
  M.bind (zab s.lo ab greatest) fun r2 =>
  M.bind (M.opt r2 (zab s.hi s.lo greatest) false) fun r3 =>
  M.pure (r2&&r3)
theorem zep {R:List Chunk}  (s:Span) (ab:Int) (greatest:Int)  {r:Bool} (hM:(zaU s ab greatest).Ends r) (w:World) (H:St w w [] R):Ret Tryz.prog 92 #[.agg #[I s.lo,I s.hi],I ab,I greatest] w fun v w'=>∃ (y0:Bool),y0=r/\v=B y0/\St w w' [] R:=by
 refine ret_of_W Tryz.func92 rfl rfl rfl ?_;refine kg 2 ?_;refine t_bx [I s.lo,I s.hi] H rfl ?_;intro ak al H;refine kg 8 ?_;obtain ⟨am,ag,hM⟩:=M.e_bind hM;refine s_call cf45 [I s.lo,I ab,I greatest] rfl (zac s.lo ab greatest ag _ (H.gt 1)) ?_;rintro vq ao ⟨r2,rfl,hvq,ae⟩;subst vq;(try dsimp only at hM);replace H:=H.bk ae;clear ae;refine kg 6 ?_;obtain ⟨r3,ai,hM⟩:=M.e_bind hM;refine t_gcall r2 (gy_t rfl) cf45 (B r3) (fun _=>[I s.hi,I s.lo,I greatest]) (fun hg=>lst3 (gd_of hg (I s.hi)) (gd_of hg (I s.lo)) (gd_of hg (I greatest))) H (fun hg=>(zac s.hi s.lo greatest (M.e_opt ai hg) _ (H.give (A:=[]) rfl)).mono fun v_ w_ ⟨y_,ac,aj,H_⟩=>by subst ac; exact ⟨aj,H.via H_⟩) ?_;intro ap H;refine s_val (x_pand (b:=r2) (r:=r3) rfl (fun hb=>gd_of (c:=r2) (by first | exact hb | (rw [hb]; rfl) | simp_all) (B r3)) rfl) ?_;refine kg 2 ?_;refine W.ret ?_;have ac:=M.e_pure hM;exact ⟨_,resE_tmp rfl,⟨(r2&&r3),ac,rfl,(H.pk [])⟩⟩

def zay (m_:Mrk):M Bool :=
  M.bind (zab m_.place 0 10000) fun r2 =>
  M.bind (M.opt r2 (zaU (⟨(m_.lo:Int),(m_.hi:Int)⟩:Span) 0 2000) false) fun r3 =>
  M.pure (r2&&r3)
theorem ze4 {R:List Chunk}  (m_:Mrk)  {r:Bool} (hM:(zay m_).Ends r) (w:World) (H:St w w [] R):Ret Tryz.prog 49 #[.agg #[I m_.place,I m_.lo,I m_.hi]] w fun v w'=>∃ (y0:Bool),y0=r/\v=B y0/\St w w' [] R:=by
 refine ret_of_W Tryz.func49 rfl rfl rfl ?_;refine kg 2 ?_;refine t_bx [I m_.place,I m_.lo,I m_.hi] H rfl ?_;intro aj ak H;refine kg 6 ?_;obtain ⟨al,ae,hM⟩:=M.e_bind hM;refine s_call cf45 [I m_.place,I 0,I 10000] rfl (zac m_.place 0 10000 ae _ (H.gt 1)) ?_;rintro vq am ⟨r2,rfl,hvq,ac⟩;subst vq;(try dsimp only at hM);replace H:=H.bk ac;clear ac;refine kg 3 ?_;obtain ⟨r3,ag,hM⟩:=M.e_bind hM;refine t_gcall r2 (gy_t rfl) cf92 (B r3) (fun _=>[.agg #[I m_.lo,I m_.hi],I 0,I 2000]) (fun hg=>lst3 (gd_of hg (.agg #[I m_.lo,I m_.hi])) rfl rfl) H (fun hg=>(zep (⟨(m_.lo:Int),(m_.hi:Int)⟩:Span) 0 2000 (M.e_opt ag hg) _ (H.give (A:=[]) rfl)).mono fun v_ w_ ⟨y_,ab,ai,H_⟩=>by subst ab; exact ⟨ai,H.via H_⟩) ?_;intro ao H;refine s_val (x_pand (b:=r2) (r:=r3) rfl (fun hb=>gd_of (c:=r2) (by first | exact hb | (rw [hb]; rfl) | simp_all) (B r3)) rfl) ?_;refine kg 2 ?_;refine W.ret ?_;have ab:=M.e_pure hM;exact ⟨_,resE_tmp rfl,⟨(r2&&r3),ab,rfl,(H.pk [])⟩⟩

def zaG (s:List Rch) (f:Rch->M Bool):Nat->M (Nat ⊕ (Int ⊕ Unit)):=fun s2 =>
  bif decide ((s2:Int)<(s.length:Int)) then (
  M.grd (decide ((s2:Int)<(s.length:Int))) <|
  M.bind (f (s.getD s2 default)) fun r2 =>
  bif r2 then (
  M.pure (.inr (.inl (s2:Int))))
  else (
  M.pure (.inl (s2+1))))
  else (
  M.pure (.inr (.inr ())))
def zcS (s:List Rch) (f:Rch->M Bool):M Int :=
  M.bind (M.iter (zaG s f) 0) fun x_=>match x_ with
  | (.inl s3)=>(
  M.pure s3)
  | (.inr (_:Unit))=>(
  M.pure (-1))
theorem zfi {R:List Chunk} {al:Cells} {ac:Value} {ae:Value} (s:List Rch) (f:Rch->M Bool) (aA:Reads R al) (ap:Sl al ac s) (aq:FnM Tryz.prog R ae f) {r:Int} (hM:(zcS s f).Ends r) (w:World) (H:St w w [] R):Ret Tryz.prog 114 #[ac,ae] w fun v w'=>∃ (y0:Int),y0=r/\v=I y0/\St w w' [] R:=by
 refine ret_of_W Tryz.func114 rfl rfl rfl ?_;have aB:=(ap).len_le;refine kg 12 ?_;obtain ⟨au,ag,am⟩:=M.e_bind hM;obtain ⟨aC,ag⟩:=M.e_iter ag;refine W.loop (fun m σ W=>∃ (s2:Nat) (ρ:Env),σ=upds ρ [(0,ac),(1,ae),(7,I (s.length:Int)),(8,I (s2:Int))]/\M.iterN (zaG s f) m s2=some au/\St w W [] R) ?_ ?_
 ·exact ⟨_,0,_,upds_of _ _ ⟨rfl,rfl,rfl,rfl,trivial⟩,ag,H⟩
 rintro aD σ aE ⟨s2,ρ,rfl,ao,H⟩;obtain ⟨av,aw,aF,hM,ai⟩:=M.e_iterN ao;simp only [zaG] at hM;clear ao;refine kg 5 ?_;refine W.cond (decide ((s2:Int)<(s.length:Int))) rfl (fun ab=>?_) (fun ab=>?_)
 ·replace hM:=M.e_t hM ab;replace ab:=dI ab;obtain ⟨aG,hM⟩:=M.e_gd hM;refine kg 15 ?_;obtain ⟨r2,ax,hM⟩:=M.e_bind hM;refine t_callM H aq rfl rfl (s.getD s2 default) Reads.none ⟨_,rfl,rfl⟩ ax ?_;intro aH H;refine s_nil ?_;refine W.cond r2 rfl (fun aj=>?_) (fun aj=>?_)
  ·replace hM:=M.e_t hM aj;refine kg 5 ?_;refine W.ret ?_;have ay:=M.e_inr hM ai;subst ay;replace hM:=am;(try dsimp only at hM);have ak:=M.e_pure hM;exact ⟨_,resE_tmp rfl,⟨(s2:Int),ak,rfl,H⟩⟩
  replace hM:=M.e_f hM aj;refine kg 5 ?_;exact ⟨av,aw,s2+1,_,upds_of _ _ ⟨rfl,rfl,rfl,rfl,trivial⟩,M.e_inl hM ai,H⟩
 replace hM:=M.e_f hM ab;replace ab:=dI ab;refine W.exit ?_;have az:=M.e_inr hM ai;subst az;replace hM:=am;(try dsimp only at hM);refine kg 4 ?_;refine W.ret ?_;have ak:=M.e_pure hM;exact ⟨_,resE_tmp rfl,⟨(-1),ak,rfl,H⟩⟩

def zcF (s:List Rch) (f:Rch->M Bool):M Bool :=
  M.bind (zcS s f) fun r2 =>
  M.pure (decide (0<=r2))
theorem zfp {R:List Chunk} {ae:Cells} {ab:Value} {ac:Value} (s:List Rch) (f:Rch->M Bool) (ai:Reads R ae) (aj:Sl ae ab s) (ak:FnM Tryz.prog R ac f) {r:Bool} (hM:(zcF s f).Ends r) (w:World) (H:St w w [] R):Ret Tryz.prog 93 #[ab,ac] w fun v w'=>∃ (y0:Bool),y0=r/\v=B y0/\St w w' [] R:=by
 refine ret_of_W Tryz.func93 rfl rfl rfl ?_;refine kg 8 ?_;obtain ⟨ao,al,hM⟩:=M.e_bind hM;refine s_call cf114 [ab,ac] rfl (zfi s f (ai.app _) aj (ak.app _) al _ (H.gt 0)) ?_;rintro vq ap ⟨r2,rfl,hvq,ag⟩;subst vq;(try dsimp only at hM);replace H:=H.bk ag;clear ag;refine kg 3 ?_;refine W.ret ?_;have am:=M.e_pure hM;exact ⟨_,resE_tmp rfl,⟨(decide (0<=r2)),am,rfl,H⟩⟩

def zcm (x:Rch) (ab:Rch->M Bool):M Bool :=
  M.bind (ab x) fun r2 =>
  M.pure (!r2)
theorem zeG {R:List Chunk} {ab:Nat} {ac:Value} (x:Rch) (ae:Rch->M Bool) (ag:FnM Tryz.prog R ac ae) (ak:Has R (cBlk ab [ac] 106)) {r:Bool} (hM:(zcm x ae).Ends r) (w:World) (H:St w w [] R):Ret Tryz.prog 94 #[.agg #[I x.up,I x.down,I x.lo,I x.hi,B x.narrow],Pq ab] w fun v w'=>∃ (y0:Bool),y0=r/\v=B y0/\St w w' [] R:=by
 refine ret_of_W Tryz.func94 rfl rfl rfl ?_;refine kg 2 ?_;refine t_bx [I x.up,I x.down,I x.lo,I x.hi,B x.narrow] H rfl ?_;intro al am H;refine kg 6 ?_;obtain ⟨r2,ai,hM⟩:=M.e_bind hM;refine t_callM H ag rfl rfl x Reads.none ⟨_,rfl,rfl⟩ ai ?_;intro ao H;refine kg 3 ?_;refine W.ret ?_;have aj:=M.e_pure hM;exact ⟨_,resE_tmp rfl,⟨(!r2),aj,rfl,(H.pk [])⟩⟩

def za0 (l:List Rch) (so:Rch->M Bool):M Bool :=
  M.bind (zcF l (fun ab=>zcm ab so)) fun r2 =>
  M.pure (!r2)
theorem zew {R:List Chunk} {ai:Cells} {ac:Value} {ab:Value} (l:List Rch) (so:Rch->M Bool) (am:Reads R ai) (ao:Sl ai ac l) (aj:FnM Tryz.prog R ab so) {r:Bool} (hM:(za0 l so).Ends r) (w:World) (H:St w w [] R):Ret Tryz.prog 50 #[ac,ab] w fun v w'=>∃ (y0:Bool),y0=r/\v=B y0/\St w w' [] R:=by
 refine ret_of_W Tryz.func50 rfl rfl rfl ?_;refine kg 2 ?_;refine t_box (v:=ab) (cs:=[ab]) H rfl (FnM.cells aj) ?_;intro ae aB H;refine kg 5 ?_;refine s_val (x_mf (fs:=[]) (cs:=[Pq ae]) rfl rfl) ?_;obtain ⟨aC,ap,hM⟩:=M.e_bind hM;refine s_call cf93 [ac,.func (.func 94) #[] #[Pq ae]] rfl (zfp l (fun ag=>zcm ag so) (am.app _) ao ⟨94,[Pq ae],rfl,cf94,fun ak aD aE aq ag aF au aG av aw=>by obtain rfl:=Rch_arg av; exact (zeG ag so (FnM.app (aj.app _) _) (Has.app (Has.here (k:=0) rfl) _) aw ak (St.refl au)).mono fun aq ak ⟨aH,ax,ay,az⟩=>by subst ax; exact ⟨ay,az⟩⟩ ap _ (H.gt 1)) ?_;rintro vq aI ⟨r2,rfl,hvq,al⟩;subst vq;(try dsimp only at hM);replace H:=H.bk al;clear al;refine kg 3 ?_;refine W.ret ?_;have aA:=M.e_pure hM;exact ⟨_,resE_tmp rfl,⟨(!r2),aA,rfl,(H.pk [])⟩⟩

def zbn (r_:Rch) (sections:Int):M Bool :=
  M.grd (decide ((-9223372036854775808:Int)<=(sections-1))&&decide ((sections-1)<=(9223372036854775807:Int))) <|
  M.bind (zab r_.up 0 (sections-1)) fun r2 =>
  M.grd ((!r2||(decide ((-9223372036854775808:Int)<=(r_.up+1))&&decide ((r_.up+1)<=(9223372036854775807:Int))))) <|
  M.bind (M.opt r2 (zab r_.down (r_.up+1) (sections-1)) false) fun r3 =>
  M.bind (M.opt (r2&&r3) (zaU (⟨(r_.lo:Int),(r_.hi:Int)⟩:Span) 1 400) false) fun r4 =>
  M.pure ((r2&&r3)&&r4)
theorem zfb {R:List Chunk}  (r_:Rch) (sections:Int)  {r:Bool} (hM:(zbn r_ sections).Ends r) (w:World) (H:St w w [] R):Ret Tryz.prog 52 #[.agg #[I r_.up,I r_.down,I r_.lo,I r_.hi,B r_.narrow],I sections] w fun v w'=>∃ (y0:Bool),y0=r/\v=B y0/\St w w' [] R:=by
 refine ret_of_W Tryz.func52 rfl rfl rfl ?_;refine kg 2 ?_;refine t_bx [I r_.up,I r_.down,I r_.lo,I r_.hi,B r_.narrow] H rfl ?_;intro al am H;obtain ⟨ao,hM⟩:=M.e_gd hM;refine kg 8 ?_;obtain ⟨ap,ai,hM⟩:=M.e_bind hM;refine s_call cf45 [I r_.up,I 0,I (sections-1)] rfl (zac r_.up 0 (sections-1) ai _ (H.gt 1)) ?_;rintro vq aq ⟨r2,rfl,hvq,ag⟩;subst vq;(try dsimp only at hM);replace H:=H.bk ag;clear ag;obtain ⟨ac,hM⟩:=M.e_grd hM;replace ac:=M.imp_of ac;simp only [Bool.and_eq_true,decide_eq_true_eq] at ac;refine kg 8 ?_;obtain ⟨r3,aj,hM⟩:=M.e_bind hM;refine t_gcall r2 (gy_t rfl) cf45 (B r3) (fun _=>[I r_.down,I (r_.up+1),I (sections-1)]) (fun hg=>lst3 (gd_of hg (I r_.down)) (gd_of hg (I (r_.up+1))) (gd_of hg (I (sections-1)))) H (fun hg=>(zac r_.down (r_.up+1) (sections-1) (M.e_opt aj hg) _ (H.give (A:=[]) rfl)).mono fun v_ w_ ⟨y_,ab,ae,H_⟩=>by subst ab; exact ⟨ae,H.via H_⟩) ?_;intro au H;refine s_val (x_pand (b:=r2) (r:=r3) rfl (fun hb=>gd_of (c:=r2) (by first | exact hb | (rw [hb]; rfl) | simp_all) (B r3)) rfl) ?_;refine kg 3 ?_;obtain ⟨r4,ak,hM⟩:=M.e_bind hM;refine t_gcall (r2&&r3) (gy_t rfl) cf92 (B r4) (fun _=>[.agg #[I r_.lo,I r_.hi],I 1,I 400]) (fun hg=>lst3 (gd_of hg (.agg #[I r_.lo,I r_.hi])) rfl rfl) H (fun hg=>(zep (⟨(r_.lo:Int),(r_.hi:Int)⟩:Span) 1 400 (M.e_opt ak hg) _ (H.give (A:=[]) rfl)).mono fun v_ w_ ⟨y_,ab,ae,H_⟩=>by subst ab; exact ⟨ae,H.via H_⟩) ?_;intro av H;refine s_val (x_pand (b:=(r2&&r3)) (r:=r4) rfl (fun hb=>gd_of (c:=(r2&&r3)) (by first | exact hb | (rw [hb]; rfl) | simp_all) (B r4)) rfl) ?_;refine kg 2 ?_;refine W.ret ?_;have ab:=M.e_pure hM;exact ⟨_,resE_tmp rfl,⟨((r2&&r3)&&r4),ab,rfl,(H.pk [])⟩⟩

def zbj (r_:Rch) (ab:List Sect) (ac:List Mrk) (ae:List Rch):M Bool :=
  M.bind (zbn r_ (ab.length:Int)) fun r2 =>
  M.pure r2
theorem zeN {R:List Chunk} {ac:Nat} {ae:Cells} {ag:Value} {ai:Cells} {aj:Value} {ak:Cells} {al:Value} (r_:Rch) (ab:List Sect) (am:List Mrk) (ao:List Rch) (aw:Reads R ae) (aq:Sl ae ag ab) (ax:Reads R ai) (ay:Sl ai aj am) (az:Reads R ak) (aA:Sl ak al ao) (aB:Has R (cBlk ac [ag,aj,al] 27)) {r:Bool} (hM:(zbj r_ ab am ao).Ends r) (w:World) (H:St w w [] R):Ret Tryz.prog 51 #[.agg #[I r_.up,I r_.down,I r_.lo,I r_.hi,B r_.narrow],Pq ac] w fun v w'=>∃ (y0:Bool),y0=r/\v=B y0/\St w w' [] R:=by
 refine ret_of_W Tryz.func51 rfl rfl rfl ?_;refine kg 2 ?_;refine t_bx [I r_.up,I r_.down,I r_.lo,I r_.hi,B r_.narrow] H rfl ?_;intro aC aD H;have aE:=(aq).len_le;refine kg 8 ?_;obtain ⟨aF,au,hM⟩:=M.e_bind hM;refine s_call cf52 [.agg #[I r_.up,I r_.down,I r_.lo,I r_.hi,B r_.narrow],I (ab.length:Int)] rfl (zfb r_ (ab.length:Int) au _ (H.gt 1)) ?_;rintro vq aG ⟨r2,rfl,hvq,ap⟩;subst vq;(try dsimp only at hM);replace H:=H.bk ap;clear ap;refine kg 2 ?_;refine W.ret ?_;have av:=M.e_pure hM;exact ⟨_,resE_tmp rfl,⟨r2,av,rfl,(H.pk [])⟩⟩

def zaW (s_Sections:List Sect):(Int × Nat)->M ((Int × Nat) ⊕ (Unit ⊕ Unit)):=fun (last,s2) =>
  bif decide ((s2:Int)<(s_Sections.length:Int)) then (
  M.grd (decide ((s2:Int)<(s_Sections.length:Int))) <|
  M.bind (zbh (s_Sections.getD s2 default)) fun r6 =>
  bif ((!r6)||(decide (((s_Sections.getD s2 default).place)<=last))) then (
  M.pure (.inr (.inl ())))
  else (
  M.pure (.inl ((s_Sections.getD s2 default).place,s2+1))))
  else (
  M.pure (.inr (.inr ())))
def zag (s_Sections:List Sect) (s_Marks:List Mrk) (s_Reaches:List Rch):M Int :=
  M.bind (zab (s_Sections.length:Int) 2 6) fun r2 =>
  M.bind (M.opt (!(!r2)) (zab (s_Marks.length:Int) 1 16) false) fun r3 =>
  M.bind (M.opt (!((!r2)||(!r3))) (zab (s_Reaches.length:Int) 1 6) false) fun r4 =>
  M.bind (M.opt (!(((!r2)||(!r3))||(!r4))) (zbd s_Sections (fun ab=>za5 ab)) false) fun r5 =>
  bif ((((!r2)||(!r3))||(!r4))||(!r5)) then (
  M.pure 3)
  else (
  M.bind (M.iter (zaW s_Sections) (-1,0)) fun x_=>match x_ with
  | (.inl (_:Unit))=>(
  M.pure 70)
  | (.inr (_:Unit))=>(
  M.bind (za4 s_Marks (fun ab=>zay ab)) fun r7 =>
  M.bind (M.opt (!(!r7)) (za0 s_Reaches (fun ab=>zbj ab s_Sections s_Marks s_Reaches)) false) fun r8 =>
  bif ((!r7)||(!r8)) then (
  M.pure 70)
  else (
  M.pure 0)))
theorem zaK {R:List Chunk} {aL:Cells} {ag:Value} {aM:Cells} {ao:Value} {aN:Cells} {ai:Value} (s_Sections:List Sect) (s_Marks:List Mrk) (s_Reaches:List Rch) (aC:Reads R aL) (ap:Sl aL ag s_Sections) (aO:Reads R aM) (aE:Sl aM ao s_Marks) (aP:Reads R aN) (aD:Sl aN ai s_Reaches) {r:Int} (hM:(zag s_Sections s_Marks s_Reaches).Ends r) (w:World) (H:St w w [] R):Ret Tryz.prog 9 #[.agg #[ag,ao,ai]] w fun v w'=>∃ (y0:Int),y0=r/\v=I y0/\St w w' [] R:=by
 refine ret_of_W Tryz.func9 rfl rfl rfl ?_;refine kg 2 ?_;refine t_bx [ag,ao,ai] H rfl ?_;intro ae bj H;have bm:=(ap).len_le;refine kg 12 ?_;obtain ⟨bn,aW,hM⟩:=M.e_bind hM;refine s_call cf45 [I (s_Sections.length:Int),I 2,I 6] rfl (zac (s_Sections.length:Int) 2 6 aW _ (H.gt 1)) ?_;rintro vq bo ⟨r2,rfl,hvq,aj⟩;subst vq;(try dsimp only at hM);replace H:=H.bk aj;clear aj;have bp:=(aE).len_le;refine kg 5 ?_;obtain ⟨r3,aX,hM⟩:=M.e_bind hM;refine t_gcall (!(!r2)) (gy_f rfl) cf45 (B r3) (fun _=>[I (s_Marks.length:Int),I 1,I 16]) (fun hg=>lst3 (gd_of hg (I (s_Marks.length:Int))) rfl rfl) H (fun hg=>(zac (s_Marks.length:Int) 1 16 (M.e_opt aX hg) _ (H.give (A:=[]) rfl)).mono fun v_ w_ ⟨y_,ab,al,H_⟩=>by subst ab; exact ⟨al,H.via H_⟩) ?_;intro br H;refine kg 1 ?_;refine s_val (x_por (b:=!r2) (r:=!r3) rfl rfl (fun hb=>gd_of (c:=!(!r2)) (by first | exact hb | (rw [hb]; rfl) | simp_all) (B (!r3))))<|zM (B ((!r2)||(!r3))) rfl<|g_val (!((!r2)||(!r3))) (gy_f rfl) (fun hg=>x_fa (v:=Oq ae 2) rfl (fa_blk (o:=0) Fd27_2 Sz25))<|g_val (!((!r2)||(!r3))) (gy_f rfl) (fun hg=>x_ld (v:=ai) (gd_of hg (Oq ae 2)) (ldb_sc Sc25 (H.bl 0) rfl)) ?_
 have bt:=(aD).len_le;refine g_val (!((!r2)||(!r3))) (gy_f rfl) (fun hg=>x_lenS T25.und (gd_of hg (ai)) aD) ?_;obtain ⟨r4,aY,hM⟩:=M.e_bind hM;refine t_gcall (!((!r2)||(!r3))) (gy_f rfl) cf45 (B r4) (fun _=>[I (s_Reaches.length:Int),I 1,I 6]) (fun hg=>lst3 (gd_of hg (I (s_Reaches.length:Int))) rfl rfl) H (fun hg=>(zac (s_Reaches.length:Int) 1 6 (M.e_opt aY hg) _ (H.give (A:=[]) rfl)).mono fun v_ w_ ⟨y_,ab,al,H_⟩=>by subst ab; exact ⟨al,H.via H_⟩) ?_;intro bu H;refine g_val (!((!r2)||(!r3))) (gy_f rfl) (fun hg=>x_not (b:=r4) (gd_of hg (B r4)))<|s_val (x_por (b:=((!r2)||(!r3))) (r:=!r4) rfl rfl (fun hb=>gd_of (c:=!((!r2)||(!r3))) (by first | exact hb | (rw [hb]; rfl) | simp_all) (B (!r4))))<|zM (B (((!r2)||(!r3))||(!r4))) rfl<|g_val (!(((!r2)||(!r3))||(!r4))) (gy_f rfl) (fun hg=>x_fa (v:=Pq ae) rfl (fa_blk (o:=0) Fd27_0 Sz23))<|g_val (!(((!r2)||(!r3))||(!r4))) (gy_f rfl) (fun hg=>x_ld (v:=ag) (gd_of hg (Pq ae)) (ldb_sc Sc23 (H.bl 0) rfl))<|g_val (!(((!r2)||(!r3))||(!r4))) (gy_f rfl) (fun hg=>x_mv (v:=.func (.func 44) #[] #[]) rfl) ?_;obtain ⟨r5,aZ,hM⟩:=M.e_bind hM;refine t_gcall (!(((!r2)||(!r3))||(!r4))) (gy_f rfl) cf46 (B r5) (fun _=>[ag,.func (.func 44) #[] #[]]) (fun hg=>lst2 (gd_of hg (ag)) (gd_of hg (.func (.func 44) #[] #[]))) H (fun hg=>(zeB s_Sections (fun ac=>za5 ac) (aC.app _) ap ⟨44,[],rfl,cf44,fun ak aQ aR aq ac aS au aF av aw=>by obtain ⟨bv,rfl,a6⟩:=Sect_arg av; exact (zeX ac aF a6 aw ak (St.refl au)).mono fun aq ak ⟨aT,ax,ay,az⟩=>by subst ax; exact ⟨ay,az⟩⟩ (M.e_opt aZ hg) _ (H.give (A:=[]) rfl)).mono fun v_ w_ ⟨y_,ab,al,H_⟩=>by subst ab; exact ⟨al,H.via H_⟩) ?_;intro bw H;refine g_val (!(((!r2)||(!r3))||(!r4))) (gy_f rfl) (fun hg=>x_not (b:=r5) (gd_of hg (B r5)))<|s_val (x_por (b:=(((!r2)||(!r3))||(!r4))) (r:=!r5) rfl rfl (fun hb=>gd_of (c:=!(((!r2)||(!r3))||(!r4))) (by first | exact hb | (rw [hb]; rfl) | simp_all) (B (!r5))))<|s_nil ?_
 refine W.cond ((((!r2)||(!r3))||(!r4))||(!r5)) rfl (fun aG=>?_) (fun aG=>?_)
 ·replace hM:=M.e_t hM aG;refine kg 4 ?_;refine W.ret ?_;have ab:=M.e_pure hM;exact ⟨_,resE_tmp rfl,⟨3,ab,rfl,(H.pk [])⟩⟩
 replace hM:=M.e_f hM aG;have bx:=(ap).len_le;refine kg 14 ?_;obtain ⟨a7,aH,aU⟩:=M.e_bind hM;obtain ⟨bz,aH⟩:=M.e_iter aH;refine W.loop (fun m σ W=>∃ (last:Int) (s2:Nat) (ρ:Env),σ=upds ρ [(1,Pq ae),(4,I last),(34,ag),(35,I (s_Sections.length:Int)),(36,I (s2:Int))]/\M.iterN (zaW s_Sections) m (last,s2)=some a7/\St w W [cBlk ae [ag,ao,ai] 27] R) ?_ ?_
 ·exact ⟨_,-1,0,_,upds_of _ _ ⟨rfl,rfl,rfl,rfl,rfl,trivial⟩,aH,H⟩
 rintro bA σ bB ⟨last,s2,ρ,rfl,aV,H⟩;obtain ⟨a8,ba,bC,hM,aI⟩:=M.e_iterN aV;simp only [zaW] at hM;clear aV;refine kg 5 ?_;refine W.cond (decide ((s2:Int)<(s_Sections.length:Int))) rfl (fun am=>?_) (fun am=>?_)
 ·replace hM:=M.e_t hM am;replace am:=dI am;obtain ⟨bD,hM⟩:=M.e_gd hM;refine kg 6 ?_;obtain ⟨aA,bb,aB⟩:=Sect_atA ap (i:=(s2:Int)) (by omega) (by omega);replace aB:Sl _ aA (s_Sections.getD s2 default).rows:=aB;have bE:=aB.len_le;refine s_val (x_ld (v:=.agg #[I ((s_Sections.getD s2 default).place),aA]) rfl (ld_ag Ag42 Sz42 (At.mono bb (aC.at H)))) ?_;refine t_alloc (cs:=[I 0,.slice none 0 0]) H Al42 rfl ?_;intro bF bG H;refine t_sw 0 0 [I ((s_Sections.getD s2 default).place),aA] (.agg #[I ((s_Sections.getD s2 default).place),aA]) H rfl rfl Sz42 rfl rfl rfl (by simp only [List.all_cons,List.all_nil,Bool.true_and,Bool.and_true,Sl.oc aB]; try rfl) ?_;intro bH H;refine kg 5 ?_;obtain ⟨bI,bc,hM⟩:=M.e_bind hM;refine s_call cf47 [.agg #[I ((s_Sections.getD s2 default).place),aA]] rfl (zeO (s_Sections.getD s2 default) (aC.app _) aB bc _ (H.gt 2)) ?_;rintro vq bJ ⟨r6,rfl,hvq,aj⟩;subst vq;(try dsimp only at hM);replace H:=H.bk aj;clear aj;refine kg 6 ?_;refine s_val (x_por (b:=!r6) (r:=decide (((s_Sections.getD s2 default).place)<=last)) rfl rfl (fun hb=>gd_of (c:=!(!r6)) (by first | exact hb | (rw [hb]; rfl) | simp_all) (B (decide (((s_Sections.getD s2 default).place)<=last)))))<|s_nil ?_
  refine W.cond ((!r6)||(decide (((s_Sections.getD s2 default).place)<=last))) rfl (fun aJ=>?_) (fun aJ=>?_)
  ·replace hM:=M.e_t hM aJ;refine kg 4 ?_;refine W.ret ?_;have bf:=M.e_inr hM aI;subst bf;replace hM:=aU;(try dsimp only at hM);have ab:=M.e_pure hM;exact ⟨_,resE_tmp rfl,⟨70,ab,rfl,(H.pk [])⟩⟩
  replace hM:=M.e_f hM aJ;refine kg 10 ?_;exact ⟨a8,ba,(s_Sections.getD s2 default).place,s2+1,_,upds_of _ _ ⟨rfl,rfl,rfl,rfl,rfl,trivial⟩,M.e_inl hM aI,(H.pk [1])⟩
 replace hM:=M.e_f hM am;replace am:=dI am;refine W.exit ?_;have bg:=M.e_inr hM aI;subst bg;replace hM:=aU;(try dsimp only at hM);refine kg 5 ?_;obtain ⟨bK,bh,hM⟩:=M.e_bind hM;refine s_call cf48 [ao,.func (.func 49) #[] #[]] rfl (zeR s_Marks (fun ac=>zay ac) (aO.app _) aE ⟨49,[],rfl,cf49,fun ak aQ aR aq ac aS au aF av aw=>by obtain rfl:=Mrk_arg av; exact (ze4 ac aw ak (St.refl au)).mono fun aq ak ⟨aT,ax,ay,az⟩=>by subst ax; exact ⟨ay,az⟩⟩ bh _ (H.gt 1)) ?_;rintro vq bL ⟨r7,rfl,hvq,aj⟩;subst vq;(try dsimp only at hM);replace H:=H.bk aj;clear aj;refine kg 4 ?_;refine g_val (!(!r7)) (gy_f rfl) (fun hg=>x_mf (fs:=[]) (cs:=[Pq ae]) rfl rfl) ?_;obtain ⟨r8,bi,hM⟩:=M.e_bind hM;refine t_gcall (!(!r7)) (gy_f rfl) cf50 (B r8) (fun _=>[ai,.func (.func 51) #[] #[Pq ae]]) (fun hg=>lst2 (gd_of hg (ai)) (gd_of hg (.func (.func 51) #[] #[Pq ae]))) H (fun hg=>(zew s_Reaches (fun ac=>zbj ac s_Sections s_Marks s_Reaches) (aP.app _) aD ⟨51,[Pq ae],rfl,cf51,fun ak aQ aR aq ac aS au aF av aw=>by obtain rfl:=Rch_arg av; exact (zeN ac s_Sections s_Marks s_Reaches (Reads.app (aC.app _) _) ap (Reads.app (aO.app _) _) aE (Reads.app (aP.app _) _) aD (Has.app (Has.here (k:=0) rfl) _) aw ak (St.refl au)).mono fun aq ak ⟨aT,ax,ay,az⟩=>by subst ax; exact ⟨ay,az⟩⟩ (M.e_opt bi hg) _ (H.give (A:=[]) rfl)).mono fun v_ w_ ⟨y_,ab,al,H_⟩=>by subst ab; exact ⟨al,H.via H_⟩) ?_;intro bM H;refine kg 1 ?_;refine s_val (x_por (b:=!r7) (r:=!r8) rfl rfl (fun hb=>gd_of (c:=!(!r7)) (by first | exact hb | (rw [hb]; rfl) | simp_all) (B (!r8))))<|s_nil ?_
 refine W.cond ((!r7)||(!r8)) rfl (fun aK=>?_) (fun aK=>?_)
 ·replace hM:=M.e_t hM aK;refine kg 4 ?_;refine W.ret ?_;have ab:=M.e_pure hM;exact ⟨_,resE_tmp rfl,⟨70,ab,rfl,(H.pk [])⟩⟩
 replace hM:=M.e_f hM aK;refine kg 5 ?_;refine W.ret ?_;have ab:=M.e_pure hM;exact ⟨_,resE_tmp rfl,⟨0,ab,rfl,(H.pk [])⟩⟩

def zah (s_Sections:List Sect) (s_Marks:List Mrk) (s_Reaches:List Rch):M (Int ⊕ Int) :=
  M.bind (zag s_Sections s_Marks s_Reaches) fun r2 =>
  bif r2 != 0 then (
  M.pure (.inl r2))
  else (
  M.pure (.inr 0))
theorem zaz {R:List Chunk} {ak:Cells} {ab:Value} {al:Cells} {ac:Value} {am:Cells} {ae:Value} (s_Sections:List Sect) (s_Marks:List Mrk) (s_Reaches:List Rch) (au:Reads R ak) (av:Sl ak ab s_Sections) (aw:Reads R al) (ax:Sl al ac s_Marks) (ay:Reads R am) (az:Sl am ae s_Reaches) {r:(Int ⊕ Int)} (hM:(zah s_Sections s_Marks s_Reaches).Ends r) (w:World) (H:St w w [] R):Ret Tryz.prog 53 #[.agg #[ab,ac,ae]] w fun v w'=>(∃ (y0:Int),(.inl y0)=r/\v = .tuple #[.pointer none,I y0]/\St w w' [] R)∨(∃ (y0:Int) (ao:Nat) (ap:Nat),(.inr y0)=r/\v = .tuple #[Pq ao,I y0]/\St w w' [cBlk ao [ab,ac,ae,.map (some ap)] 163,cMemI encSpt ap (zaa s_Sections s_Marks s_Reaches)] R):=by
 refine ret_of_W Tryz.func53 rfl rfl rfl ?_;refine kg 2 ?_;refine t_bx [ab,ac,ae] H rfl ?_;intro aC aD H;refine kg 7 ?_;obtain ⟨aE,aA,hM⟩:=M.e_bind hM;refine s_call cf9 [.agg #[ab,ac,ae]] rfl (zaK s_Sections s_Marks s_Reaches (au.app _) av (aw.app _) ax (ay.app _) az aA _ (H.gt 1)) ?_;rintro vq aF ⟨r2,rfl,hvq,aq⟩;subst vq;(try dsimp only at hM);replace H:=H.bk aq;clear aq;refine kg 7 ?_;refine W.cond (r2 != 0) rfl (fun ag=>?_) (fun ag=>?_)
 ·replace hM:=M.e_t hM ag;replace ag:=dI ag;refine kg 6 ?_;refine W.ret ?_;have aj:=M.e_pure hM;exact ⟨_,resE_tmp2 rfl,.inl (⟨r2,aj,rfl,(H.pk [])⟩)⟩
 replace hM:=M.e_f hM ag;replace ag:=dI ag;refine kg 4 ?_;refine t_mkmemI encSpt (zaa s_Sections s_Marks s_Reaches) H ?_;intro ai aG H;refine s_val (x_bld (ps:=[(0,.agg #[ab,ac,ae]),(1,.map (some ai))]) (zs:=[.slice none 0 0,.slice none 0 0,.slice none 0 0,.map none]) (L':=[ab,ac,ae,.map (some ai)]) rfl Tryz.underlying163 Al163 rfl (Bd163 Tryz.underlying163) (.cons (cs:=[ab,ac,ae]) rfl rfl rfl rfl rfl<|.cons (cs:=[.map (some ai)]) rfl rfl rfl rfl rfl<|.nil)) ?_;refine t_bx [ab,ac,ae,.map (some ai)] H rfl ?_;intro aB aH H;refine kg 3 ?_;refine W.ret ?_;have aj:=M.e_pure hM;exact ⟨_,resE_tmp2 rfl,.inr (⟨0,aB,ai,aj,rfl,(H.pk [0,1])⟩)⟩

end Go.Proofs.YtbldmjejckjflaaGreat
end
section
set_option maxRecDepth 100000
set_option maxHeartbeats 16000000
namespace Go.Proofs.YtbldmjejckjflaaGreat
open Go Go.Nm
attribute [local irreducible] gd execOp SL SLD SLT WR
def zbR (s_Marks:List Mrk) (marks:List Int):(Int × Int × Nat)->M ((Int × Int × Nat) ⊕ Int):=fun (e2,last,s2) =>
  bif decide ((s2:Int)<(marks.length:Int)) then (
  M.grd (decide ((s2:Int)<(marks.length:Int))) <|
  M.grd ((!(e2==0)||(decide ((-9223372036854775808:Int)<=(last+1))&&decide ((last+1)<=(9223372036854775807:Int))))) <|
  M.bind (M.opt (e2==0) (zab (marks.getD s2 0) (last+1) ((s_Marks.length:Int)-1)) false) fun r2 =>
  bif ((e2==0)&&(!r2)) then (
  M.pure (.inl (2,marks.getD s2 0,s2+1)))
  else (
  M.pure (.inl (e2,marks.getD s2 0,s2+1))))
  else (
  M.pure (.inr e2))
def zaR (s_Marks:List Mrk) (marks:List Int):(Int × Int × Nat)->M ((Int × Int × Nat) ⊕ Int):=fun (e2,last,s2) =>
  bif decide ((s2:Int)<(marks.length:Int)) then (
  M.grd (decide ((s2:Int)<(marks.length:Int))) <|
  M.grd ((!(e2==0)||(decide ((-9223372036854775808:Int)<=(last+1))&&decide ((last+1)<=(9223372036854775807:Int))))) <|
  M.bind (M.opt (e2==0) (zab (marks.getD s2 0) (last+1) ((s_Marks.length:Int)-1)) false) fun r2 =>
  bif ((e2==0)&&(!r2)) then (
  M.pure (.inl (2,marks.getD s2 0,s2+1)))
  else (
  M.pure (.inl (e2,marks.getD s2 0,s2+1))))
  else (
  M.pure (.inr e2))
def zax (s_Sections:List Sect) (s_Marks:List Mrk) (s_Reaches:List Rch) (marks:List Int):M (Int ⊕ Int) :=
  M.bind (zah s_Sections s_Marks s_Reaches) fun x_=>match x_ with
  | (.inl r1)=>(
  M.bind (M.iter (zbR s_Marks marks) (r1,-1,0)) fun e3 =>
  M.pure (.inl e3))
  | (.inr ab)=>(
  M.bind (M.iter (zaR s_Marks marks) (ab,-1,0)) fun e3 =>
  M.pure (.inr e3))
theorem zc1 {R:List Chunk} {aD:Cells} {ab:Value} {aE:Cells} {ac:Value} {aF:Cells} {ae:Value} {aG:Cells} {al:Value} (s_Sections:List Sect) (s_Marks:List Mrk) (s_Reaches:List Rch) (marks:List Int) (aQ:Reads R aD) (aR:Sl aD ab s_Sections) (aS:Reads R aE) (ao:Sl aE ac s_Marks) (aT:Reads R aF) (aU:Sl aF ae s_Reaches) (bh:Reads R aG) (aH:Sl aG al marks) {r:(Int ⊕ Int)} (hM:(zax s_Sections s_Marks s_Reaches marks).Ends r) (w:World) (H:St w w [] R):Ret Tryz.prog 72 #[.agg #[ab,ac,ae],al] w fun v w'=>(∃ (y0:Int),(.inl y0)=r/\v = .tuple #[.pointer none,I y0]/\St w w' [] R)∨(∃ (y0:Int) (aI:Nat) (aJ:Nat),(.inr y0)=r/\v = .tuple #[Pq aI,I y0]/\St w w' [cBlk aI [ab,ac,ae,.map (some aJ)] 163,cMemI encSpt aJ (zaa s_Sections s_Marks s_Reaches)] R):=by
 refine ret_of_W Tryz.func72 rfl rfl rfl ?_;refine kg 2 ?_;refine t_bx [ab,ac,ae] H rfl ?_;intro am bi H;refine kg 6 ?_;obtain ⟨bj,aV,hM⟩:=M.e_bind hM;refine s_call cf53 [.agg #[ab,ac,ae]] rfl (zaz s_Sections s_Marks s_Reaches (aQ.app _) aR (aS.app _) ao (aT.app _) aU aV _ (H.gt 1)) ?_;rintro vq bm (⟨r1,aW,hvq,ak⟩ | ⟨aX,ap,aq,aY,hvq,ak⟩)
 ·subst aW;subst vq;(try dsimp only at hM);replace H:=H.bk ak;clear ak;have bn:=(aH).len_le;refine kg 18 ?_;obtain ⟨aZ,au,a6⟩:=M.e_bind hM;obtain ⟨a7,au⟩:=M.e_iter au;refine W.loop (fun m σ W=>∃ (e2:Int) (last:Int) (s2:Nat) (ρ:Env),σ=upds ρ [(2,Pq am),(6,.pointer none),(7,I e2),(8,I last),(16,al),(17,I (marks.length:Int)),(18,I (s2:Int))]/\M.iterN (zbR s_Marks marks) m (e2,last,s2)=some aZ/\St w W [cBlk am [ab,ac,ae] 27] R) ?_ ?_
  ·exact ⟨_,r1,-1,0,_,upds_of _ _ ⟨rfl,rfl,rfl,rfl,rfl,rfl,rfl,trivial⟩,au,H⟩
  rintro bo σ bp ⟨e2,last,s2,ρ,rfl,aK,H⟩;obtain ⟨aL,aM,br,hM,av⟩:=M.e_iterN aK;simp only [zbR] at hM;clear aK;refine kg 5 ?_;refine W.cond (decide ((s2:Int)<(marks.length:Int))) rfl (fun ag=>?_) (fun ag=>?_)
  ·replace hM:=M.e_t hM ag;replace ag:=dI ag;obtain ⟨bt,hM⟩:=M.e_gd hM;obtain ⟨aw,hM⟩:=M.e_grd hM;replace aw:=M.imp_of aw;simp only [Bool.and_eq_true,decide_eq_true_eq] at aw;have bu:=(ao).len_le;refine kg 22 ?_;obtain ⟨r2,a8,hM⟩:=M.e_bind hM;refine t_gcall (e2==0) (gy_t rfl) cf45 (B r2) (fun _=>[I (marks.getD s2 0),I (last+1),I ((s_Marks.length:Int)-1)]) (fun hg=>lst3 (gd_of hg (I (marks.getD s2 0))) (gd_of hg (I (last+1))) (gd_of hg (I ((s_Marks.length:Int)-1)))) H (fun hg=>(zac (marks.getD s2 0) (last+1) ((s_Marks.length:Int)-1) (M.e_opt a8 hg) _ (H.give (A:=[]) rfl)).mono fun v_ w_ ⟨y_,ai,ax,H_⟩=>by subst ai; exact ⟨ax,H.via H_⟩) ?_;intro bv H;refine kg 1 ?_;refine s_val (x_pand (b:=e2==0) (r:=!r2) rfl (fun hb=>gd_of (c:=e2==0) (by first | exact hb | (rw [hb]; rfl) | simp_all) (B (!r2))) rfl)<|s_nil ?_
   refine W.cond ((e2==0)&&(!r2)) rfl (fun ay=>?_) (fun ay=>?_)
   ·replace hM:=M.e_t hM ay;refine kg 11 ?_;exact ⟨aL,aM,2,marks.getD s2 0,s2+1,_,upds_of _ _ ⟨rfl,rfl,rfl,rfl,rfl,rfl,rfl,trivial⟩,M.e_inl hM av,H⟩
   replace hM:=M.e_f hM ay;refine kg 9 ?_;exact ⟨aL,aM,e2,marks.getD s2 0,s2+1,_,upds_of _ _ ⟨rfl,rfl,rfl,rfl,rfl,rfl,rfl,trivial⟩,M.e_inl hM av,H⟩
  replace hM:=M.e_f hM ag;replace ag:=dI ag;refine W.exit ?_;have ba:=M.e_inr hM av;subst ba;replace hM:=a6;(try dsimp only at hM);refine kg 7 ?_;refine W.ret ?_;have ai:=M.e_pure hM;exact ⟨_,resE_tmp2 rfl,.inl (⟨e2,ai,rfl,(H.pk [])⟩)⟩
 subst aY;subst vq;(try dsimp only at hM);replace H:=H.bk ak;clear ak;have bw:=(aH).len_le;refine kg 18 ?_;obtain ⟨bb,az,bc⟩:=M.e_bind hM;obtain ⟨a7,az⟩:=M.e_iter az;refine W.loop (fun m σ W=>∃ (e2:Int) (last:Int) (s2:Nat) (ρ:Env),σ=upds ρ [(2,Pq am),(6,Pq ap),(7,I e2),(8,I last),(16,al),(17,I (marks.length:Int)),(18,I (s2:Int))]/\M.iterN (zaR s_Marks marks) m (e2,last,s2)=some bb/\St w W [cBlk ap [ab,ac,ae,.map (some aq)] 163,cMemI encSpt aq (zaa s_Sections s_Marks s_Reaches),cBlk am [ab,ac,ae] 27] R) ?_ ?_
 ·exact ⟨_,aX,-1,0,_,upds_of _ _ ⟨rfl,rfl,rfl,rfl,rfl,rfl,rfl,trivial⟩,az,H⟩
 rintro bx σ bz ⟨e2,last,s2,ρ,rfl,aN,H⟩;obtain ⟨aO,aP,bA,hM,aA⟩:=M.e_iterN aN;simp only [zaR] at hM;clear aN;refine kg 5 ?_;refine W.cond (decide ((s2:Int)<(marks.length:Int))) rfl (fun aj=>?_) (fun aj=>?_)
 ·replace hM:=M.e_t hM aj;replace aj:=dI aj;obtain ⟨bB,hM⟩:=M.e_gd hM;obtain ⟨aB,hM⟩:=M.e_grd hM;replace aB:=M.imp_of aB;simp only [Bool.and_eq_true,decide_eq_true_eq] at aB;have bC:=(ao).len_le;refine kg 22 ?_;obtain ⟨r2,bf,hM⟩:=M.e_bind hM;refine t_gcall (e2==0) (gy_t rfl) cf45 (B r2) (fun _=>[I (marks.getD s2 0),I (last+1),I ((s_Marks.length:Int)-1)]) (fun hg=>lst3 (gd_of hg (I (marks.getD s2 0))) (gd_of hg (I (last+1))) (gd_of hg (I ((s_Marks.length:Int)-1)))) H (fun hg=>(zac (marks.getD s2 0) (last+1) ((s_Marks.length:Int)-1) (M.e_opt bf hg) _ (H.give (A:=[]) rfl)).mono fun v_ w_ ⟨y_,ai,ax,H_⟩=>by subst ai; exact ⟨ax,H.via H_⟩) ?_;intro bD H;refine kg 1 ?_;refine s_val (x_pand (b:=e2==0) (r:=!r2) rfl (fun hb=>gd_of (c:=e2==0) (by first | exact hb | (rw [hb]; rfl) | simp_all) (B (!r2))) rfl)<|s_nil ?_
  refine W.cond ((e2==0)&&(!r2)) rfl (fun aC=>?_) (fun aC=>?_)
  ·replace hM:=M.e_t hM aC;refine kg 11 ?_;exact ⟨aO,aP,2,marks.getD s2 0,s2+1,_,upds_of _ _ ⟨rfl,rfl,rfl,rfl,rfl,rfl,rfl,trivial⟩,M.e_inl hM aA,H⟩
  replace hM:=M.e_f hM aC;refine kg 9 ?_;exact ⟨aO,aP,e2,marks.getD s2 0,s2+1,_,upds_of _ _ ⟨rfl,rfl,rfl,rfl,rfl,rfl,rfl,trivial⟩,M.e_inl hM aA,H⟩
 replace hM:=M.e_f hM aj;replace aj:=dI aj;refine W.exit ?_;have bg:=M.e_inr hM aA;subst bg;replace hM:=bc;(try dsimp only at hM);refine kg 7 ?_;refine W.ret ?_;have ai:=M.e_pure hM;exact ⟨_,resE_tmp2 rfl,.inr (⟨e2,ap,aq,ai,rfl,(H.pk [0,1])⟩)⟩

def zav (s_Sections:List Sect) (s_Marks:List Mrk) (s_Reaches:List Rch) (marks:List Int) (reach:Int):M ((Int × Int × Int × Int × Bool × Int) ⊕ (Int × Int × Int × Int × Bool × Int)) :=
  M.bind (zax s_Sections s_Marks s_Reaches marks) fun x_=>match x_ with
  | (.inl r1)=>(
  M.bind (M.opt (r1==0) (zab reach 0 ((s_Reaches.length:Int)-1)) false) fun r2 =>
  bif ((r1==0)&&(!r2)) then (
  M.pure (.inl (0,0,0,0,false,2)))
  else (
  bif r1 != 0 then (
  M.pure (.inl (0,0,0,0,false,r1)))
  else (
  M.grd (decide ((0:Int)<=reach)&&decide (reach<(s_Reaches.length:Int))) <|
  M.pure (.inl (((s_Reaches.getD (Int.toNat reach) default).up),((s_Reaches.getD (Int.toNat reach) default).down),((s_Reaches.getD (Int.toNat reach) default).lo),((s_Reaches.getD (Int.toNat reach) default).hi),((s_Reaches.getD (Int.toNat reach) default).narrow),0)))))
  | (.inr ab)=>(
  M.bind (M.opt (ab==0) (zab reach 0 ((s_Reaches.length:Int)-1)) false) fun r2 =>
  bif ((ab==0)&&(!r2)) then (
  M.pure (.inl (0,0,0,0,false,2)))
  else (
  bif ab != 0 then (
  M.pure (.inl (0,0,0,0,false,ab)))
  else (
  M.grd (decide ((0:Int)<=reach)&&decide (reach<(s_Reaches.length:Int))) <|
  M.pure (.inr (((s_Reaches.getD (Int.toNat reach) default).up),((s_Reaches.getD (Int.toNat reach) default).down),((s_Reaches.getD (Int.toNat reach) default).lo),((s_Reaches.getD (Int.toNat reach) default).hi),((s_Reaches.getD (Int.toNat reach) default).narrow),0)))))
theorem zdi {R:List Chunk} {ay:Cells} {ac:Value} {az:Cells} {ae:Value} {aA:Cells} {ag:Value} {aB:Cells} {ap:Value} (s_Sections:List Sect) (s_Marks:List Mrk) (s_Reaches:List Rch) (marks:List Int) (reach:Int) (aH:Reads R ay) (aI:Sl ay ac s_Sections) (aJ:Reads R az) (aK:Sl az ae s_Marks) (aL:Reads R aA) (aq:Sl aA ag s_Reaches) (aM:Reads R aB) (aN:Sl aB ap marks) {r:((Int × Int × Int × Int × Bool × Int) ⊕ (Int × Int × Int × Int × Bool × Int))} (hM:(zav s_Sections s_Marks s_Reaches marks reach).Ends r) (w:World) (H:St w w [] R):Ret Tryz.prog 79 #[.agg #[ac,ae,ag],ap,I reach] w fun v w'=>(∃ (y0:Int) (y1:Int) (y2:Int) (y3:Int) (y4:Bool) (y5:Int),(.inl (y0,y1,y2,y3,y4,y5))=r/\v = .tuple #[.pointer none,.agg #[I y0,I y1,I y2,I y3,B y4],I y5]/\St w w' [] R)∨(∃ (y0:Int) (y1:Int) (y2:Int) (y3:Int) (y4:Bool) (y5:Int) (aC:Nat) (aD:Nat),(.inr (y0,y1,y2,y3,y4,y5))=r/\v = .tuple #[Pq aC,.agg #[I y0,I y1,I y2,I y3,B y4],I y5]/\St w w' [cBlk aC [ac,ae,ag,.map (some aD)] 163,cMemI encSpt aD (zaa s_Sections s_Marks s_Reaches)] R):=by
 refine ret_of_W Tryz.func79 rfl rfl rfl ?_;refine kg 2 ?_;refine t_bx [ac,ae,ag] H rfl ?_;intro aE aZ H;refine kg 1 ?_;refine t_alloc (cs:=[I 0,I 0,I 0,I 0,B false]) H Al44 rfl ?_;intro a6 a7 H;refine kg 6 ?_;obtain ⟨a8,aO,hM⟩:=M.e_bind hM;refine s_call cf72 [.agg #[ac,ae,ag],ap] rfl (zc1 s_Sections s_Marks s_Reaches marks (aH.app _) aI (aJ.app _) aK (aL.app _) aq (aM.app _) aN aO _ (H.gt 2)) ?_;rintro vq ba (⟨r1,aP,hvq,al⟩ | ⟨ai,ao,au,aQ,hvq,al⟩)
 ·subst aP;subst vq;(try dsimp only at hM);replace H:=H.bk al;clear al;have bb:=(aq).len_le;refine kg 17 ?_;obtain ⟨r2,aR,hM⟩:=M.e_bind hM;refine t_gcall (r1==0) (gy_t rfl) cf45 (B r2) (fun _=>[I reach,I 0,I ((s_Reaches.length:Int)-1)]) (fun hg=>lst3 (gd_of hg (I reach)) rfl (gd_of hg (I ((s_Reaches.length:Int)-1)))) H (fun hg=>(zac reach 0 ((s_Reaches.length:Int)-1) (M.e_opt aR hg) _ (H.give (A:=[]) rfl)).mono fun v_ w_ ⟨y_,ab,av,H_⟩=>by subst ab; exact ⟨av,H.via H_⟩) ?_;intro bc H;refine kg 1 ?_;refine s_val (x_pand (b:=r1==0) (r:=!r2) rfl (fun hb=>gd_of (c:=r1==0) (by first | exact hb | (rw [hb]; rfl) | simp_all) (B (!r2))) rfl)<|s_nil ?_
  refine W.cond ((r1==0)&&(!r2)) rfl (fun aw=>?_) (fun aw=>?_)
  ·replace hM:=M.e_t hM aw;refine kg 9 ?_;refine W.cond ((2:Int) != 0) rfl (fun aF=>?_) (fun aF=>?_)
   ·skip
    refine kg 2 ?_;refine s_val (x_bld (ps:=[]) (zs:=[I 0,I 0,I 0,I 0,B false]) (L':=[I 0,I 0,I 0,I 0,B false]) rfl Tryz.underlying44 Al44 rfl (Bd44 Tryz.underlying44) (.nil)) ?_;refine kg 2 ?_;refine t_sw 0 0 [I 0,I 0,I 0,I 0,B false] (.agg #[I 0,I 0,I 0,I 0,B false]) H rfl rfl Sz44 rfl rfl rfl rfl ?_;intro bf H;refine kg 2 ?_;refine W.ret ?_;have aS:=(H.bl 0)
    have ab:=M.e_pure hM;exact ⟨_,(resE_ofn (vs:=[.pointer none,.agg #[I 0,I 0,I 0,I 0,B false],I 2]) rfl rfl (.tmp (v:=.pointer none) rfl<|.cell (v:=.agg #[I 0,I 0,I 0,I 0,B false]) rfl (run_loadVar_ag (ds:=[I 0,I 0,I 0,I 0,B false]) Ag44 Sz44 aS rfl rfl)<|.tmp (v:=I 2) rfl<|.nil)),.inl (⟨0,0,0,0,false,2,ab,rfl,(H.pk [])⟩)⟩
   skip
   exact absurd aF (by decide)
  replace hM:=M.e_f hM aw;refine kg 7 ?_;refine W.cond (r1 != 0) rfl (fun aj=>?_) (fun aj=>?_)
  ·replace hM:=M.e_t hM aj;replace aj:=dI aj;refine kg 2 ?_;refine s_val (x_bld (ps:=[]) (zs:=[I 0,I 0,I 0,I 0,B false]) (L':=[I 0,I 0,I 0,I 0,B false]) rfl Tryz.underlying44 Al44 rfl (Bd44 Tryz.underlying44) (.nil)) ?_;refine kg 2 ?_;refine t_sw 0 0 [I 0,I 0,I 0,I 0,B false] (.agg #[I 0,I 0,I 0,I 0,B false]) H rfl rfl Sz44 rfl rfl rfl rfl ?_;intro bg H;refine kg 2 ?_;refine W.ret ?_;have aT:=(H.bl 0)
   have ab:=M.e_pure hM;exact ⟨_,(resE_ofn (vs:=[.pointer none,.agg #[I 0,I 0,I 0,I 0,B false],I r1]) rfl rfl (.tmp (v:=.pointer none) rfl<|.cell (v:=.agg #[I 0,I 0,I 0,I 0,B false]) rfl (run_loadVar_ag (ds:=[I 0,I 0,I 0,I 0,B false]) Ag44 Sz44 aT rfl rfl)<|.tmp (v:=I r1) rfl<|.nil)),.inl (⟨0,0,0,0,false,r1,ab,rfl,(H.pk [])⟩)⟩
  replace hM:=M.e_f hM aj;replace aj:=dI aj;refine kg 2 ?_;refine W.draw (fun W=>St w W [cBlk aE [ac,ae,ag] 27] R) [(0,true),(1,true),(2,true),(3,true),(4,true),(5,true),(6,true),(7,false),(8,true)] mixed (by decide +kernel) rfl ?_;intro bh am;replace H:=H.ext am;clear am;refine ⟨(H.pk [1]),?_⟩;obtain ⟨bi,hM⟩:=M.e_gd hM;refine kg 7 ?_;refine d_l rfl ?_;refine t_sw 0 0 [I ((s_Reaches.getD (Int.toNat reach) default).up),I ((s_Reaches.getD (Int.toNat reach) default).down),I ((s_Reaches.getD (Int.toNat reach) default).lo),I ((s_Reaches.getD (Int.toNat reach) default).hi),B ((s_Reaches.getD (Int.toNat reach) default).narrow)] (.agg #[I ((s_Reaches.getD (Int.toNat reach) default).up),I ((s_Reaches.getD (Int.toNat reach) default).down),I ((s_Reaches.getD (Int.toNat reach) default).lo),I ((s_Reaches.getD (Int.toNat reach) default).hi),B ((s_Reaches.getD (Int.toNat reach) default).narrow)]) H rfl rfl Sz44 rfl rfl rfl rfl ?_;intro bj H;refine s_nil ⟨(H.pk [1]),?_⟩;refine kg 2 ?_;refine W.ret ?_;have aU:=(H.bl 0)
  have ab:=M.e_pure hM;exact ⟨_,(resE_ofn (vs:=[.pointer none,.agg #[I ((s_Reaches.getD (Int.toNat reach) default).up),I ((s_Reaches.getD (Int.toNat reach) default).down),I ((s_Reaches.getD (Int.toNat reach) default).lo),I ((s_Reaches.getD (Int.toNat reach) default).hi),B ((s_Reaches.getD (Int.toNat reach) default).narrow)],I 0]) rfl rfl (.tmp (v:=.pointer none) rfl<|.cell (v:=.agg #[I ((s_Reaches.getD (Int.toNat reach) default).up),I ((s_Reaches.getD (Int.toNat reach) default).down),I ((s_Reaches.getD (Int.toNat reach) default).lo),I ((s_Reaches.getD (Int.toNat reach) default).hi),B ((s_Reaches.getD (Int.toNat reach) default).narrow)]) rfl (run_loadVar_ag (ds:=[I ((s_Reaches.getD (Int.toNat reach) default).up),I ((s_Reaches.getD (Int.toNat reach) default).down),I ((s_Reaches.getD (Int.toNat reach) default).lo),I ((s_Reaches.getD (Int.toNat reach) default).hi),B ((s_Reaches.getD (Int.toNat reach) default).narrow)]) Ag44 Sz44 aU rfl rfl)<|.tmp (v:=I 0) rfl<|.nil)),.inl (⟨((s_Reaches.getD (Int.toNat reach) default).up),((s_Reaches.getD (Int.toNat reach) default).down),((s_Reaches.getD (Int.toNat reach) default).lo),((s_Reaches.getD (Int.toNat reach) default).hi),((s_Reaches.getD (Int.toNat reach) default).narrow),0,ab,rfl,(H.pk [])⟩)⟩
 subst aQ;subst vq;(try dsimp only at hM);replace H:=H.bk al;clear al;have bm:=(aq).len_le;refine kg 17 ?_;obtain ⟨r2,aV,hM⟩:=M.e_bind hM;refine t_gcall (ai==0) (gy_t rfl) cf45 (B r2) (fun _=>[I reach,I 0,I ((s_Reaches.length:Int)-1)]) (fun hg=>lst3 (gd_of hg (I reach)) rfl (gd_of hg (I ((s_Reaches.length:Int)-1)))) H (fun hg=>(zac reach 0 ((s_Reaches.length:Int)-1) (M.e_opt aV hg) _ (H.give (A:=[]) rfl)).mono fun v_ w_ ⟨y_,ab,av,H_⟩=>by subst ab; exact ⟨av,H.via H_⟩) ?_;intro bn H;refine kg 1 ?_;refine s_val (x_pand (b:=ai==0) (r:=!r2) rfl (fun hb=>gd_of (c:=ai==0) (by first | exact hb | (rw [hb]; rfl) | simp_all) (B (!r2))) rfl)<|s_nil ?_
 refine W.cond ((ai==0)&&(!r2)) rfl (fun ax=>?_) (fun ax=>?_)
 ·replace hM:=M.e_t hM ax;refine kg 9 ?_;refine W.cond ((2:Int) != 0) rfl (fun aG=>?_) (fun aG=>?_)
  ·skip
   refine kg 2 ?_;refine s_val (x_bld (ps:=[]) (zs:=[I 0,I 0,I 0,I 0,B false]) (L':=[I 0,I 0,I 0,I 0,B false]) rfl Tryz.underlying44 Al44 rfl (Bd44 Tryz.underlying44) (.nil)) ?_;refine kg 2 ?_;refine t_sw 2 0 [I 0,I 0,I 0,I 0,B false] (.agg #[I 0,I 0,I 0,I 0,B false]) H rfl rfl Sz44 rfl rfl rfl rfl ?_;intro bo H;refine kg 2 ?_;replace H:=H.pk [2];refine W.ret ?_;have aW:=(H.bl 0)
   have ab:=M.e_pure hM;exact ⟨_,(resE_ofn (vs:=[.pointer none,.agg #[I 0,I 0,I 0,I 0,B false],I 2]) rfl rfl (.tmp (v:=.pointer none) rfl<|.cell (v:=.agg #[I 0,I 0,I 0,I 0,B false]) rfl (run_loadVar_ag (ds:=[I 0,I 0,I 0,I 0,B false]) Ag44 Sz44 aW rfl rfl)<|.tmp (v:=I 2) rfl<|.nil)),.inl (⟨0,0,0,0,false,2,ab,rfl,(H.pk [])⟩)⟩
  skip
  exact absurd aG (by decide)
 replace hM:=M.e_f hM ax;refine kg 7 ?_;refine W.cond (ai != 0) rfl (fun ak=>?_) (fun ak=>?_)
 ·replace hM:=M.e_t hM ak;replace ak:=dI ak;refine kg 2 ?_;refine s_val (x_bld (ps:=[]) (zs:=[I 0,I 0,I 0,I 0,B false]) (L':=[I 0,I 0,I 0,I 0,B false]) rfl Tryz.underlying44 Al44 rfl (Bd44 Tryz.underlying44) (.nil)) ?_;refine kg 2 ?_;refine t_sw 2 0 [I 0,I 0,I 0,I 0,B false] (.agg #[I 0,I 0,I 0,I 0,B false]) H rfl rfl Sz44 rfl rfl rfl rfl ?_;intro bp H;refine kg 2 ?_;replace H:=H.pk [2];refine W.ret ?_;have aX:=(H.bl 0)
  have ab:=M.e_pure hM;exact ⟨_,(resE_ofn (vs:=[.pointer none,.agg #[I 0,I 0,I 0,I 0,B false],I ai]) rfl rfl (.tmp (v:=.pointer none) rfl<|.cell (v:=.agg #[I 0,I 0,I 0,I 0,B false]) rfl (run_loadVar_ag (ds:=[I 0,I 0,I 0,I 0,B false]) Ag44 Sz44 aX rfl rfl)<|.tmp (v:=I ai) rfl<|.nil)),.inl (⟨0,0,0,0,false,ai,ab,rfl,(H.pk [])⟩)⟩
 replace hM:=M.e_f hM ak;replace ak:=dI ak;refine kg 2 ?_;refine W.draw (fun W=>St w W [cBlk ao [ac,ae,ag,.map (some au)] 163,cMemI encSpt au (zaa s_Sections s_Marks s_Reaches),cBlk aE [ac,ae,ag] 27] R) [(0,true),(1,true),(2,true),(3,true),(4,true),(5,true),(6,true),(7,false),(8,true)] mixed (by decide +kernel) rfl ?_;intro br am;replace H:=H.ext am;clear am;refine ⟨(H.pk [0,1,3]),?_⟩;obtain ⟨bt,hM⟩:=M.e_gd hM;refine kg 7 ?_;refine d_l rfl ?_;refine t_sw 2 0 [I ((s_Reaches.getD (Int.toNat reach) default).up),I ((s_Reaches.getD (Int.toNat reach) default).down),I ((s_Reaches.getD (Int.toNat reach) default).lo),I ((s_Reaches.getD (Int.toNat reach) default).hi),B ((s_Reaches.getD (Int.toNat reach) default).narrow)] (.agg #[I ((s_Reaches.getD (Int.toNat reach) default).up),I ((s_Reaches.getD (Int.toNat reach) default).down),I ((s_Reaches.getD (Int.toNat reach) default).lo),I ((s_Reaches.getD (Int.toNat reach) default).hi),B ((s_Reaches.getD (Int.toNat reach) default).narrow)]) H rfl rfl Sz44 rfl rfl rfl rfl ?_;intro bu H;refine s_nil ⟨(H.pk [0,1,3]),?_⟩;refine kg 2 ?_;refine W.ret ?_;have aY:=(H.bl 2)
 have ab:=M.e_pure hM;exact ⟨_,(resE_ofn (vs:=[Pq ao,.agg #[I ((s_Reaches.getD (Int.toNat reach) default).up),I ((s_Reaches.getD (Int.toNat reach) default).down),I ((s_Reaches.getD (Int.toNat reach) default).lo),I ((s_Reaches.getD (Int.toNat reach) default).hi),B ((s_Reaches.getD (Int.toNat reach) default).narrow)],I 0]) rfl rfl (.tmp (v:=Pq ao) rfl<|.cell (v:=.agg #[I ((s_Reaches.getD (Int.toNat reach) default).up),I ((s_Reaches.getD (Int.toNat reach) default).down),I ((s_Reaches.getD (Int.toNat reach) default).lo),I ((s_Reaches.getD (Int.toNat reach) default).hi),B ((s_Reaches.getD (Int.toNat reach) default).narrow)]) rfl (run_loadVar_ag (ds:=[I ((s_Reaches.getD (Int.toNat reach) default).up),I ((s_Reaches.getD (Int.toNat reach) default).down),I ((s_Reaches.getD (Int.toNat reach) default).lo),I ((s_Reaches.getD (Int.toNat reach) default).hi),B ((s_Reaches.getD (Int.toNat reach) default).narrow)]) Ag44 Sz44 aY rfl rfl)<|.tmp (v:=I 0) rfl<|.nil)),.inr (⟨((s_Reaches.getD (Int.toNat reach) default).up),((s_Reaches.getD (Int.toNat reach) default).down),((s_Reaches.getD (Int.toNat reach) default).lo),((s_Reaches.getD (Int.toNat reach) default).hi),((s_Reaches.getD (Int.toNat reach) default).narrow),0,ao,au,ab,rfl,(H.pk [0,1])⟩)⟩

def zaO (s:List Int) (f:Int->M Bool):Nat->M (Nat ⊕ (Int ⊕ Unit)):=fun s2 =>
  bif decide ((s2:Int)<(s.length:Int)) then (
  M.grd (decide ((s2:Int)<(s.length:Int))) <|
  M.bind (f (s.getD s2 0)) fun r2 =>
  bif r2 then (
  M.pure (.inr (.inl (s2:Int))))
  else (
  M.pure (.inl (s2+1))))
  else (
  M.pure (.inr (.inr ())))
def zcD (s:List Int) (f:Int->M Bool):M Int :=
  M.bind (M.iter (zaO s f) 0) fun x_=>match x_ with
  | (.inl s3)=>(
  M.pure s3)
  | (.inr (_:Unit))=>(
  M.pure (-1))
theorem zfl {R:List Chunk} {al:Cells} {ac:Value} {ae:Value} (s:List Int) (f:Int->M Bool) (aA:Reads R al) (ap:Sl al ac s) (aq:FnM Tryz.prog R ae f) {r:Int} (hM:(zcD s f).Ends r) (w:World) (H:St w w [] R):Ret Tryz.prog 136 #[ac,ae] w fun v w'=>∃ (y0:Int),y0=r/\v=I y0/\St w w' [] R:=by
 refine ret_of_W Tryz.func136 rfl rfl rfl ?_;have aB:=(ap).len_le;refine kg 12 ?_;obtain ⟨au,ag,am⟩:=M.e_bind hM;obtain ⟨aC,ag⟩:=M.e_iter ag;refine W.loop (fun m σ W=>∃ (s2:Nat) (ρ:Env),σ=upds ρ [(0,ac),(1,ae),(7,I (s.length:Int)),(8,I (s2:Int))]/\M.iterN (zaO s f) m s2=some au/\St w W [] R) ?_ ?_
 ·exact ⟨_,0,_,upds_of _ _ ⟨rfl,rfl,rfl,rfl,trivial⟩,ag,H⟩
 rintro aD σ aE ⟨s2,ρ,rfl,ao,H⟩;obtain ⟨av,aw,aF,hM,ai⟩:=M.e_iterN ao;simp only [zaO] at hM;clear ao;refine kg 5 ?_;refine W.cond (decide ((s2:Int)<(s.length:Int))) rfl (fun ab=>?_) (fun ab=>?_)
 ·replace hM:=M.e_t hM ab;replace ab:=dI ab;obtain ⟨aG,hM⟩:=M.e_gd hM;refine kg 15 ?_;obtain ⟨r2,ax,hM⟩:=M.e_bind hM;refine t_callM H aq rfl rfl (s.getD s2 0) Reads.none (Arg.mkI (fun _=>none) _) ax ?_;intro aH H;refine s_nil ?_;refine W.cond r2 rfl (fun aj=>?_) (fun aj=>?_)
  ·replace hM:=M.e_t hM aj;refine kg 5 ?_;refine W.ret ?_;have ay:=M.e_inr hM ai;subst ay;replace hM:=am;(try dsimp only at hM);have ak:=M.e_pure hM;exact ⟨_,resE_tmp rfl,⟨(s2:Int),ak,rfl,H⟩⟩
  replace hM:=M.e_f hM aj;refine kg 5 ?_;exact ⟨av,aw,s2+1,_,upds_of _ _ ⟨rfl,rfl,rfl,rfl,trivial⟩,M.e_inl hM ai,H⟩
 replace hM:=M.e_f hM ab;replace ab:=dI ab;refine W.exit ?_;have az:=M.e_inr hM ai;subst az;replace hM:=am;(try dsimp only at hM);refine kg 4 ?_;refine W.ret ?_;have ak:=M.e_pure hM;exact ⟨_,resE_tmp rfl,⟨(-1),ak,rfl,H⟩⟩

def zcr (s:List Int) (f:Int->M Bool):M Bool :=
  M.bind (zcD s f) fun r2 =>
  M.pure (decide (0<=r2))
theorem zfj {R:List Chunk} {ae:Cells} {ab:Value} {ac:Value} (s:List Int) (f:Int->M Bool) (ai:Reads R ae) (aj:Sl ae ab s) (ak:FnM Tryz.prog R ac f) {r:Bool} (hM:(zcr s f).Ends r) (w:World) (H:St w w [] R):Ret Tryz.prog 128 #[ab,ac] w fun v w'=>∃ (y0:Bool),y0=r/\v=B y0/\St w w' [] R:=by
 refine ret_of_W Tryz.func128 rfl rfl rfl ?_;refine kg 8 ?_;obtain ⟨ao,al,hM⟩:=M.e_bind hM;refine s_call cf136 [ab,ac] rfl (zfl s f (ai.app _) aj (ak.app _) al _ (H.gt 0)) ?_;rintro vq ap ⟨r2,rfl,hvq,ag⟩;subst vq;(try dsimp only at hM);replace H:=H.bk ag;clear ag;refine kg 3 ?_;refine W.ret ?_;have am:=M.e_pure hM;exact ⟨_,resE_tmp rfl,⟨(decide (0<=r2)),am,rfl,H⟩⟩

def zbG (x:Int) (ab:Int->M Bool):M Bool :=
  M.bind (ab x) fun r2 =>
  M.pure (!r2)
theorem zfo {R:List Chunk} {ab:Nat} {ac:Value} (x:Int) (ae:Int->M Bool) (ag:FnM Tryz.prog R ac ae) (ak:Has R (cBlk ab [ac] 105)) {r:Bool} (hM:(zbG x ae).Ends r) (w:World) (H:St w w [] R):Ret Tryz.prog 129 #[I x,Pq ab] w fun v w'=>∃ (y0:Bool),y0=r/\v=B y0/\St w w' [] R:=by
 refine ret_of_W Tryz.func129 rfl rfl rfl ?_;refine kg 8 ?_;obtain ⟨r2,ai,hM⟩:=M.e_bind hM;refine t_callM H ag rfl rfl x Reads.none (Arg.mkI (fun _=>none) _) ai ?_;intro al H;refine kg 3 ?_;refine W.ret ?_;have aj:=M.e_pure hM;exact ⟨_,resE_tmp rfl,⟨(!r2),aj,rfl,H⟩⟩

def zak (l:List Int) (so:Int->M Bool):M Bool :=
  M.bind (zcr l (fun ab=>zbG ab so)) fun r2 =>
  M.pure (!r2)
theorem zbN {R:List Chunk} {ai:Cells} {ac:Value} {ab:Value} (l:List Int) (so:Int->M Bool) (am:Reads R ai) (ao:Sl ai ac l) (aj:FnM Tryz.prog R ab so) {r:Bool} (hM:(zak l so).Ends r) (w:World) (H:St w w [] R):Ret Tryz.prog 102 #[ac,ab] w fun v w'=>∃ (y0:Bool),y0=r/\v=B y0/\St w w' [] R:=by
 refine ret_of_W Tryz.func102 rfl rfl rfl ?_;refine kg 2 ?_;refine t_box (v:=ab) (cs:=[ab]) H rfl (FnM.cells aj) ?_;intro ae aB H;refine kg 5 ?_;refine s_val (x_mf (fs:=[]) (cs:=[Pq ae]) rfl rfl) ?_;obtain ⟨aC,ap,hM⟩:=M.e_bind hM;refine s_call cf128 [ac,.func (.func 129) #[] #[Pq ae]] rfl (zfj l (fun ag=>zbG ag so) (am.app _) ao ⟨129,[Pq ae],rfl,cf129,fun ak aD aE aq ag aF au aG av aw=>by obtain rfl:=Arg.int av; exact (zfo ag so (FnM.app (aj.app _) _) (Has.app (Has.here (k:=0) rfl) _) aw ak (St.refl au)).mono fun aq ak ⟨aH,ax,ay,az⟩=>by subst ax; exact ⟨ay,az⟩⟩ ap _ (H.gt 1)) ?_;rintro vq aI ⟨r2,rfl,hvq,al⟩;subst vq;(try dsimp only at hM);replace H:=H.bk al;clear al;refine kg 3 ?_;refine W.ret ?_;have aA:=M.e_pure hM;exact ⟨_,resE_tmp rfl,⟨(!r2),aA,rfl,(H.pk [])⟩⟩

def zai (ac:List Sect) (ab:List Mrk) (ae:List Rch) (a b:Int):M Bool :=
  M.grd (decide ((0:Int)<=a)&&decide (a<(ab.length:Int))) <|
  M.grd (decide ((0:Int)<=b)&&decide (b<(ab.length:Int))) <|
  M.pure ((decide (((ab.getD (Int.toNat a) default).place)<=((ab.getD (Int.toNat b) default).place)))&&(decide (((ab.getD (Int.toNat a) default).hi)<((ab.getD (Int.toNat b) default).lo))))
theorem zaQ {R:List Chunk} {ac:Nat} {ae:Cells} {ag:Value} {ai:Cells} {aj:Value} {ak:Cells} {al:Value} {aq:Nat} (am:List Sect) (ab:List Mrk) (ao:List Rch) (a:Int) (b:Int) (av:Reads R ae) (aw:Sl ae ag am) (ax:Reads R ai) (ay:Sl ai aj ab) (az:Reads R ak) (aA:Sl ak al ao) (aB:Has R (cBlk ac [ag,aj,al,.map (some aq)] 163)) {r:Bool} (hM:(zai am ab ao a b).Ends r) (w:World) (H:St w w [] R):Ret Tryz.prog 61 #[Pq ac,I a,I b] w fun v w'=>∃ (y0:Bool),y0=r/\v=B y0/\St w w' [] R:=by
 refine ret_of_W Tryz.func61 rfl rfl rfl ?_;refine kg 5 ?_;refine W.draw (fun W=>St w W [] R) [(0,true),(1,true),(2,true),(3,true),(4,true),(5,true),(6,true),(7,true),(8,true),(9,true),(10,true),(11,true),(12,true),(13,true),(14,true),(15,true),(16,true),(17,true),(18,true),(19,true),(20,true),(21,true),(22,true),(23,true),(24,true),(25,true),(26,true),(27,true),(28,true),(29,true),(30,true),(31,true),(32,true),(33,true),(34,true),(35,true),(36,true),(37,true),(38,true),(39,true),(40,true),(41,true),(42,true)] mixed (by decide +kernel) rfl ?_;intro aC ap;replace H:=H.ext ap;clear ap;refine ⟨(H.pk []),?_⟩;obtain ⟨aD,hM⟩:=M.e_gd hM;obtain ⟨aE,hM⟩:=M.e_gd hM;refine kg 41 ?_;refine d_q rfl (fun w' H=>x_pand (b:=decide (((ab.getD (Int.toNat a) default).place)<=((ab.getD (Int.toNat b) default).place))) (r:=decide (((ab.getD (Int.toNat a) default).hi)<((ab.getD (Int.toNat b) default).lo))) rfl (fun hb=>gd_of (c:=decide (((ab.getD (Int.toNat a) default).place)<=((ab.getD (Int.toNat b) default).place))) (by first | exact hb | (rw [hb]; rfl) | simp_all) (B (decide (((ab.getD (Int.toNat a) default).hi)<((ab.getD (Int.toNat b) default).lo))))) rfl) ?_;refine kg 2 ?_;refine W.ret ?_;have au:=M.e_pure hM;exact ⟨_,resE_tmp rfl,⟨((decide (((ab.getD (Int.toNat a) default).place)<=((ab.getD (Int.toNat b) default).place)))&&(decide (((ab.getD (Int.toNat a) default).hi)<((ab.getD (Int.toNat b) default).lo)))),au,rfl,H⟩⟩

def zbb (b:Int) (ab:List Sect) (ac:List Mrk) (ae:List Rch) (ag:Int):M Bool :=
  M.bind (zai ab ac ae ag b) fun r2 =>
  M.pure (!r2)
theorem ze6 {R:List Chunk} {aj:Nat} {ac:Nat} {ak:Cells} {al:Value} {am:Cells} {ao:Value} {ap:Cells} {aq:Value} {aw:Nat} {au:Nat} (b:Int) (ae:List Sect) (ag:List Mrk) (ai:List Rch) (ab:Int) (ax:Reads R ak) (ay:Sl ak al ae) (az:Reads R am) (aA:Sl am ao ag) (aB:Reads R ap) (aC:Sl ap aq ai) (aD:Has R (cBlk ac [al,ao,aq,.map (some aw)] 163)) (aG:Has R (cBlk aj [Pq ac] 107)) (aH:Has R (cBlk au [I ab] 3)) {r:Bool} (hM:(zbb b ae ag ai ab).Ends r) (w:World) (H:St w w [] R):Ret Tryz.prog 108 #[I b,Pq aj,Pq au] w fun v w'=>∃ (y0:Bool),y0=r/\v=B y0/\St w w' [] R:=by
 refine ret_of_W Tryz.func108 rfl rfl rfl ?_;refine kg 9 ?_;obtain ⟨aI,aE,hM⟩:=M.e_bind hM;refine s_call cf61 [Pq ac,I ab,I b] rfl (zaQ ae ag ai ab b (ax.app _) ay (az.app _) aA (aB.app _) aC (aD.app _) aE _ (H.gt 0)) ?_;rintro vq aJ ⟨r2,rfl,hvq,av⟩;subst vq;(try dsimp only at hM);replace H:=H.bk av;clear av;refine kg 3 ?_;refine W.ret ?_;have aF:=M.e_pure hM;exact ⟨_,resE_tmp rfl,⟨(!r2),aF,rfl,H⟩⟩

def zaF (a:Int) (ab:List Int) (ac:List Sect) (ae:List Mrk) (ag:List Rch):M Bool :=
  M.bind (zak ab (fun ai=>zbb ai ac ae ag a)) fun r2 =>
  M.pure r2
theorem zeV {R:List Chunk} {am:Nat} {ao:Cells} {ai:Value} {ab:Nat} {ap:Nat} {aq:Cells} {au:Value} {av:Cells} {aw:Value} {ax:Cells} {ay:Value} {aB:Nat} (a:Int) (aj:List Int) (ac:List Sect) (ae:List Mrk) (ag:List Rch) (aC:Reads R ao) (aD:Sl ao ai aj) (aV:Has R (cBlk am [ai] 22)) (aE:Reads R aq) (aF:Sl aq au ac) (aG:Reads R av) (aH:Sl av aw ae) (aI:Reads R ax) (aJ:Sl ax ay ag) (aK:Has R (cBlk ap [au,aw,ay,.map (some aB)] 163)) (aL:Has R (cBlk ab [Pq ap] 107)) {r:Bool} (hM:(zaF a aj ac ae ag).Ends r) (w:World) (H:St w w [] R):Ret Tryz.prog 107 #[I a,Pq am,Pq ab] w fun v w'=>∃ (y0:Bool),y0=r/\v=B y0/\St w w' [] R:=by
 refine ret_of_W Tryz.func107 rfl rfl rfl ?_;refine kg 2 ?_;refine t_b1 (I a) H rfl rfl ?_;intro ak aW H;refine kg 5 ?_;refine s_val (x_mf (fs:=[]) (cs:=[Pq ab,Pq ak]) rfl rfl) ?_;obtain ⟨aX,aM,hM⟩:=M.e_bind hM;refine s_call cf102 [ai,.func (.func 108) #[] #[Pq ab,Pq ak]] rfl (zbN aj (fun al=>zbb al ac ae ag a) (aC.app _) aD ⟨108,[Pq ab,Pq ak],rfl,cf108,fun az aY aZ aN al a6 aO a7 aP aQ=>by obtain rfl:=Arg.int aP; exact (ze6 al ac ae ag a (Reads.app (aE.app _) _) aF (Reads.app (aG.app _) _) aH (Reads.app (aI.app _) _) aJ (Has.app (aK.app _) _) (Has.app (aL.app _) _) (Has.app (Has.here (k:=0) rfl) _) aQ az (St.refl aO)).mono fun aN az ⟨a8,aR,aS,aT⟩=>by subst aR; exact ⟨aS,aT⟩⟩ aM _ (H.gt 1)) ?_;rintro vq ba ⟨r2,rfl,hvq,aA⟩;subst vq;(try dsimp only at hM);replace H:=H.bk aA;clear aA;refine kg 2 ?_;refine W.ret ?_;have aU:=M.e_pure hM;exact ⟨_,resE_tmp rfl,⟨r2,aU,rfl,(H.pk [])⟩⟩

def zaq (ab:List Sect) (ac:List Mrk) (ae:List Rch) (marks:List Int):M Bool :=
  M.bind (zak marks (fun ag=>zaF ag marks ab ac ae)) fun r2 =>
  M.pure r2
theorem zbw {R:List Chunk} {ai:Nat} {ao:Cells} {ap:Value} {aq:Cells} {au:Value} {av:Cells} {aw:Value} {aB:Nat} {ax:Cells} {ab:Value} (ac:List Sect) (ae:List Mrk) (ag:List Rch) (marks:List Int) (aC:Reads R ao) (aD:Sl ao ap ac) (aE:Reads R aq) (aF:Sl aq au ae) (aG:Reads R av) (aH:Sl av aw ag) (aI:Has R (cBlk ai [ap,au,aw,.map (some aB)] 163)) (ay:Reads R ax) (aj:Sl ax ab marks) {r:Bool} (hM:(zaq ac ae ag marks).Ends r) (w:World) (H:St w w [] R):Ret Tryz.prog 73 #[Pq ai,ab] w fun v w'=>∃ (y0:Bool),y0=r/\v=B y0/\St w w' [] R:=by
 refine ret_of_W Tryz.func73 rfl rfl rfl ?_;refine kg 2 ?_;refine t_b1 (Pq ai) H rfl rfl ?_;intro ak aS H;refine t_box (v:=ab) (cs:=[ab]) H rfl (Sl.cells aj) ?_;intro al aT H;refine kg 5 ?_;refine s_val (x_mf (fs:=[]) (cs:=[Pq al,Pq ak]) rfl rfl) ?_;obtain ⟨aU,aJ,hM⟩:=M.e_bind hM;refine s_call cf102 [ab,.func (.func 107) #[] #[Pq al,Pq ak]] rfl (zbN marks (fun am=>zaF am marks ac ae ag) (ay.app _) aj ⟨107,[Pq al,Pq ak],rfl,cf107,fun az aV aW aK am aX aL aY aM aN=>by obtain rfl:=Arg.int aM; exact (zeV am marks ac ae ag (Reads.app (ay.app _) _) aj (Has.app (Has.here (k:=0) rfl) _) (Reads.app (aC.app _) _) aD (Reads.app (aE.app _) _) aF (Reads.app (aG.app _) _) aH (Has.app (aI.app _) _) (Has.app (Has.here (k:=1) rfl) _) aN az (St.refl aL)).mono fun aK az ⟨aZ,aO,aP,aQ⟩=>by subst aO; exact ⟨aP,aQ⟩⟩ aJ _ (H.gt 2)) ?_;rintro vq a6 ⟨r2,rfl,hvq,aA⟩;subst vq;(try dsimp only at hM);replace H:=H.bk aA;clear aA;refine kg 2 ?_;replace H:=H.pk [];refine W.ret ?_;have aR:=M.e_pure hM;exact ⟨_,resE_tmp rfl,⟨r2,aR,rfl,H⟩⟩

def za2 (s_Sections:List Sect) (s_Marks:List Mrk) (s_Reaches:List Rch) (marks:List Int) (reach:Int):M (Int × Int × Int) :=
  M.bind (zav s_Sections s_Marks s_Reaches marks reach) fun x_=>match x_ with
  | (.inl (ak,al,am,ao,ap,r2))=>(
  bif r2 != 0 then (
  M.pure (0,0,r2))
  else (
  M.fail))
  | (.inr (ab,ac,ae,ag,ai,aj))=>(
  bif aj != 0 then (
  M.fail)
  else (
  M.bind (zaq s_Sections s_Marks s_Reaches marks) fun r3 =>
  bif !r3 then (
  M.pure (0,0,7))
  else (
  M.bind (zaA s_Sections s_Marks s_Reaches marks (⟨(ab:Int),(ac:Int),(ae:Int),(ag:Int),ai⟩:Rch)) fun (r0,r1) =>
  M.pure (r0,r1,0))))
theorem zc5 {R:List Chunk} {aE:Cells} {aj:Value} {aF:Cells} {ak:Value} {aG:Cells} {al:Value} {aH:Cells} {ac:Value} (s_Sections:List Sect) (s_Marks:List Mrk) (s_Reaches:List Rch) (marks:List Int) (reach:Int) (av:Reads R aE) (aw:Sl aE aj s_Sections) (ax:Reads R aF) (ay:Sl aF ak s_Marks) (az:Reads R aG) (aA:Sl aG al s_Reaches) (aB:Reads R aH) (aC:Sl aH ac marks) {r:(Int × Int × Int)} (hM:(za2 s_Sections s_Marks s_Reaches marks reach).Ends r) (w:World) (H:St w w [] R):Ret Tryz.prog 35 #[.agg #[aj,ak,al],ac,I reach] w fun v w'=>∃ (y0:Int) (y1:Int) (y2:Int),(y0,y1,y2)=r/\v = .tuple #[.agg #[I y0,I y1],I y2]/\St w w' [] R:=by
 refine ret_of_W Tryz.func35 rfl rfl rfl ?_;refine kg 2 ?_;refine t_bx [aj,ak,al] H rfl ?_;intro aY aZ H;refine t_alloc (cs:=[I 0,I 0]) H Al30 rfl ?_;intro a6 a7 H;refine kg 7 ?_;obtain ⟨a8,aO,hM⟩:=M.e_bind hM;refine s_call cf79 [.agg #[aj,ak,al],ac,I reach] rfl (zdi s_Sections s_Marks s_Reaches marks reach (av.app _) aw (ax.app _) ay (az.app _) aA (aB.app _) aC aO _ (H.gt 2)) ?_;rintro vq ba (⟨aI,aJ,aK,aL,aM,r2,aP,hvq,ab⟩ | ⟨am,ao,ap,aq,au,aQ,aN,bb,aR,hvq,ab⟩)
 ·subst aP;subst vq;(try dsimp only at hM);replace H:=H.bk ab;clear ab;refine kg 4 ?_;refine t_alloc (cs:=[I 0,I 0,I 0,I 0,B false]) H Al44 rfl ?_;intro aS bc H;refine kg 1 ?_;refine t_sw 0 0 [I aI,I aJ,I aK,I aL,B aM] (.agg #[I aI,I aJ,I aK,I aL,B aM]) H rfl rfl Sz44 rfl rfl rfl rfl ?_;intro bf H;refine kg 10 ?_;refine W.cond (r2 != 0) rfl (fun ae=>?_) (fun ae=>?_)
  ·replace hM:=M.e_t hM ae;replace ae:=dI ae;refine kg 2 ?_;refine s_val (x_bld (ps:=[]) (zs:=[I 0,I 0]) (L':=[I 0,I 0]) rfl Tryz.underlying30 Al30 rfl (Bd30 Tryz.underlying30) (.nil)) ?_;refine kg 1 ?_;refine t_sw 1 0 [I 0,I 0] (.agg #[I 0,I 0]) H rfl rfl Sz30 rfl rfl rfl rfl ?_;intro bg H;refine kg 2 ?_;replace H:=H.pk [1];refine W.ret ?_;have aT:=(H.bl 0)
   have ag:=M.e_pure hM;exact ⟨_,(resE_ofn (vs:=[.agg #[I 0,I 0],I r2]) rfl rfl (.cell (v:=.agg #[I 0,I 0]) rfl (run_loadVar_ag (ds:=[I 0,I 0]) Ag30 Sz30 aT rfl rfl)<|.tmp (v:=I r2) rfl<|.nil)),⟨0,0,r2,ag,rfl,(H.pk [])⟩⟩
  replace hM:=M.e_f hM ae;exact (M.e_fail hM).elim
 subst aR;subst vq;(try dsimp only at hM);replace H:=H.bk ab;clear ab;refine kg 4 ?_;refine t_alloc (cs:=[I 0,I 0,I 0,I 0,B false]) H Al44 rfl ?_;intro aS bh H;refine kg 1 ?_;refine t_sw 0 0 [I am,I ao,I ap,I aq,B au] (.agg #[I am,I ao,I ap,I aq,B au]) H rfl rfl Sz44 rfl rfl rfl rfl ?_;intro bi H;refine kg 10 ?_;refine W.cond (aQ != 0) rfl (fun ai=>?_) (fun ai=>?_)
 ·replace hM:=M.e_t hM ai;exact (M.e_fail hM).elim
 replace hM:=M.e_f hM ai;replace ai:=dI ai;refine kg 4 ?_;obtain ⟨bj,aU,hM⟩:=M.e_bind hM;refine s_call cf73 [Pq aN,ac] rfl (zbw s_Sections s_Marks s_Reaches marks (av.app _) aw (ax.app _) ay (az.app _) aA (Has.here (k:=1) rfl) (aB.app _) aC aU _ (H.gt 5)) ?_;rintro vq bm ⟨r3,rfl,hvq,ab⟩;subst vq;(try dsimp only at hM);replace H:=H.bk ab;clear ab;refine kg 3 ?_;refine W.cond (!r3) rfl (fun aD=>?_) (fun aD=>?_)
 ·replace hM:=M.e_t hM aD;refine kg 2 ?_;refine s_val (x_bld (ps:=[]) (zs:=[I 0,I 0]) (L':=[I 0,I 0]) rfl Tryz.underlying30 Al30 rfl (Bd30 Tryz.underlying30) (.nil)) ?_;refine t_sw 3 0 [I 0,I 0] (.agg #[I 0,I 0]) H rfl rfl Sz30 rfl rfl rfl rfl ?_;intro bn H;refine kg 2 ?_;replace H:=H.pk [3];refine W.ret ?_;have aV:=(H.bl 0)
  have ag:=M.e_pure hM;exact ⟨_,(resE_ofn (vs:=[.agg #[I 0,I 0],I 7]) rfl rfl (.cell (v:=.agg #[I 0,I 0]) rfl (run_loadVar_ag (ds:=[I 0,I 0]) Ag30 Sz30 aV rfl rfl)<|.tmp (v:=I 7) rfl<|.nil)),⟨0,0,7,ag,rfl,(H.pk [])⟩⟩
 replace hM:=M.e_f hM aD;refine kg 6 ?_;obtain ⟨bo,aW,hM⟩:=M.e_bind hM;refine s_call cf80 [Pq aN,ac,.agg #[I am,I ao,I ap,I aq,B au]] rfl (zcJ s_Sections s_Marks s_Reaches marks (⟨(am:Int),(ao:Int),(ap:Int),(aq:Int),au⟩:Rch) (av.app _) aw (ax.app _) ay (az.app _) aA (Has.here (k:=1) rfl) (aB.app _) aC aW _ ((H.pk [2,0,1,3,4]).gt 4)) ?_;rintro vq bp ⟨r0,r1,rfl,hvq,ab⟩;subst vq;(try dsimp only at hM);replace H:=H.pk [2,0,1,3,4] |>.bk ab
 clear ab;refine t_sw 3 0 [I r0,I r1] (.agg #[I r0,I r1]) H rfl rfl Sz30 rfl rfl rfl rfl ?_;intro br H;refine kg 2 ?_;replace H:=H.pk [3];refine W.ret ?_;have aX:=(H.bl 0)
 have ag:=M.e_pure hM;exact ⟨_,(resE_ofn (vs:=[.agg #[I r0,I r1],I 0]) rfl rfl (.cell (v:=.agg #[I r0,I r1]) rfl (run_loadVar_ag (ds:=[I r0,I r1]) Ag30 Sz30 aX rfl rfl)<|.tmp (v:=I 0) rfl<|.nil)),⟨r0,r1,0,ag,rfl,(H.pk [])⟩⟩

def zcR (c:Cas) (r_:Rch):M Bool :=
  M.bind (zab c.up 0 2000) fun r2 =>
  M.bind (M.opt r2 (zab c.down 0 c.up) false) fun r3 =>
  M.bind (M.opt (r2&&r3) (zab c.roughup r_.lo r_.hi) false) fun r4 =>
  M.bind (M.opt ((r2&&r3)&&r4) (zab c.roughdown r_.lo r_.hi) false) fun r5 =>
  M.pure (((r2&&r3)&&r4)&&r5)
theorem zeM {R:List Chunk}  (c:Cas) (r_:Rch)  {r:Bool} (hM:(zcR c r_).Ends r) (w:World) (H:St w w [] R):Ret Tryz.prog 54 #[.agg #[I c.up,I c.down,I c.roughup,I c.roughdown],.agg #[I r_.up,I r_.down,I r_.lo,I r_.hi,B r_.narrow]] w fun v w'=>∃ (y0:Bool),y0=r/\v=B y0/\St w w' [] R:=by
 refine ret_of_W Tryz.func54 rfl rfl rfl ?_;refine kg 2 ?_;refine t_bx [I c.up,I c.down,I c.roughup,I c.roughdown] H rfl ?_;intro al am H;refine t_bx [I r_.up,I r_.down,I r_.lo,I r_.hi,B r_.narrow] H rfl ?_;intro ao ap H;refine kg 6 ?_;obtain ⟨aq,ag,hM⟩:=M.e_bind hM;refine s_call cf45 [I c.up,I 0,I 2000] rfl (zac c.up 0 2000 ag _ (H.gt 2)) ?_;rintro vq au ⟨r2,rfl,hvq,ae⟩;subst vq;(try dsimp only at hM);replace H:=H.bk ae;clear ae;refine kg 5 ?_;obtain ⟨r3,ai,hM⟩:=M.e_bind hM;refine t_gcall r2 (gy_t rfl) cf45 (B r3) (fun _=>[I c.down,I 0,I c.up]) (fun hg=>lst3 (gd_of hg (I c.down)) rfl (gd_of hg (I c.up))) H (fun hg=>(zac c.down 0 c.up (M.e_opt ai hg) _ (H.give (A:=[]) rfl)).mono fun v_ w_ ⟨y_,ab,ac,H_⟩=>by subst ab; exact ⟨ac,H.via H_⟩) ?_;intro av H;refine s_val (x_pand (b:=r2) (r:=r3) rfl (fun hb=>gd_of (c:=r2) (by first | exact hb | (rw [hb]; rfl) | simp_all) (B r3)) rfl) ?_;refine kg 9 ?_;obtain ⟨r4,aj,hM⟩:=M.e_bind hM;refine t_gcall (r2&&r3) (gy_t rfl) cf45 (B r4) (fun _=>[I c.roughup,I r_.lo,I r_.hi]) (fun hg=>lst3 (gd_of hg (I c.roughup)) (gd_of hg (I r_.lo)) (gd_of hg (I r_.hi))) H (fun hg=>(zac c.roughup r_.lo r_.hi (M.e_opt aj hg) _ (H.give (A:=[]) rfl)).mono fun v_ w_ ⟨y_,ab,ac,H_⟩=>by subst ab; exact ⟨ac,H.via H_⟩) ?_;intro aw H;refine s_val (x_pand (b:=(r2&&r3)) (r:=r4) rfl (fun hb=>gd_of (c:=(r2&&r3)) (by first | exact hb | (rw [hb]; rfl) | simp_all) (B r4)) rfl) ?_;refine kg 9 ?_;obtain ⟨r5,ak,hM⟩:=M.e_bind hM;refine t_gcall ((r2&&r3)&&r4) (gy_t rfl) cf45 (B r5) (fun _=>[I c.roughdown,I r_.lo,I r_.hi]) (fun hg=>lst3 (gd_of hg (I c.roughdown)) (gd_of hg (I r_.lo)) (gd_of hg (I r_.hi))) H (fun hg=>(zac c.roughdown r_.lo r_.hi (M.e_opt ak hg) _ (H.give (A:=[]) rfl)).mono fun v_ w_ ⟨y_,ab,ac,H_⟩=>by subst ab; exact ⟨ac,H.via H_⟩) ?_;intro ax H;refine s_val (x_pand (b:=((r2&&r3)&&r4)) (r:=r5) rfl (fun hb=>gd_of (c:=((r2&&r3)&&r4)) (by first | exact hb | (rw [hb]; rfl) | simp_all) (B r5)) rfl) ?_;refine kg 2 ?_;replace H:=H.pk [];refine W.ret ?_;have ab:=M.e_pure hM;exact ⟨_,resE_tmp rfl,⟨(((r2&&r3)&&r4)&&r5),ab,rfl,H⟩⟩

def zaL (s_Sections:List Sect) (s_Marks:List Mrk) (s_Reaches:List Rch) (reach:Int) (c:Cas):M (Int × Int) :=
  M.bind (zah s_Sections s_Marks s_Reaches) fun x_=>match x_ with
  | (.inl r1)=>(
  bif r1 != 0 then (
  M.pure (0,r1))
  else (
  M.fail))
  | (.inr ab)=>(
  bif ab != 0 then (
  M.fail)
  else (
  M.bind (zab reach 0 ((s_Reaches.length:Int)-1)) fun r2 =>
  bif !r2 then (
  M.pure (0,2))
  else (
  M.grd (decide ((0:Int)<=reach)&&decide (reach<(s_Reaches.length:Int))) <|
  M.bind (zcR c (s_Reaches.getD (Int.toNat reach) default)) fun r3 =>
  bif !r3 then (
  M.pure (0,4))
  else (
  M.bind (zbo s_Sections s_Marks s_Reaches (s_Reaches.getD (Int.toNat reach) default) c) fun r4 =>
  M.pure (r4,0)))))
theorem zc4 {R:List Chunk} {av:Cells} {ac:Value} {aw:Cells} {ae:Value} {ax:Cells} {ag:Value} (s_Sections:List Sect) (s_Marks:List Mrk) (s_Reaches:List Rch) (reach:Int) (c:Cas) (ay:Reads R av) (az:Sl av ac s_Sections) (aA:Reads R aw) (aB:Sl aw ae s_Marks) (aC:Reads R ax) (am:Sl ax ag s_Reaches) {r:(Int × Int)} (hM:(zaL s_Sections s_Marks s_Reaches reach c).Ends r) (w:World) (H:St w w [] R):Ret Tryz.prog 10 #[.agg #[ac,ae,ag],I reach,.agg #[I c.up,I c.down,I c.roughup,I c.roughdown]] w fun v w'=>∃ (y0:Int) (y1:Int),(y0,y1)=r/\v = .tuple #[I y0,I y1]/\St w w' [] R:=by
 refine ret_of_W Tryz.func10 rfl rfl rfl ?_;refine kg 2 ?_;refine t_bx [ac,ae,ag] H rfl ?_;intro aD aM H;refine t_bx [I c.up,I c.down,I c.roughup,I c.roughdown] H rfl ?_;intro aE aN H;refine kg 6 ?_;obtain ⟨aO,aF,hM⟩:=M.e_bind hM;refine s_call cf53 [.agg #[ac,ae,ag]] rfl (zaz s_Sections s_Marks s_Reaches (ay.app _) az (aA.app _) aB (aC.app _) am aF _ (H.gt 2)) ?_;rintro vq aP (⟨r1,aG,hvq,ab⟩ | ⟨aH,ao,ap,aI,hvq,ab⟩)
 ·subst aG;subst vq;(try dsimp only at hM);replace H:=H.bk ab;clear ab;refine kg 14 ?_;refine W.cond (r1 != 0) rfl (fun aj=>?_) (fun aj=>?_)
  ·replace hM:=M.e_t hM aj;replace aj:=dI aj;refine kg 6 ?_;replace H:=H.pk [];refine W.ret ?_;have ai:=M.e_pure hM;exact ⟨_,resE_tmp2 rfl,⟨0,r1,ai,rfl,H⟩⟩
  replace hM:=M.e_f hM aj;exact (M.e_fail hM).elim
 subst aI;subst vq;(try dsimp only at hM);replace H:=H.bk ab;clear ab;refine kg 14 ?_;refine W.cond (aH != 0) rfl (fun ak=>?_) (fun ak=>?_)
 ·replace hM:=M.e_t hM ak;exact (M.e_fail hM).elim
 replace hM:=M.e_f hM ak;replace ak:=dI ak;have aQ:=(am).len_le;refine kg 7 ?_;obtain ⟨aR,aJ,hM⟩:=M.e_bind hM;refine s_call cf45 [I reach,I 0,I ((s_Reaches.length:Int)-1)] rfl (zac reach 0 ((s_Reaches.length:Int)-1) aJ _ (H.gt 4)) ?_;rintro vq aS ⟨r2,rfl,hvq,ab⟩;subst vq;(try dsimp only at hM);replace H:=H.bk ab;clear ab;refine kg 3 ?_;refine W.cond (!r2) rfl (fun aq=>?_) (fun aq=>?_)
 ·replace hM:=M.e_t hM aq;refine kg 5 ?_;replace H:=H.pk [];refine W.ret ?_;have ai:=M.e_pure hM;exact ⟨_,resE_tmp2 rfl,⟨0,2,ai,rfl,H⟩⟩
 replace hM:=M.e_f hM aq;refine W.seq ?_;refine W.draw (fun W=>St w W [cBlk ao [ac,ae,ag,.map (some ap)] 163,cMemI encSpt ap (zaa s_Sections s_Marks s_Reaches),cBlk aE [I c.up,I c.down,I c.roughup,I c.roughdown] 36,cBlk aD [ac,ae,ag] 27] R) [(0,true),(1,true),(2,true),(3,true),(4,true),(5,true),(6,false),(7,true),(8,true)] mixed (by decide +kernel) rfl ?_;intro aT al;replace H:=H.ext al;clear al;refine ⟨(H.pk [0,1,2,3]),?_⟩;obtain ⟨aU,hM⟩:=M.e_gd hM;refine kg 6 ?_;refine d_l rfl ?_;obtain ⟨aV,aK,hM⟩:=M.e_bind hM;refine s_call cf54 [.agg #[I c.up,I c.down,I c.roughup,I c.roughdown],.agg #[I ((s_Reaches.getD (Int.toNat reach) default).up),I ((s_Reaches.getD (Int.toNat reach) default).down),I ((s_Reaches.getD (Int.toNat reach) default).lo),I ((s_Reaches.getD (Int.toNat reach) default).hi),B ((s_Reaches.getD (Int.toNat reach) default).narrow)]] rfl (zeM c (s_Reaches.getD (Int.toNat reach) default) aK _ (H.gt 4)) ?_;rintro vq aW ⟨r3,rfl,hvq,ab⟩;subst vq;(try dsimp only at hM);replace H:=H.bk ab;clear ab;refine s_nil ⟨(H.pk [0,1,2,3]),?_⟩;refine kg 3 ?_;refine W.cond (!r3) rfl (fun au=>?_) (fun au=>?_)
 ·replace hM:=M.e_t hM au;refine kg 5 ?_;replace H:=H.pk [];refine W.ret ?_;have ai:=M.e_pure hM;exact ⟨_,resE_tmp2 rfl,⟨0,4,ai,rfl,H⟩⟩
 replace hM:=M.e_f hM au;refine kg 2 ?_;refine W.draw (fun W=>St w W [cBlk ao [ac,ae,ag,.map (some ap)] 163,cBlk aE [I c.up,I c.down,I c.roughup,I c.roughdown] 36,cBlk aD [ac,ae,ag] 27] R) [(0,true),(1,true),(2,true),(3,true),(4,true),(5,true),(6,true),(7,false),(8,true),(9,true)] mixed (by decide +kernel) rfl ?_;intro aX al;replace H:=H.ext al;clear al;refine ⟨(H.pk [0,2,3]),?_⟩;refine kg 7 ?_;refine d_l rfl ?_;obtain ⟨aY,aL,hM⟩:=M.e_bind hM;refine s_call cf55 [Pq ao,.agg #[I ((s_Reaches.getD (Int.toNat reach) default).up),I ((s_Reaches.getD (Int.toNat reach) default).down),I ((s_Reaches.getD (Int.toNat reach) default).lo),I ((s_Reaches.getD (Int.toNat reach) default).hi),B ((s_Reaches.getD (Int.toNat reach) default).narrow)],.agg #[I c.up,I c.down,I c.roughup,I c.roughdown]] rfl (zdP s_Sections s_Marks s_Reaches (s_Reaches.getD (Int.toNat reach) default) c (ay.app _) az (aA.app _) aB (aC.app _) am (Has.here (k:=0) rfl) aL _ ((H.pk [1,0,2,3]).gt 3)) ?_;rintro vq aZ ⟨r4,rfl,hvq,ab⟩;subst vq;(try dsimp only at hM);replace H:=H.pk [1,0,2,3] |>.bk ab
 clear ab;refine s_nil ⟨(H.pk [1,2,3]),?_⟩;refine kg 3 ?_;replace H:=H.pk [];refine W.ret ?_;have ai:=M.e_pure hM;exact ⟨_,resE_tmp2 rfl,⟨r4,0,ai,rfl,H⟩⟩

def zce (s_Sections:List Sect) (s_Marks:List Mrk) (s_Reaches:List Rch) (marks:List Int):(Nat × (List Span))->M ((Nat × (List Span)) ⊕ ((List Span) × (List Span))):=fun (s2,l) =>
  bif decide ((s2:Int)<(s_Sections.length:Int)) then (
  M.bind (zaD s_Sections s_Marks s_Reaches marks (s2:Int)) fun (r0,ab) =>
  M.grd (decide ((l.length+([(⟨(r0:Int),(ab:Int)⟩:Span)]).length)*16<=140737488355328)) <|
  M.pure (.inl (s2+1,l++([(⟨(r0:Int),(ab:Int)⟩:Span)]))))
  else (
  M.pure (.inr (l,l)))
def zaB (s_Sections:List Sect) (s_Marks:List Mrk) (s_Reaches:List Rch) (marks:List Int):M ((List Span) × Int) :=
  M.bind (zax s_Sections s_Marks s_Reaches marks) fun x_=>match x_ with
  | (.inl r1)=>(
  bif r1 != 0 then (
  M.pure (([]),r1))
  else (
  M.fail))
  | (.inr ab)=>(
  bif ab != 0 then (
  M.pure (([]),ab))
  else (
  M.bind (zaq s_Sections s_Marks s_Reaches marks) fun r2 =>
  bif !r2 then (
  M.pure (([]),7))
  else (
  M.bind (M.iter (zce s_Sections s_Marks s_Reaches marks) (0,[])) fun (l2,l3) =>
  M.pure (l3,0))))
theorem zeq {R:List Chunk} {aE:Cells} {aj:Value} {aF:Cells} {ak:Value} {aG:Cells} {al:Value} {aH:Cells} {am:Value} (s_Sections:List Sect) (s_Marks:List Mrk) (s_Reaches:List Rch) (marks:List Int) (av:Reads R aE) (ap:Sl aE aj s_Sections) (aw:Reads R aF) (ax:Sl aF ak s_Marks) (ay:Reads R aG) (az:Sl aG al s_Reaches) (aA:Reads R aH) (aB:Sl aH am marks) {r:((List Span) × Int)} (hM:(zaB s_Sections s_Marks s_Reaches marks).Ends r) (w:World) (H:St w w [] R):Ret Tryz.prog 30 #[.agg #[aj,ak,al],am] w fun v w'=>∃ (y0:List Span) (y1:Int) (u0:Value),(y0,y1)=r/\v = .tuple #[u0,I y1]/\St w w' [cOwn (α:=Span) 30 u0 y0] R:=by
 refine ret_of_W Tryz.func30 rfl rfl rfl ?_;refine kg 2 ?_;refine t_bx [aj,ak,al] H rfl ?_;intro aM aZ H;refine kg 7 ?_;obtain ⟨a6,aN,hM⟩:=M.e_bind hM;refine s_call cf72 [.agg #[aj,ak,al],am] rfl (zc1 s_Sections s_Marks s_Reaches marks (av.app _) ap (aw.app _) ax (ay.app _) az (aA.app _) aB aN _ (H.gt 1)) ?_;rintro vq a7 (⟨r1,aO,hvq,ab⟩ | ⟨aI,aq,aJ,aP,hvq,ab⟩)
 ·subst aO;subst vq;(try dsimp only at hM);replace H:=H.bk ab;clear ab;refine kg 14 ?_;refine W.cond (r1 != 0) rfl (fun ac=>?_) (fun ac=>?_)
  ·replace hM:=M.e_t hM ac;replace ac:=dI ac;refine kg 6 ?_;refine W.ret ?_;have ae:=M.e_pure hM;replace H:=H.nilOwn (α:=Span) 30;exact ⟨_,resE_tmp2 rfl,⟨([]),r1,(.slice none 0 0),ae,rfl,(H.pk [0])⟩⟩
  replace hM:=M.e_f hM ac;replace ac:=dI ac;refine kg 4 ?_;exact (M.e_fail hM).elim
 subst aP;subst vq;(try dsimp only at hM);replace H:=H.bk ab;clear ab;refine kg 14 ?_;refine W.cond (aI != 0) rfl (fun ag=>?_) (fun ag=>?_)
 ·replace hM:=M.e_t hM ag;replace ag:=dI ag;refine kg 6 ?_;replace H:=H.pk [];refine W.ret ?_;have ae:=M.e_pure hM;replace H:=H.nilOwn (α:=Span) 30;exact ⟨_,resE_tmp2 rfl,⟨([]),aI,(.slice none 0 0),ae,rfl,H⟩⟩
 replace hM:=M.e_f hM ag;replace ag:=dI ag;refine kg 4 ?_;obtain ⟨a8,aQ,hM⟩:=M.e_bind hM;refine s_call cf73 [Pq aq,am] rfl (zbw s_Sections s_Marks s_Reaches marks (av.app _) ap (aw.app _) ax (ay.app _) az (Has.here (k:=0) rfl) (aA.app _) aB aQ _ (H.gt 3)) ?_;rintro vq ba ⟨r2,rfl,hvq,ab⟩;subst vq;(try dsimp only at hM);replace H:=H.bk ab;clear ab;refine kg 3 ?_;refine W.cond (!r2) rfl (fun aC=>?_) (fun aC=>?_)
 ·replace hM:=M.e_t hM aC;refine kg 5 ?_;replace H:=H.pk [];refine W.ret ?_;have ae:=M.e_pure hM;replace H:=H.nilOwn (α:=Span) 30;exact ⟨_,resE_tmp2 rfl,⟨([]),7,(.slice none 0 0),ae,rfl,H⟩⟩
 replace hM:=M.e_f hM aC;have bb:=(ap).len_le;refine kg 14 ?_;replace H:=H.nilOwn (α:=Span) 30;obtain ⟨aR,aD,aS⟩:=M.e_bind hM;obtain ⟨bc,aD⟩:=M.e_iter aD;refine W.loop (fun m σ W=>∃ (s2:Nat) (l:List Span) (au:Value) (ρ:Env),σ=upds ρ [(1,am),(6,Pq aq),(8,au),(27,I (s_Sections.length:Int)),(28,I (s2:Int))]/\M.iterN (zce s_Sections s_Marks s_Reaches marks) m (s2,l)=some aR/\St w W [cOwn (α:=Span) 30 au l,cBlk aq [aj,ak,al,.map (some aJ)] 163,cMemI encSpt aJ (zaa s_Sections s_Marks s_Reaches),cBlk aM [aj,ak,al] 27] R) ?_ ?_
 ·exact ⟨_,0,[],(.slice none 0 0),_,upds_of _ _ ⟨rfl,rfl,rfl,rfl,rfl,trivial⟩,aD,H⟩
 rintro bf σ bg ⟨s2,l,au,ρ,rfl,aK,H⟩;obtain ⟨aT,aU,bh,hM,aL⟩:=M.e_iterN aK;simp only [zce] at hM;clear aK;refine kg 5 ?_;refine W.cond (decide ((s2:Int)<(s_Sections.length:Int))) rfl (fun ai=>?_) (fun ai=>?_)
 ·replace hM:=M.e_t hM ai;replace ai:=dI ai;refine kg 13 ?_;obtain ⟨bi,aV,hM⟩:=M.e_bind hM;refine s_call cf74 [Pq aq,am,I (s2:Int)] rfl (zb9 s_Sections s_Marks s_Reaches marks (s2:Int) (av.app _) ap (aw.app _) ax (ay.app _) az (Has.here (k:=1) rfl) (aA.app _) aB aV _ (H.gt 4)) ?_;rintro vq bj ⟨r0,ao,rfl,hvq,ab⟩;subst vq;(try dsimp only at hM);replace H:=H.bk ab;clear ab;refine t_bs (α:=Span) T80 [.agg #[I r0,I ao]] [(⟨(r0:Int),(ao:Int)⟩:Span)] H rfl (.cons rfl (Flat.rep_enc _ (⟨(r0:Int),(ao:Int)⟩:Span))<|.nil) rfl rfl rfl ?_;intro aW bm H;obtain ⟨bn,hM⟩:=M.e_gd hM;refine t_app (α:=Span) (k:=1) (l:=l) (l2:=[(⟨(r0:Int),(ao:Int)⟩:Span)]) (l':=l++([(⟨(r0:Int),(ao:Int)⟩:Span)])) (vy:=aW) T80 rfl H rfl rfl rfl (H.os 0) (H.ol 0) (rfl) (by first | omega | (simp only [List.length_nil] at *; omega)) ?_;intro aX bo H;replace H:=H.nf;refine kg 6 ?_;exact ⟨aT,aU,s2+1,l++([(⟨(r0:Int),(ao:Int)⟩:Span)]),aX,_,upds_of _ _ ⟨rfl,rfl,rfl,rfl,rfl,trivial⟩,M.e_inl hM aL,(H.pk [1,2,3,4])⟩
 replace hM:=M.e_f hM ai;replace ai:=dI ai;refine W.exit ?_;have aY:=M.e_inr hM aL;subst aY;replace hM:=aS;(try dsimp only at hM);replace H:=H.pk [0];refine kg 6 ?_;refine W.ret ?_;have ae:=M.e_pure hM;exact ⟨_,resE_tmp2 rfl,⟨l,0,au,ae,rfl,H⟩⟩

def zdH (s_Sections:List Sect) (s_Marks:List Mrk) (s_Reaches:List Rch) (a b:Int):M (Bool × Int) :=
  M.bind (zah s_Sections s_Marks s_Reaches) fun x_=>match x_ with
  | (.inl r1)=>(
  bif r1 != 0 then (
  M.pure (false,r1))
  else (
  M.fail))
  | (.inr ab)=>(
  bif ab != 0 then (
  M.fail)
  else (
  M.bind (zab a 0 ((s_Marks.length:Int)-1)) fun r2 =>
  M.bind (M.opt (!(!r2)) (zab b 0 ((s_Marks.length:Int)-1)) false) fun r3 =>
  bif ((!r2)||(!r3)) then (
  M.pure (false,2))
  else (
  M.bind (zai s_Sections s_Marks s_Reaches a b) fun r4 =>
  M.bind (M.opt (!r4) (zai s_Sections s_Marks s_Reaches b a) false) fun r5 =>
  M.pure ((r4||r5),0))))
theorem zd7 {R:List Chunk} {ay:Cells} {aj:Value} {az:Cells} {ak:Value} {aA:Cells} {al:Value} (s_Sections:List Sect) (s_Marks:List Mrk) (s_Reaches:List Rch) (a:Int) (b:Int) (am:Reads R ay) (ao:Sl ay aj s_Sections) (ap:Reads R az) (ae:Sl az ak s_Marks) (aq:Reads R aA) (au:Sl aA al s_Reaches) {r:(Bool × Int)} (hM:(zdH s_Sections s_Marks s_Reaches a b).Ends r) (w:World) (H:St w w [] R):Ret Tryz.prog 19 #[.agg #[aj,ak,al],I a,I b] w fun v w'=>∃ (y0:Bool) (y1:Int),(y0,y1)=r/\v = .tuple #[B y0,I y1]/\St w w' [] R:=by
 refine ret_of_W Tryz.func19 rfl rfl rfl ?_;refine kg 2 ?_;refine t_bx [aj,ak,al] H rfl ?_;intro aJ aK H;refine kg 6 ?_;obtain ⟨aL,aB,hM⟩:=M.e_bind hM;refine s_call cf53 [.agg #[aj,ak,al]] rfl (zaz s_Sections s_Marks s_Reaches (am.app _) ao (ap.app _) ae (aq.app _) au aB _ (H.gt 1)) ?_;rintro vq aM (⟨r1,aC,hvq,ab⟩ | ⟨aD,av,aN,aE,hvq,ab⟩)
 ·subst aC;subst vq;(try dsimp only at hM);replace H:=H.bk ab;clear ab;refine kg 14 ?_;refine W.cond (r1 != 0) rfl (fun ag=>?_) (fun ag=>?_)
  ·replace hM:=M.e_t hM ag;replace ag:=dI ag;refine kg 6 ?_;refine W.ret ?_;have ac:=M.e_pure hM;exact ⟨_,resE_tmp2 rfl,⟨false,r1,ac,rfl,(H.pk [])⟩⟩
  replace hM:=M.e_f hM ag;exact (M.e_fail hM).elim
 subst aE;subst vq;(try dsimp only at hM);replace H:=H.bk ab;clear ab;refine kg 14 ?_;refine W.cond (aD != 0) rfl (fun ai=>?_) (fun ai=>?_)
 ·replace hM:=M.e_t hM ai;exact (M.e_fail hM).elim
 replace hM:=M.e_f hM ai;replace ai:=dI ai;have aO:=(ae).len_le;refine kg 7 ?_;obtain ⟨aP,aF,hM⟩:=M.e_bind hM;refine s_call cf45 [I a,I 0,I ((s_Marks.length:Int)-1)] rfl (zac a 0 ((s_Marks.length:Int)-1) aF _ (H.gt 3)) ?_;rintro vq aQ ⟨r2,rfl,hvq,ab⟩;subst vq;(try dsimp only at hM);replace H:=H.bk ab;clear ab;have aR:=(ae).len_le;refine kg 7 ?_;obtain ⟨r3,aG,hM⟩:=M.e_bind hM;refine t_gcall (!(!r2)) (gy_f rfl) cf45 (B r3) (fun _=>[I b,I 0,I ((s_Marks.length:Int)-1)]) (fun hg=>lst3 (gd_of hg (I b)) rfl (gd_of hg (I ((s_Marks.length:Int)-1)))) H (fun hg=>(zac b 0 ((s_Marks.length:Int)-1) (M.e_opt aG hg) _ (H.give (A:=[]) rfl)).mono fun v_ w_ ⟨y_,ac,aw,H_⟩=>by subst ac; exact ⟨aw,H.via H_⟩) ?_;intro aS H;refine kg 1 ?_;refine s_val (x_por (b:=!r2) (r:=!r3) rfl rfl (fun hb=>gd_of (c:=!(!r2)) (by first | exact hb | (rw [hb]; rfl) | simp_all) (B (!r3))))<|zA (B ((!r2)||(!r3))) rfl<|s_nil ?_
 refine W.cond ((!r2)||(!r3)) rfl (fun ax=>?_) (fun ax=>?_)
 ·replace hM:=M.e_t hM ax;refine kg 5 ?_;replace H:=H.pk [];refine W.ret ?_;have ac:=M.e_pure hM;exact ⟨_,resE_tmp2 rfl,⟨false,2,ac,rfl,H⟩⟩
 replace hM:=M.e_f hM ax;refine kg 6 ?_;obtain ⟨aT,aH,hM⟩:=M.e_bind hM;refine s_call cf61 [Pq av,I a,I b] rfl (zaQ s_Sections s_Marks s_Reaches a b (am.app _) ao (ap.app _) ae (aq.app _) au (Has.here (k:=0) rfl) aH _ (H.gt 3)) ?_;rintro vq aU ⟨r4,rfl,hvq,ab⟩;subst vq;(try dsimp only at hM);replace H:=H.bk ab;clear ab;refine kg 4 ?_;obtain ⟨r5,aI,hM⟩:=M.e_bind hM;refine t_gcall (!r4) (gy_f rfl) cf61 (B r5) (fun _=>[Pq av,I b,I a]) (fun hg=>lst3 (gd_of hg (Pq av)) (gd_of hg (I b)) (gd_of hg (I a))) H (fun hg=>(zaQ s_Sections s_Marks s_Reaches b a (am.app _) ao (ap.app _) ae (aq.app _) au (Has.here (k:=0) rfl) (M.e_opt aI hg) _ (H.give (A:=[]) rfl)).mono fun v_ w_ ⟨y_,ac,aw,H_⟩=>by subst ac; exact ⟨aw,H.via H_⟩) ?_;intro aV H;refine s_val (x_por (b:=r4) (r:=r5) rfl rfl (fun hb=>gd_of (c:=!r4) (by first | exact hb | (rw [hb]; rfl) | simp_all) (B r5)))<|zA (B (r4||r5)) rfl ?_;refine kg 2 ?_;replace H:=H.pk [];refine W.ret ?_
 have ac:=M.e_pure hM;exact ⟨_,resE_tmp2 rfl,⟨(r4||r5),0,ac,rfl,H⟩⟩

end Go.Proofs.YtbldmjejckjflaaGreat
end
namespace Go.Nm
open Go
/-- Whatever was known of memory is still so. -/
def Later (w w':World):Prop:=∀ (w0:World) (L R:List Chunk),St w0 w L R->St w0 w' L R
def RetE (R:Value->World->Prop):Ending->World->Prop:=fun e w=>∃ v,e = .returned v/\R v w
/-- From here to the function's end, with nothing deferred so far. -/
def WB (P:Program) (fn:Func) (n:Nat) (c:Code) (R:Value->World->Prop) (σ:Env) (w:World):Prop :=
  ∀ a,Fr [] n σ a->c.wp P (bodyPostD P fn (RetE R)) a w
/-- The end of a function that has deferred a call which leaves memory as it was. -/
def bodyQd (P:Program) (fn:Func) (R:Value->World->Prop):Post
  | .normal,σ,w | .ret,σ,w=>∀ w',Later w w'->∃ v,resE P fn σ w' v/\R v w'
  | _,_,_=>False
section
variable {P:Program} {fn:Func} {n:Nat} {R:Value->World->Prop} {σ:Env} {w:World}
theorem ret_of_WB {f:FuncId} {c:Code} {args:Array Value}
    (hf:P.funcs[f]?=some fn) (hb:fn.body=some c) (hn:fn.ntmps=n) (hle':Nat.ble args.size n=true)
    (h:WB P fn n c R (argE args) w):Ret P f args w R:=by
  have hle:=Nat.le_of_ble_eq_true hle';subst hn;refine calls_of_wp_defers hf hb (h _ ⟨rfl,?_,fun k=>?_⟩)
  · simp; omega
  · simp only [argE,Array.getD_eq_getD_getElem?,Array.getElem?_append];by_cases hk:k<args.size
    · simp [hk]
    · rw [if_neg hk];simp only [Array.getElem?_replicate];have:args[k]?=none:=by simp; omega
      rw [this];split <;> rfl
theorem WB.seq {x y:Code} (h:W P n x (thenQ (WB P fn n y R) (bodyQ P fn R)) σ w):WB P fn n (.seq x y) R σ w:=by
  intro a ha;refine wp_seq (wp_mono ((wpIn_wide (n:=0)).1 (h [] a ha)) ?_);rintro e a' w' ⟨s,hs,h'⟩;cases e with
  | normal=>exact h' a' hs
  | ret =>
    obtain ⟨v,hr,hR⟩:=h';show Leaves P fn a'.tmps (RetE R) a'.defers .returning w';rw [hs.df];exact ⟨v,hr _ hs.get,v,rfl,hR⟩
  | _=>exact h'.elim
theorem WB.defer {id:Nat} {o1 o2:Oper} {y:Code} {d:Nat} {v:Value} {fv:Fn} {cap:Array Value} {f:FuncId} {args:Array Value}
    (hd:Nat.blt d n=true) (hd1:o1.dst=some d) (hg1:o1.guard=none) (hd2:o2.dst=none) (hg2:o2.guard=none)
    (h1:∀ w,(execOp (ev σ) o1).run P w = .ok (.value v) w) (h2:∀ w,(execOp (ev (upd σ d v)) o2).run P w = .ok (.defer { target:=.fn fv cap,args:=#[] }) w)
    (hi:∀ w,(invoke (.fn fv cap) #[]).run P w = .ok (.enter f args) w)
    (hc:∀ w,CallsD P f args .returning w fun e u' w'=>(∃ v,e = .returned v)/\u' = .returning/\Later w w')
    (hk:W P n y (bodyQd P fn R) (upd σ d v) w):WB P fn n (.seq (.region id #[o1,o2] false) y) R σ w:=by
  intro a ha;refine wp_seq (wp_region ?_);have hd':d<n:=Nat.lt_of_lt_of_le (Nat.lt_succ_self d) (Nat.le_of_ble_eq_true hd);have h2':(execOp (a.put (some d) v).eval o2).run P w = .ok (.defer { target:=.fn fv cap,args:=#[] }) w:=by
    rw [(ha.put hd' v).eval];exact h2 w
  have hr:List.range (#[o1,o2]:Array Oper).size=[0,1]:=rfl;rw [hr];simp only [wpOps,List.getElem?_toArray,List.getElem?_cons_zero,List.getElem?_cons_succ,Region.wanted,hg1,hg2,if_true,Oper.wp,ha.eval,h1,hd1,Oper.upon,h2',hd2];refine .inl (.inl ?_);have ha':Fr [{ target:=.fn fv cap,args:=#[] }] n (upd σ d v) ({ a.put (some d) v with defers:={ target:=.fn fv cap,args:=#[] } :: (a.put (some d) v).defers }.put none undef):=by
    have h3:=ha.put hd' v;exact ⟨by show _ :: (a.put (some d) v).defers=_; rw [h3.df],h3.sz,h3.get⟩
  refine wp_mono ((wpIn_wide (n:=0)).1 (hk _ _ ha')) ?_;rintro e a' w' ⟨s,hs,h'⟩;have fin:(∀ w'',Later w' w''->∃ v,resE P fn s w'' v/\R v w'')->Leaves P fn a'.tmps (RetE R) a'.defers .returning w':=fun h'=>by
    rw [hs.df];refine leaves_cons (by simp) (hi w') ((hc w').mono ?_);rintro e u' w'' ⟨⟨v,rfl⟩,rfl,hl⟩;obtain ⟨v',hr,hR⟩:=h' w'' hl;exact ⟨v',hr _ hs.get,v',rfl,hR⟩
  cases e with
  | normal=>exact fin h'
  | ret=>exact fin h'
  | _=>exact h'.elim
theorem x_defer {x:Operand} {fv:Fn} {cap:Array Value} {ty:TypeId} {pos:String} {af:Array Edge} (hx:ev σ x = .func fv #[] cap) (w:World) :
    (execOp (ev σ) ⟨none,.defer { callee:=.value x,args:=#[],argTypes:=#[] },ty,pos,af,none⟩).run P w = .ok (.defer { target:=.fn fv cap,args:=#[] }) w:=by
  simp [execOp,resolve,hx,Deferred.ofValue]
theorem x_invoke {f:FuncId} (hcf:CF P f) {cap:Array Value} (w:World):(invoke (.fn (.func f) cap) #[]).run P w = .ok (.enter f cap) w:=by
  simp [invoke,run_callFunc hcf]
end
end Go.Nm
namespace Go.Proofs.YtbldmjejckjflaaGreat
open Go Go.Nm
theorem ta_nil (w:World):(Instr.typeAssert .nilIface 20 128 true).run Tryz.prog w = .ok (.tuple #[.agg #[I 0],.bool false]) w:=by
  simp [Instr.typeAssert,go_sem]
set_option maxRecDepth 20000 in
theorem catch_idle (p q:Value) (w:World):CallsD Tryz.prog 65 #[p,q] .returning w fun e u' w'=>(∃ v,e = .returned v)/\u' = .returning/\Later w w':=by
  refine callsD_of_wpS Tryz.func65 rfl fun c₀ cs hu=>?_;apply wpS_seq;apply wpS_region;simp [wpOpsS,go_sem,recoverD,hu,Exit.thenS,ta_nil];apply wpS_seq;apply wpS_region;simp [wpOpsS,go_sem,Exit.thenS];refine wpS_cond (t:=false) (by simp [Act.eval,Array.replicate]) ?_;simp only [Bool.false_eq_true,if_false];refine wpS_of_wp (wp_skip ?_);cases c₀;simp_all [bodyPostS,results,Tryz.results65];exact fun w0 L R H=>H.ext (New.alloc ..).ext
end Go.Proofs.YtbldmjejckjflaaGreat
