/- Part 2 of the texts on which the proof rests. Conditions: none. -/
import Derived.Test.YtigidakpcepdkaaProg
import Derived.Ground.NamesProg
import Derived.Shelf.Bits.Mul64
import Derived.Test.YtigidakpcepdkaaZA1
set_option linter.unusedVariables false
set_option linter.unusedSimpArgs false
set_option linter.unusedSectionVars false
namespace Go.Nm
open Go
universe u
abbrev Pq (b:Nat):Value:=.pointer (some ⟨b,0,none⟩)
abbrev Oq (b o:Nat):Value:=.pointer (some ⟨b,o,none⟩)
class NthR {α:Type u} (l:List α) (i:Nat) (x:outParam α):Prop where
  is:l[i]?=some x
instance {α:Type u} {l:List α} {x:α}:NthR (x :: l) 0 x:=⟨rfl⟩
instance {α:Type u} {l:List α} {x y:α} {i:Nat} [h:NthR l i x]:NthR (y :: l) (i+1) x:=⟨h.is⟩
instance (priority:=high) {α:Type u} {l:List α} {x a b c d:α} {i:Nat} [h:NthR l i x]:NthR (a :: b :: c :: d :: l) (i+4) x:=⟨h.is⟩
class PickR {α:Type u} (l:List α) (i:List Nat) (o:outParam (List α)):Prop where
  is:i.mapM (fun j=>l[j]?)=some o
instance {α:Type u} {l:List α}:PickR l [] []:=⟨rfl⟩
instance {α:Type u} {l o:List α} {i:Nat} {is:List Nat} {x:α} [h:NthR l i x] [k:PickR l is o]:PickR l (i :: is) (x :: o):=⟨by rw [List.mapM_cons,h.is,k.is]; rfl⟩
class AppR {α:Type u} (a b:List α) (o:outParam (List α)):Prop where
  is:a++b=o
instance {α:Type u} {b:List α}:AppR [] b b:=⟨rfl⟩
instance {α:Type u} {x:α} {a b o:List α} [h:AppR a b o]:AppR (x :: a) b (x :: o):=⟨by rw [List.cons_append,h.is]⟩
class LenR {α:Type u} (l:List α) (n:Nat):Prop where
  is:l.length=n
instance {α:Type u}:LenR ([]:List α) 0:=⟨rfl⟩
instance {α:Type u} {l:List α} {x:α} {n:Nat} [h:LenR l n]:LenR (x :: l) (n+1):=⟨by rw [List.length_cons,h.is]⟩
class EndR {α:Type u} (n:Nat) (l:List α) (a b:outParam (List α)):Prop where
  is:a++b=l
instance (priority:=low) {α:Type u} {x:α} {n:Nat} {l a b:List α} [h:EndR n l a b]:EndR n (x :: l) (x :: a) b:=⟨by rw [List.cons_append,h.is]⟩
instance {α:Type u} {n:Nat} {l:List α} [LenR l n]:EndR n l [] l:=⟨rfl⟩
class SetR {α:Type u} (l:List α) (k:Nat) (x:α) (o:outParam (List α)):Prop where
  is:l.set k x=o
instance {α:Type u} {l:List α} {x y:α}:SetR (y :: l) 0 x (x :: l):=⟨rfl⟩
instance {α:Type u} {l o:List α} {x y:α} {k:Nat} [h:SetR l k x o]:SetR (y :: l) (k+1) x (y :: o):=⟨by rw [List.set_cons_succ,h.is]⟩
class NfR {α:Type u} (l:List α) (o:outParam (List α)):Prop where
  is:l=o
instance {α:Type u}:NfR ([]:List α) []:=⟨rfl⟩
instance {α:Type u} {x:α} {l o:List α} [h:NfR l o]:NfR (x :: l) (x :: o):=⟨by rw [← h.is]⟩
instance {α:Type u} {l o p:List α} {k:Nat} {x:α} [h:NfR l o] [s:SetR o k x p]:NfR (l.set k x) p:=⟨by rw [h.is,s.is]⟩
instance {α:Type u} {a b a' b' o:List α} [h:NfR a a'] [h':NfR b b'] [s:AppR a' b' o]:NfR (a++b) o:=⟨by rw [h.is,h'.is,s.is]⟩
instance {α:Type u} {x:α} {l o:List α} [h:NfR l o]:NfR ((x :: l).eraseIdx 0) o:=⟨by rw [← h.is]; rfl⟩
instance {α:Type u} {x:α} {l o:List α} {k:Nat} [h:NfR (l.eraseIdx k) o]:NfR ((x :: l).eraseIdx (k+1)) (x :: o):=⟨by rw [List.eraseIdx_cons_succ,h.is]⟩
class OverR {α:Type u} (cs:List α) (off:Nat) (vs:List α) (o:outParam (List α)):Prop where
  is:cs.take off++vs++cs.drop (off+vs.length)=o
instance {α:Type u} {cs:List α}:OverR cs 0 [] cs:=⟨by simp⟩
instance {α:Type u} {c v:α} {cs vs o:List α} [h:OverR cs 0 vs o]:OverR (c :: cs) 0 (v :: vs) (v :: o):=⟨by
  have:=h.is
  simp only [List.take_zero,List.nil_append,Nat.zero_add] at this ⊢
  simp [this]⟩
instance {α:Type u} {c:α} {cs vs o:List α} {n:Nat} [h:OverR cs n vs o]:OverR (c :: cs) (n+1) vs (c :: o):=⟨by
  have:=h.is
  rw [List.take_succ_cons,show n+1+vs.length=n+vs.length+1 by omega,List.drop_succ_cons,List.cons_append,List.cons_append,this]⟩
section
variable {w0 w w':World} {L L' L1 R A T:List Chunk}
theorem St.os {α:Type} [Flat α] {e:TypeId} {v:Value} {l:List α} (h:St w0 w L R) (k:Nat) [n:NthR L k (cOwn e v l)]:Sl (rowC v (l.flatMap Flat.enc)) v l:=ownSl (h.get n.is)
theorem St.ol {α:Type} [Flat α] {e:TypeId} {v:Value} {l:List α} (h:St w0 w L R) (k:Nat) [n:NthR L k (cOwn e v l)]:(rowC v (l.flatMap Flat.enc)).Le w.cell?:=ownLe w (h.get n.is)
theorem rdo {α:Type} [Flat α] {e:TypeId} {v:Value} {l:List α} (k:Nat) [n:NthR L k (cOwn e v l)]:Reads (L++R) (rowC v (l.flatMap Flat.enc)):=Reads.of n.is ownLe
theorem St.bl {b:Nat} {cs:List Value} {t:TypeId} (h:St w0 w L R) (k:Nat) [n:NthR L k (cBlk b cs t)]:w.heap[b]?=some (.cells cs.toArray t (0,0)):=h.blk n.is
theorem St.nf (h:St w0 w L R) [n:NfR L L']:St w0 w L' R:=by
  have:=n.is
  subst this
  exact h
theorem St.pk (h:St w0 w L R) (i:List Nat) [n:NfR L L1] [p:PickR L1 i L'] (hn:i.Nodup:=by decide):St w0 w L' R:=h.nf.pick i hn p.is
theorem St.bk (h:St w0 w L R) (h':St w w' A (T++R)) [a:NfR (A++T) L']:St w0 w' L' R:=h.back h' a.is
theorem St.gt (h:St w0 w L R) (k:Nat) [n:NfR L L1] [s:EndR k L1 A T]:St w w A (T++R):=h.nf.give s.is
end
section
variable {P:Program} {all rest:List Oper} {Q:Post} {σ:Env} {w0 w:World} {L L' R:List Chunk} {ty:TypeId} {pos:String} {af:Array Edge}
theorem zM {d:Nat} {x:Operand} (v:Value) (h:ev σ x=v) (k:SL P all Q rest (upd σ d v) w):SL P all Q (⟨some d,.move x,ty,pos,af,none⟩ :: rest) σ w:=s_val (x_mv h) k
theorem zA {d:Nat} {x:Operand} (v:Value) (h:ev σ x=v) (k:SL P all Q rest (upd σ d v) w):SL P all Q (⟨some d,.assign x,ty,pos,af,none⟩ :: rest) σ w:=s_val (x_as h) k
theorem t_sw {dst:Option Nat} {t:TypeId} {x y:Operand} {b n:Nat} {cs cs':List Value} {et:TypeId} (k off:Nat) (vs:List Value) (v:Value) (H:St w0 w L R) [hk:NthR L k (cBlk b cs et)] [hc:OverR cs off vs cs'] [hL:SetR L k (cBlk b cs' et) L'] (hx:ev σ x = .pointer (some ⟨b,off,none⟩)) (hy:ev σ y=v)
    (hs:(P.info? t).map (·.size)=some n) (hv:v.cells=vs.toArray) (hn:vs.length=n) (hl:Nat.ble (off+n) cs.length=true) (h1:vs.all (·.oneCell')=true)
    (kk:∀ w',St w0 w' L' R->SL P all Q rest (updo σ dst undef) w'):SL P all Q (⟨dst,.store t x y,ty,pos,af,none⟩ :: rest) σ w :=
  t_st H hk.is hx hy hs hv hn hl h1 (by rw [← hn]; exact hc.is) hL.is kk
end
/-- What a test says, as a proposition. -/
class DcB (b c:Bool) (p:outParam Prop):Prop where
  to:b=c->p
instance (priority:=low) {b c:Bool}:DcB b c (b=c):=⟨fun h=>h⟩
instance {p:Prop} [Decidable p]:DcB (decide p) true p:=⟨of_decide_eq_true⟩
instance {p:Prop} [Decidable p]:DcB (decide p) false (¬p):=⟨of_decide_eq_false⟩
instance {α:Type _} [BEq α] [LawfulBEq α] {a b:α}:DcB (a==b) true (a=b):=⟨beq_iff_eq.1⟩
instance {α:Type _} [BEq α] [LawfulBEq α] {a b:α}:DcB (a==b) false (a ≠ b):=⟨beq_eq_false_iff_ne.1⟩
instance {α:Type _} [BEq α] [LawfulBEq α] {a b:α}:DcB (a != b) true (a ≠ b):=⟨bne_iff_ne.1⟩
instance {α:Type _} [BEq α] [LawfulBEq α] {a b:α}:DcB (a != b) false (a=b):=⟨bne_eq_false_iff_eq.1⟩
theorem dI {b c:Bool} {p:Prop} [h:DcB b c p] (x:b=c):p:=h.to x
section
variable {P:Program} {all rest:List Oper} {Q:Post} {σ:Env} {w0 w:World} {L L' R:List Chunk} {ty:TypeId} {pos:String} {af:Array Edge}
theorem t_bx {d:Nat} {e:TypeId} {x:Operand} (cs:List Value) (H:St w0 w L R) (hx:ev σ x = .agg cs.toArray)
    (k:∀ b w',St w0 w' (cBlk b cs e :: L) R->SL P all Q rest (upd σ d (.pointer (some ⟨b,0,none⟩))) w'):SL P all Q (⟨some d,.box e x,ty,pos,af,none⟩ :: rest) σ w:=t_box H hx rfl k
theorem t_b1 {d:Nat} {e:TypeId} {x:Operand} (v:Value) (H:St w0 w L R) (hx:ev σ x=v) (hv:v.cells=[v].toArray)
    (k:∀ b w',St w0 w' (cBlk b [v] e :: L) R->SL P all Q rest (upd σ d (.pointer (some ⟨b,0,none⟩))) w'):SL P all Q (⟨some d,.box e x,ty,pos,af,none⟩ :: rest) σ w:=t_box H hx hv k
end
end Go.Nm
namespace Go.Nm
open Go
universe u
/-- What a test says, as a proposition. -/
class DcQ (b c:Bool) (p:outParam Prop):Prop where
  to:b=c->p
instance (priority:=low) {b c:Bool}:DcQ b c (b=c):=⟨fun h=>h⟩
instance {p:Prop} [Decidable p]:DcQ (decide p) true p:=⟨of_decide_eq_true⟩
instance {p:Prop} [Decidable p]:DcQ (decide p) false (¬p):=⟨of_decide_eq_false⟩
instance {α:Type _} [BEq α] [LawfulBEq α] {a b:α}:DcQ (a==b) true (a=b):=⟨beq_iff_eq.1⟩
instance {α:Type _} [BEq α] [LawfulBEq α] {a b:α}:DcQ (a==b) false (a ≠ b):=⟨beq_eq_false_iff_ne.1⟩
instance {α:Type _} [BEq α] [LawfulBEq α] {a b:α}:DcQ (a != b) true (a ≠ b):=⟨bne_iff_ne.1⟩
instance {α:Type _} [BEq α] [LawfulBEq α] {a b:α}:DcQ (a != b) false (a=b):=⟨bne_eq_false_iff_eq.1⟩
/-- What a guard says, as a proposition. -/
class DeQ (b:Bool) (p:outParam Prop):Prop where
  iff:b=true↔p
instance (priority:=low) {b:Bool}:DeQ b (b=true):=⟨Iff.rfl⟩
instance {p:Prop} [Decidable p]:DeQ (decide p) p:=⟨decide_eq_true_iff⟩
instance {a b:Bool} {p q:Prop} [ha:DeQ a p] [hb:DeQ b q]:DeQ (a&&b) (p/\q):=⟨by rw [Bool.and_eq_true,ha.iff,hb.iff]⟩
/-! ### Facts on types, found by their numbers -/
class FdC (P:Program) (s k:Nat) (off ft:outParam Nat):Prop where
  h:(P.underlying s).bind (fun d=>match d with | .struct fs=>(fs[k]?).map (fun f=>(f.offset,f.type)) | _=>none)=some (off,ft)
class ScC (P:Program) (t:Nat):Prop where
  h:isSc (P.underlying t)=true
class AgC (P:Program) (t:Nat):Prop where
  h:isAg (P.underlying t)=true
class SzC (P:Program) (t:Nat) (n:outParam Nat):Prop where
  h:(P.info? t).map (·.size)=some n
class TlC (P:Program) (t:Nat) (e sz by':outParam Nat) (z:outParam Value):Prop where
  h:SlT P t e sz by' z
class AlC (P:Program) (t:Nat) (z:outParam Value):Prop where
  h:(P.info? t).map (·.zero)=some (some z)
class BdC (P:Program) (t:Nat) (pl:outParam (List (Nat × Nat))):Prop where
  h:∃ fs:Array Field,P.underlying t=some (.struct fs)/\fs.toList.mapM (fun f=>(P.info? f.type).map fun i=>(f.offset,i.size))=some pl
class CfC (P:Program) (f:FuncId):Prop where
  h:CF P f
class AddC (a b:Nat) (c:outParam Nat):Prop where
  h:a+b=c
instance (priority:=low) {a b:Nat}:AddC a b (a+b):=⟨rfl⟩
instance {a:Nat}:AddC a 0 a:=⟨rfl⟩
instance {b:Nat}:AddC 0 b b:=⟨Nat.zero_add b⟩
/-- An index as a number. -/
class IxC (i:Int) (n:outParam Nat):Prop where
  h:i.toNat=n
instance (priority:=low) {i:Int}:IxC i i.toNat:=⟨rfl⟩
instance {n:Nat}:IxC (n:Int) n:=⟨rfl⟩
instance:IxC 0 0:=⟨rfl⟩
instance:IxC 1 1:=⟨rfl⟩
instance:IxC 2 2:=⟨rfl⟩
instance:IxC 3 3:=⟨rfl⟩
instance:IxC 4 4:=⟨rfl⟩
instance:IxC 5 5:=⟨rfl⟩
instance:IxC 6 6:=⟨rfl⟩
instance:IxC 7 7:=⟨rfl⟩
instance:IxC 8 8:=⟨rfl⟩
instance:IxC 9 9:=⟨rfl⟩
/-- What is read beyond a list's end. -/
class DfC (α:Type) (d:outParam α):Prop where
  h:True
instance (priority:=low) {α:Type} [Inhabited α]:DfC α default:=⟨trivial⟩
instance:DfC Int 0:=⟨trivial⟩
instance:DfC Bool false:=⟨trivial⟩
/-- The cells of a thing, written out. -/
class EncL {α:Type} [Flat α] (x:α) (ds:outParam (List Value)):Prop where
  h:Flat.enc x=ds
/-- Some of a list's entries. -/
class SubR {α:Type u} (l:List α) (k n:Nat) (o:outParam (List α)):Prop where
  h:(l.drop k).take n=o
instance {α:Type u} {l:List α}:SubR l 0 0 []:=⟨rfl⟩
instance {α:Type u} {l o:List α} {x:α} {n:Nat} [h:SubR l 0 n o]:SubR (x :: l) 0 (n+1) (x :: o):=⟨by have:=h.h; simp at this; simp [this]⟩
instance {α:Type u} {l o:List α} {x:α} {k n:Nat} [h:SubR l k n o]:SubR (x :: l) (k+1) n o:=⟨by rw [List.drop_succ_cons]; exact h.h⟩
/-- A block among the parts. -/
class BlkR (L:List Chunk) (b:Nat) (cs:outParam (List Value)) (t:outParam TypeId):Prop where
  h:∃ k:Nat,L[k]?=some (cBlk b cs t)
instance {c:Chunk} {L:List Chunk} {b:Nat} {cs:List Value} {t:TypeId} [h:BlkR L b cs t]:BlkR (c :: L) b cs t:=⟨by obtain ⟨k,h⟩:=h.h; exact ⟨k+1,by simpa using h⟩⟩
instance {L:List Chunk} {b:Nat} {cs:List Value} {t:TypeId}:BlkR (cBlk b cs t :: L) b cs t:=⟨⟨0,rfl⟩⟩
/-- A block among the parts that is changed. -/
class BlkW (L:List Chunk) (b:Nat) (cs:List Value) (cs':List Value) (t:TypeId) (o:outParam (List Chunk)):Prop where
  h:∃ k:Nat,L[k]?=some (cBlk b cs t)/\L.set k (cBlk b cs' t)=o
instance {c:Chunk} {L o:List Chunk} {b:Nat} {cs cs':List Value} {t:TypeId} [h:BlkW L b cs cs' t o]:BlkW (c :: L) b cs cs' t (c :: o):=⟨by obtain ⟨k,h1,h2⟩:=h.h; exact ⟨k+1,by simpa using h1,by rw [List.set_cons_succ,h2]⟩⟩
instance {L:List Chunk} {b:Nat} {cs cs':List Value} {t:TypeId}:BlkW (cBlk b cs t :: L) b cs cs' t (cBlk b cs' t :: L):=⟨⟨0,rfl,rfl⟩⟩
/-- A field of an element. -/
class FldC (α:Type) [Elt α] (k:Nat) (e:outParam α) (f:outParam (α->Value)):Prop where
  h:∀ {C:Cells} {v:Value} {l:List α} {n:Nat},Sl C v l->n<l.length->At C (fat (vat v (Elt.sz α) n) k) [f (l.getD n e)]
section
variable {w0 w:World} {L R:List Chunk}
theorem St.bq {b:Nat} {cs:List Value} {t:TypeId} (H:St w0 w L R) [h:BlkR L b cs t]:w.heap[b]?=some (.cells cs.toArray t (0,0)):=by
  obtain ⟨k,hk⟩:=h.h
  exact H.get hk
end
section
variable {P:Program} {w:World} {σ:Env} {d:Nat} {ty:TypeId} {pos:String} {af:Array Edge} {g:Option (Nat × Bool)}
theorem pos_succ {m:Nat} (h:Nat.blt 0 m=true):∃ n,m=n+1:=by
  cases m with
  | zero=>cases h
  | succ n=>exact ⟨n,rfl⟩
theorem y_fab {s k off ft m b o c:Nat} {x:Operand} (hx:ev σ x = .pointer (some ⟨b,o,none⟩)) [f:FdC P s k off ft] [z:SzC P ft m] (a:AddC o off c) (hm:Nat.blt 0 m=true) :
    (execOp (ev σ) ⟨some d,.fieldAddr s x k,ty,pos,af,g⟩).run P w = .ok (.value (.pointer (some ⟨b,c,none⟩))) w:=by
  obtain ⟨n,rfl⟩:=pos_succ hm
  have:=fa_blk (w:=w) (b:=b) (o:=o) f.h z.h
  rw [a.h] at this
  exact x_fa hx this
theorem y_fap {s k off ft m:Nat} {x:Operand} {p:Value} (hx:ev σ x=p) [f:FdC P s k off ft] [z:SzC P ft m] (hm:Nat.blt 0 m=true) (hp:∃ b o,p = .pointer (some ⟨b,o,none⟩)) :
    (execOp (ev σ) ⟨some d,.fieldAddr s x k,ty,pos,af,g⟩).run P w = .ok (.value (fat p off)) w:=by
  obtain ⟨n,rfl⟩:=pos_succ hm
  exact x_fa hx (fa_pl f.h z.h hp)
theorem y_fav {α:Type} {_:Elt α} {s k off ft m sz n:Nat} {x:Operand} {C:Cells} {v:Value} {l:List α} (hx:ev σ x=vat v sz n) [f:FdC P s k off ft] [z:SzC P ft m] (hm:Nat.blt 0 m=true) (hs:Sl C v l) (hz:Elt.sz α=sz) (h1:n<l.length) :
    (execOp (ev σ) ⟨some d,.fieldAddr s x k,ty,pos,af,g⟩).run P w = .ok (.value (fat (vat v sz n) off)) w:=by
  subst hz
  have:=Sl.pl hs (i:=(n:Int)) (by omega) (by omega)
  exact y_fap hx hm (by simpa using this)
theorem y_faw {α:Type} {_:Elt α} {s k off ft m sz n a c:Nat} {x:Operand} {C:Cells} {v:Value} {l:List α} (hx:ev σ x=fat (vat v sz n) a) [f:FdC P s k off ft] [z:SzC P ft m] (ad:AddC a off c) (hm:Nat.blt 0 m=true) (hs:Sl C v l) (hz:Elt.sz α=sz) (h1:n<l.length) :
    (execOp (ev σ) ⟨some d,.fieldAddr s x k,ty,pos,af,g⟩).run P w = .ok (.value (fat (vat v sz n) c)) w:=by
  subst hz
  obtain ⟨b,o,hp⟩:=Sl.pl hs (i:=(n:Int)) (by omega) (by omega)
  have e:vat v (Elt.sz α) n = .pointer (some ⟨b,o,none⟩):=by simpa using hp
  have:=y_fap (P:=P) (w:=w) (d:=d) (ty:=ty) (pos:=pos) (af:=af) (g:=g) hx (f:=f) (z:=z) hm ⟨b,o+a,by rw [e]; simp [fat,add_lit]⟩
  rw [this,e,← ad.h]
  simp [fat,add_lit,Nat.add_assoc]
theorem y_ldb {t:TypeId} {b off:Nat} {cs:List Value} {et:TypeId} {fr:Nat × Nat} {x:Operand} {v:Value} (hx:ev σ x = .pointer (some ⟨b,off,none⟩)) [s:ScC P t] (h:w.heap[b]?=some (.cells cs.toArray et fr)) (hv:(cs.drop off).take 1=[v]) :
    (execOp (ev σ) ⟨some d,.load t x,ty,pos,af,g⟩).run P w = .ok (.value v) w:=x_ld hx (ldb_sc s.h h hv)
theorem y_lda {t:TypeId} {b off n:Nat} {cs ds:List Value} {et:TypeId} {fr:Nat × Nat} {x:Operand} (hx:ev σ x = .pointer (some ⟨b,off,none⟩)) [s:AgC P t] [z:SzC P t n] (h:w.heap[b]?=some (.cells cs.toArray et fr)) (q:SubR cs off n ds) (hn:ds.length=n) :
    (execOp (ev σ) ⟨some d,.load t x,ty,pos,af,g⟩).run P w = .ok (.value (.agg ds.toArray)) w:=x_ld hx (ldb_ag s.h z.h h q.h hn)
theorem At.flat {α:Type} [Flat α] {C:Cells} {v:Value} {l:List α} (hs:Sl C v l) {n:Nat} (h1:n<l.length) (e:α):At C (vat v (Elt.sz α) n) (Flat.enc (l.getD n e)):=by
  obtain ⟨cs,ha,hr⟩:=hs.atI (i:=(n:Int)) (by omega) (by omega) e
  rw [Flat.rep_iff] at hr
  subst hr
  simpa using ha
theorem y_lds {α:Type} {_:Flat α} {t sz n:Nat} {x:Operand} {C:Cells} {v u:Value} {l:List α} {e:α} (hx:ev σ x=vat v sz n) [s:ScC P t] (hs:Sl C v l) {ds:List Value} (de:DfC α e) (en:EncL (l.getD n e) ds) (hz:Elt.sz α=sz) (hu:ds=[u]) (hle:C.Le w.cell?) (h1:n<l.length) :
    (execOp (ev σ) ⟨some d,.load t x,ty,pos,af,g⟩).run P w = .ok (.value u) w:=by
  subst hz
  have:=(At.flat hs h1 e).mono hle
  rw [en.h,hu] at this
  exact x_ld hx (ld_sc s.h this)
theorem y_ldf {α:Type} {_:Flat α} {t sz n k:Nat} {x:Operand} {C:Cells} {v u:Value} {l:List α} {e:α} (hx:ev σ x=fat (vat v sz n) k) [s:ScC P t] (hs:Sl C v l) {ds:List Value} (de:DfC α e) (en:EncL (l.getD n e) ds) (hz:Elt.sz α=sz) (hu:(ds.drop k).take 1=[u]) (hle:C.Le w.cell?) (h1:n<l.length) :
    (execOp (ev σ) ⟨some d,.load t x,ty,pos,af,g⟩).run P w = .ok (.value u) w:=by
  subst hz
  have:=((At.flat hs h1 e).mono hle).fld k 1
  rw [en.h,hu] at this
  exact x_ld hx (ld_sc s.h this)
theorem y_ldA {α:Type} {_:Flat α} {t sz n:Nat} {x:Operand} {C:Cells} {v:Value} {l:List α} {e:α} (hx:ev σ x=vat v sz n) [s:AgC P t] [z:SzC P t sz] (hs:Sl C v l) {ds:List Value} (de:DfC α e) (en:EncL (l.getD n e) ds) (hz:Elt.sz α=sz) (hle:C.Le w.cell?) (h1:n<l.length) :
    (execOp (ev σ) ⟨some d,.load t x,ty,pos,af,g⟩).run P w = .ok (.value (.agg ds.toArray)) w:=by
  subst hz
  have:=(At.flat hs h1 e).mono hle
  rw [en.h] at this
  refine x_ld hx (ld_ag s.h ?_ this)
  rw [z.h,← en.h,Flat.enc_len]
theorem y_ldg {α:Type} {_:Elt α} {t sz n k:Nat} {x:Operand} {C:Cells} {v:Value} {l:List α} {e:α} {f:α->Value} (hx:ev σ x=fat (vat v sz n) k) [s:ScC P t] (hs:Sl C v l) (fc:FldC α k e f) (hz:Elt.sz α=sz) (hle:C.Le w.cell?) (h1:n<l.length) :
    (execOp (ev σ) ⟨some d,.load t x,ty,pos,af,g⟩).run P w = .ok (.value (f (l.getD n e))) w:=by
  subst hz
  exact x_ld hx (ld_sc s.h ((fc.h hs h1).mono hle))
theorem y_ldp {t:TypeId} {x:Operand} {p v:Value} (hx:ev σ x=p) [s:ScC P t] (ha:At w.cell? p [v]) :
    (execOp (ev σ) ⟨some d,.load t x,ty,pos,af,g⟩).run P w = .ok (.value v) w:=x_ld hx (ld_sc s.h ha)
theorem y_len {α:Type} {_:Elt α} {t e sz by':Nat} {z:Value} {x:Operand} {C:Cells} {v:Value} {l:List α} [T:TlC P t e sz by' z] (h:ev σ x=v) (hs:Sl C v l) :
    (execOp (ev σ) ⟨some d,.call ⟨.builtin .len,#[x],#[t]⟩,ty,pos,af,g⟩).run P w = .ok (.value (.int .i64 l.length)) w:=x_lenS T.h.und h hs
theorem y_ix {α:Type} {_:Elt α} {t e sz by' n:Nat} {z:Value} {x y:Operand} {C:Cells} {v:Value} {l:List α} {kd:IntKind} {i:Int} [T:TlC P t e sz by' z] (hx:ev σ x=v) (hy:ev σ y = .int kd i) (ix:IxC i n) (hs:Sl C v l) (hz:Elt.sz α=sz) (h0:0<=i) (h1:i<l.length) :
    (execOp (ev σ) ⟨some d,.indexAddr t x y,ty,pos,af,g⟩).run P w = .ok (.value (vat v sz n)) w:=by
  subst hz
  have:=Sl.ix (w:=w) (kd:=kd) T.h.und T.h.size hs h0 h1
  rw [ix.h] at this
  exact x_ix hx hy this
end
section
variable {P:Program} {all rest:List Oper} {Q:Post} {σ:Env} {w0 w:World} {L L' R:List Chunk} {ty:TypeId} {pos:String} {af:Array Edge}
end
instance {x:Int}:EncL x [I x]:=⟨rfl⟩
instance {x:Bool}:EncL x [B x]:=⟨rfl⟩
/-- A slice that reads as a list. -/
theorem jS {A:Prop} (h:A:=by first | assumption | exact H.os 0 | exact H.os 1 | exact H.os 2 | exact H.os 3 | exact H.os 4 | exact H.os 5 | exact H.os 6 | exact H.os 7 | exact H.os 8 | exact H.os 9 | exact (by assumption:_=true->Sl _ _ _) hg):A:=h
/-- Cells that can be read. -/
theorem jL {A:Prop} (h:A:=by first | exact Reads.at (by assumption) H | exact H.ol 0 | exact H.ol 1 | exact H.ol 2 | exact H.ol 3 | exact H.ol 4 | exact H.ol 5 | exact H.ol 6 | exact H.ol 7 | exact H.ol 8 | exact H.ol 9):A:=h
/-- A bound. -/
theorem jO {A:Prop} (h:A:=by first | omega | (have hx_:=hg; simp at hx_; omega) | (have hx_:=hg; simp at hx_; simp only [hg,Bool.true_eq_false,Bool.false_eq_true,reduceCtorEq,false_or,true_or,Bool.not_true,Bool.not_false] at *; omega) | (simp only [hg,Bool.true_eq_false,Bool.false_eq_true,reduceCtorEq,false_or,true_or,Bool.not_true,Bool.not_false] at *; omega)):A:=h
/-- A guard. -/
theorem jB {A:Prop} (h:A:=by first | exact hb | (rw [hb]; rfl) | simp_all):A:=h
/-- A value under a guard, or none. -/
theorem jG {A:Prop} (h:A:=by first | exact gd_of hg _ | ((conv=>lhs; whnf) <;> rfl)):A:=h
/-- A value. -/
theorem jE {A:Prop} (h:A:=by ((conv=>lhs; whnf) <;> rfl)):A:=h
/-- One operation. -/
theorem jU {A:Prop} (h:A:=by 
    first
      | (apply x_mv; exact jE)
      | (apply x_as; exact jE)
      | (apply y_fab; rfl; exact inferInstance; rfl)
      | (apply y_ldb; rfl; exact H.bq; rfl)
      | (apply x_cmp; rfl; rfl; rfl)
      | (apply y_len; exact jE; exact jS)
      | (apply y_ix; exact jE; rfl; exact inferInstance; exact jS; rfl; exact jO; exact jO)
      | (apply y_fav; rfl; rfl; exact jS; rfl; exact jO)
      | (apply y_faw; rfl; exact inferInstance; rfl; exact jS; rfl; exact jO)
      | (apply y_lds; rfl; exact jS; exact inferInstance; exact inferInstance; rfl; rfl; exact jL; exact jO)
      | (apply y_ldf; rfl; exact jS; exact inferInstance; exact inferInstance; rfl; rfl; exact jL; exact jO)
      | (apply y_ldg; rfl; exact jS; exact inferInstance; rfl; exact jL; exact jO)
      | (apply y_ldA; rfl; exact jS; exact inferInstance; exact inferInstance; rfl; exact jL; exact jO)
      | (apply y_ldp; rfl; exact At.mono (by assumption) jL)
      | (apply x_ari; rfl; rfl; rfl; exact jO)
      | (apply x_ext; rfl; rfl)
      | (apply x_nc; rfl)
      | (apply y_lda; rfl; exact H.bq; exact inferInstance; rfl)
      | (apply y_ldb; rfl; exact (by assumption:Has _ (cBlk _ _ _)).blk H; rfl)
      | (apply x_not; rfl)
      | (apply x_max; rfl; rfl)
      | (apply x_min; rfl; rfl)
      | (apply x_quo; rfl; rfl; exact jO)
      | (apply x_por; rfl; rfl; exact fun hb=>gd_of jB _)
      | (apply x_pand; rfl; exact fun hb=>gd_of jB _; rfl)):A:=h
/-- One operation under a guard. -/
theorem jV {A:Prop} (h:A:=by 
    first
      | (apply x_mv; exact jG)
      | (apply x_as; exact jG)
      | (apply y_fab; exact jG; exact inferInstance; rfl)
      | (apply y_ldb; exact jG; exact H.bq; rfl)
      | (apply x_cmp; exact jG; exact jG; rfl)
      | (apply y_len; exact jG; exact jS)
      | (apply y_ix; exact jG; exact jG; exact inferInstance; exact jS; rfl; exact jO; exact jO)
      | (apply y_fav; exact jG; rfl; exact jS; rfl; exact jO)
      | (apply y_faw; exact jG; exact inferInstance; rfl; exact jS; rfl; exact jO)
      | (apply y_lds; exact jG; exact jS; exact inferInstance; exact inferInstance; rfl; rfl; exact jL; exact jO)
      | (apply y_ldf; exact jG; exact jS; exact inferInstance; exact inferInstance; rfl; rfl; exact jL; exact jO)
      | (apply y_ldg; exact jG; exact jS; exact inferInstance; rfl; exact jL; exact jO)
      | (apply y_ldA; exact jG; exact jS; exact inferInstance; exact inferInstance; rfl; exact jL; exact jO)
      | (apply y_ldp; exact jG; exact At.mono (by assumption) jL)
      | (apply x_ari; exact jG; exact jG; rfl; exact jO)
      | (apply x_ext; exact jG; rfl)
      | (apply x_nc; exact jG)
      | (apply y_lda; exact jG; exact H.bq; exact inferInstance; rfl)
      | (apply y_ldb; exact jG; exact (by assumption:Has _ (cBlk _ _ _)).blk H; rfl)
      | (apply x_not; exact jG)
      | (apply x_max; exact jG; exact jG)
      | (apply x_min; exact jG; exact jG)
      | (apply x_quo; exact jG; exact jG; exact jO)
      | (apply x_por; exact jG; exact jG; exact fun hb=>gd_of jB _)
      | (apply x_pand; exact jG; exact fun hb=>gd_of jB _; exact jG)):A:=h
/-- What is left. -/
structure Left (B:Prop):Prop where
  h:B
/-- How many steps are left. -/
structure Cnt (n:Nat):Prop where
  h:n=n
theorem Cnt.dn {n:Nat} (c:Cnt (n+1)):Cnt n:=⟨rfl⟩
/-- So many plain steps. -/
theorem kg {A B:Prop} (n:Nat) (q:B) (f:Cnt n->Left B->A:=by
    intro cnt q
    (repeat (replace cnt:=Cnt.dn cnt; first
      | (apply s_val; exact jU)
      | refine s_nil ?_
      | refine W.seq ?_
      | refine W.region rfl ?_
      | refine W.skip ?_
      | refine W.block ?_
      | (apply d_q; rfl; (intro w' H; exact jU))
      | (apply t_q; rfl; (intro w' H; exact jU))
      | (apply g_val; (first | exact gy_t rfl | exact gy_f rfl | exact gy_gt rfl rfl | exact gy_gf rfl rfl); (intro hg; exact jV))
      | (apply d_qg; rfl; (first | exact gy_t rfl | exact gy_f rfl | exact gy_gt rfl rfl | exact gy_gf rfl rfl); (intro hg w' H; exact jV))
      | (apply t_qg; rfl; (first | exact gy_t rfl | exact gy_f rfl | exact gy_gt rfl rfl | exact gy_gf rfl rfl); (intro hg w' H; exact jV))
      | refine t_nil ?_
      | refine d_nil ?_))
    exact q.h):A:=f ⟨rfl⟩ ⟨q⟩
end Go.Nm
namespace Go.Nm
open Go
section
variable {P:Program} {w:World} {σ:Env} {d:Nat} {ty:TypeId} {pos:String} {af:Array Edge} {g:Option (Nat × Bool)}
theorem x_pand0 {c x y:Operand} {b:Bool} (hc:ev σ c = .bool b) (hx:b=true->ev σ x = .bool false) (hy:ev σ y = .bool false) :
    (execOp (ev σ) ⟨some d,.pick c x y,ty,pos,af,g⟩).run P w = .ok (.value (.bool false)) w:=by
  have:=x_pand (P:=P) (w:=w) (d:=d) (ty:=ty) (pos:=pos) (af:=af) (g:=g) hc hx hy
  rwa [Bool.and_false] at this
end
end Go.Nm
namespace Go.Nm
open Go
instance {x:Line}:EncL x [I x.src,I x.dst,I x.day,I x.rise,I x.err]:=⟨rfl⟩
instance {x:Leg}:EncL x [I x.line,B x.back]:=⟨rfl⟩
instance {x:Mv}:EncL x [I x.mark,I x.day]:=⟨rfl⟩
instance {x:Span}:EncL x [I x.lo,I x.hi]:=⟨rfl⟩
instance {x:Note}:EncL x [I x.work,I x.version,I x.value]:=⟨rfl⟩
instance {x:Pub}:EncL x [I x.work,I x.value]:=⟨rfl⟩
instance:FldC Work 1 default (fun x=>I x.base):=⟨fun hs h1=>by have:=Work_at1 hs (i:=(_:Nat)) (Int.natCast_nonneg _) (Int.ofNat_lt.2 h1); exact this⟩
instance:FldC Work 2 default (fun x=>I x.minutes):=⟨fun hs h1=>by have:=Work_at2 hs (i:=(_:Nat)) (Int.natCast_nonneg _) (Int.ofNat_lt.2 h1); exact this⟩
end Go.Nm
namespace Go.Proofs.Ytigidakpcepdkaa
open Go Go.Nm
theorem cf4:CF Try.prog 4:=⟨_,Try.func4,rfl,by decide +kernel⟩
theorem cf5:CF Try.prog 5:=⟨_,Try.func5,rfl,by decide +kernel⟩
theorem cf6:CF Try.prog 6:=⟨_,Try.func6,rfl,by decide +kernel⟩
theorem cf7:CF Try.prog 7:=⟨_,Try.func7,rfl,by decide +kernel⟩
theorem cf8:CF Try.prog 8:=⟨_,Try.func8,rfl,by decide +kernel⟩
theorem cf9:CF Try.prog 9:=⟨_,Try.func9,rfl,by decide +kernel⟩
theorem cf10:CF Try.prog 10:=⟨_,Try.func10,rfl,by decide +kernel⟩
theorem cf11:CF Try.prog 11:=⟨_,Try.func11,rfl,by decide +kernel⟩
theorem cf12:CF Try.prog 12:=⟨_,Try.func12,rfl,by decide +kernel⟩
theorem cf13:CF Try.prog 13:=⟨_,Try.func13,rfl,by decide +kernel⟩
theorem cf14:CF Try.prog 14:=⟨_,Try.func14,rfl,by decide +kernel⟩
theorem cf15:CF Try.prog 15:=⟨_,Try.func15,rfl,by decide +kernel⟩
theorem cf16:CF Try.prog 16:=⟨_,Try.func16,rfl,by decide +kernel⟩
theorem cf17:CF Try.prog 17:=⟨_,Try.func17,rfl,by decide +kernel⟩
theorem cf18:CF Try.prog 18:=⟨_,Try.func18,rfl,by decide +kernel⟩
theorem cf19:CF Try.prog 19:=⟨_,Try.func19,rfl,by decide +kernel⟩
theorem cf20:CF Try.prog 20:=⟨_,Try.func20,rfl,by decide +kernel⟩
theorem cf21:CF Try.prog 21:=⟨_,Try.func21,rfl,by decide +kernel⟩
theorem cf22:CF Try.prog 22:=⟨_,Try.func22,rfl,by decide +kernel⟩
theorem cf23:CF Try.prog 23:=⟨_,Try.func23,rfl,by decide +kernel⟩
theorem cf24:CF Try.prog 24:=⟨_,Try.func24,rfl,by decide +kernel⟩
theorem cf25:CF Try.prog 25:=⟨_,Try.func25,rfl,by decide +kernel⟩
theorem cf26:CF Try.prog 26:=⟨_,Try.func26,rfl,by decide +kernel⟩
theorem cf27:CF Try.prog 27:=⟨_,Try.func27,rfl,by decide +kernel⟩
theorem cf28:CF Try.prog 28:=⟨_,Try.func28,rfl,by decide +kernel⟩
theorem cf29:CF Try.prog 29:=⟨_,Try.func29,rfl,by decide +kernel⟩
theorem cf30:CF Try.prog 30:=⟨_,Try.func30,rfl,by decide +kernel⟩
theorem cf31:CF Try.prog 31:=⟨_,Try.func31,rfl,by decide +kernel⟩
theorem cf32:CF Try.prog 32:=⟨_,Try.func32,rfl,by decide +kernel⟩
theorem cf33:CF Try.prog 33:=⟨_,Try.func33,rfl,by decide +kernel⟩
theorem cf34:CF Try.prog 34:=⟨_,Try.func34,rfl,by decide +kernel⟩
theorem cf35:CF Try.prog 35:=⟨_,Try.func35,rfl,by decide +kernel⟩
theorem cf36:CF Try.prog 36:=⟨_,Try.func36,rfl,by decide +kernel⟩
theorem cf37:CF Try.prog 37:=⟨_,Try.func37,rfl,by decide +kernel⟩
theorem cf38:CF Try.prog 38:=⟨_,Try.func38,rfl,by decide +kernel⟩
theorem cf39:CF Try.prog 39:=⟨_,Try.func39,rfl,by decide +kernel⟩
theorem cf40:CF Try.prog 40:=⟨_,Try.func40,rfl,by decide +kernel⟩
theorem cf42:CF Try.prog 42:=⟨_,Try.func42,rfl,by decide +kernel⟩
theorem cf43:CF Try.prog 43:=⟨_,Try.func43,rfl,by decide +kernel⟩
theorem cf44:CF Try.prog 44:=⟨_,Try.func44,rfl,by decide +kernel⟩
theorem cf45:CF Try.prog 45:=⟨_,Try.func45,rfl,by decide +kernel⟩
theorem cf46:CF Try.prog 46:=⟨_,Try.func46,rfl,by decide +kernel⟩
theorem cf47:CF Try.prog 47:=⟨_,Try.func47,rfl,by decide +kernel⟩
theorem cf48:CF Try.prog 48:=⟨_,Try.func48,rfl,by decide +kernel⟩
theorem cf49:CF Try.prog 49:=⟨_,Try.func49,rfl,by decide +kernel⟩
theorem cf50:CF Try.prog 50:=⟨_,Try.func50,rfl,by decide +kernel⟩
theorem cf51:CF Try.prog 51:=⟨_,Try.func51,rfl,by decide +kernel⟩
theorem cf52:CF Try.prog 52:=⟨_,Try.func52,rfl,by decide +kernel⟩
theorem cf53:CF Try.prog 53:=⟨_,Try.func53,rfl,by decide +kernel⟩
theorem cf54:CF Try.prog 54:=⟨_,Try.func54,rfl,by decide +kernel⟩
theorem cf55:CF Try.prog 55:=⟨_,Try.func55,rfl,by decide +kernel⟩
theorem cf56:CF Try.prog 56:=⟨_,Try.func56,rfl,by decide +kernel⟩
theorem cf57:CF Try.prog 57:=⟨_,Try.func57,rfl,by decide +kernel⟩
theorem cf58:CF Try.prog 58:=⟨_,Try.func58,rfl,by decide +kernel⟩
theorem cf59:CF Try.prog 59:=⟨_,Try.func59,rfl,by decide +kernel⟩
theorem cf60:CF Try.prog 60:=⟨_,Try.func60,rfl,by decide +kernel⟩
theorem cf61:CF Try.prog 61:=⟨_,Try.func61,rfl,by decide +kernel⟩
theorem cf62:CF Try.prog 62:=⟨_,Try.func62,rfl,by decide +kernel⟩
theorem cf63:CF Try.prog 63:=⟨_,Try.func63,rfl,by decide +kernel⟩
theorem cf64:CF Try.prog 64:=⟨_,Try.func64,rfl,by decide +kernel⟩
theorem cf65:CF Try.prog 65:=⟨_,Try.func65,rfl,by decide +kernel⟩
theorem cf66:CF Try.prog 66:=⟨_,Try.func66,rfl,by decide +kernel⟩
theorem cf67:CF Try.prog 67:=⟨_,Try.func67,rfl,by decide +kernel⟩
theorem cf70:CF Try.prog 70:=⟨_,Try.func70,rfl,by decide +kernel⟩
theorem cf71:CF Try.prog 71:=⟨_,Try.func71,rfl,by decide +kernel⟩
theorem cf72:CF Try.prog 72:=⟨_,Try.func72,rfl,by decide +kernel⟩
theorem cf73:CF Try.prog 73:=⟨_,Try.func73,rfl,by decide +kernel⟩
theorem cf74:CF Try.prog 74:=⟨_,Try.func74,rfl,by decide +kernel⟩
theorem cf75:CF Try.prog 75:=⟨_,Try.func75,rfl,by decide +kernel⟩
theorem cf76:CF Try.prog 76:=⟨_,Try.func76,rfl,by decide +kernel⟩
theorem cf77:CF Try.prog 77:=⟨_,Try.func77,rfl,by decide +kernel⟩
theorem cf78:CF Try.prog 78:=⟨_,Try.func78,rfl,by decide +kernel⟩
theorem cf79:CF Try.prog 79:=⟨_,Try.func79,rfl,by decide +kernel⟩
theorem cf80:CF Try.prog 80:=⟨_,Try.func80,rfl,by decide +kernel⟩
theorem cf81:CF Try.prog 81:=⟨_,Try.func81,rfl,by decide +kernel⟩
theorem cf82:CF Try.prog 82:=⟨_,Try.func82,rfl,by decide +kernel⟩
theorem cf83:CF Try.prog 83:=⟨_,Try.func83,rfl,by decide +kernel⟩
theorem cf84:CF Try.prog 84:=⟨_,Try.func84,rfl,by decide +kernel⟩
theorem cf85:CF Try.prog 85:=⟨_,Try.func85,rfl,by decide +kernel⟩
theorem cf86:CF Try.prog 86:=⟨_,Try.func86,rfl,by decide +kernel⟩
theorem cf87:CF Try.prog 87:=⟨_,Try.func87,rfl,by decide +kernel⟩
theorem cf88:CF Try.prog 88:=⟨_,Try.func88,rfl,by decide +kernel⟩
theorem cf89:CF Try.prog 89:=⟨_,Try.func89,rfl,by decide +kernel⟩
theorem cf90:CF Try.prog 90:=⟨_,Try.func90,rfl,by decide +kernel⟩
theorem cf91:CF Try.prog 91:=⟨_,Try.func91,rfl,by decide +kernel⟩
theorem cf92:CF Try.prog 92:=⟨_,Try.func92,rfl,by decide +kernel⟩
theorem cf93:CF Try.prog 93:=⟨_,Try.func93,rfl,by decide +kernel⟩
theorem cf94:CF Try.prog 94:=⟨_,Try.func94,rfl,by decide +kernel⟩
theorem cf95:CF Try.prog 95:=⟨_,Try.func95,rfl,by decide +kernel⟩
theorem cf96:CF Try.prog 96:=⟨_,Try.func96,rfl,by decide +kernel⟩
theorem cf97:CF Try.prog 97:=⟨_,Try.func97,rfl,by decide +kernel⟩
theorem cf98:CF Try.prog 98:=⟨_,Try.func98,rfl,by decide +kernel⟩
theorem T22:SlT Try.prog 22 5 1 1 (.int .u8 0):=⟨Try.underlying22,by kernel_rfl,rfl,by decide⟩
theorem T23:SlT Try.prog 23 35 5 40 (.agg #[I 0,I 0,I 0,I 0,I 0]):=⟨Try.underlying23,by kernel_rfl,rfl,by decide⟩
theorem T26:SlT Try.prog 26 3 1 8 (I 0):=⟨Try.underlying26,by kernel_rfl,rfl,by decide⟩
theorem T31:SlT Try.prog 31 37 3 40 (.agg #[.slice none 0 0,I 0,I 0]):=⟨Try.underlying31,by kernel_rfl,rfl,by decide⟩
theorem T32:SlT Try.prog 32 39 3 24 (.agg #[I 0,I 0,I 0]):=⟨Try.underlying32,by kernel_rfl,rfl,by decide⟩
theorem T45:SlT Try.prog 45 44 2 16 (.agg #[I 0,I 0]):=⟨Try.underlying45,by kernel_rfl,rfl,by decide⟩
theorem T95:SlT Try.prog 95 26 1 24 (.slice none 0 0):=⟨Try.underlying95,by kernel_rfl,rfl,by decide⟩
theorem T155:SlT Try.prog 155 86 2 16 (.agg #[I 0,B false]):=⟨Try.underlying155,by kernel_rfl,rfl,by decide⟩
theorem Sc3:isSc (Try.prog.underlying 3)=true:=by rw [Try.underlying3]; rfl
theorem Sc4:isSc (Try.prog.underlying 4)=true:=by rw [Try.underlying4]; rfl
theorem Sc5:isSc (Try.prog.underlying 5)=true:=by rw [Try.underlying5]; rfl
theorem Sc22:isSc (Try.prog.underlying 22)=true:=by rw [Try.underlying22]; rfl
theorem Sc23:isSc (Try.prog.underlying 23)=true:=by rw [Try.underlying23]; rfl
theorem Sc26:isSc (Try.prog.underlying 26)=true:=by rw [Try.underlying26]; rfl
theorem Sc31:isSc (Try.prog.underlying 31)=true:=by rw [Try.underlying31]; rfl
theorem Sc40:isSc (Try.prog.underlying 40)=true:=by rw [Try.underlying40]; rfl
theorem Sc62:isSc (Try.prog.underlying 62)=true:=by rw [Try.underlying62]; rfl
theorem Sc67:isSc (Try.prog.underlying 67)=true:=by rw [Try.underlying67]; rfl
theorem Sc72:isSc (Try.prog.underlying 72)=true:=by rw [Try.underlying72]; rfl
theorem Sc77:isSc (Try.prog.underlying 77)=true:=by rw [Try.underlying77]; rfl
theorem Sc79:isSc (Try.prog.underlying 79)=true:=by rw [Try.underlying79]; rfl
theorem Sc120:isSc (Try.prog.underlying 120)=true:=by rw [Try.underlying120]; rfl
theorem Sc123:isSc (Try.prog.underlying 123)=true:=by rw [Try.underlying123]; rfl
theorem Sc124:isSc (Try.prog.underlying 124)=true:=by rw [Try.underlying124]; rfl
theorem Sc129:isSc (Try.prog.underlying 129)=true:=by rw [Try.underlying129]; rfl
theorem Sc131:isSc (Try.prog.underlying 131)=true:=by rw [Try.underlying131]; rfl
theorem Sc141:isSc (Try.prog.underlying 141)=true:=by rw [Try.underlying141]; rfl
theorem Sc156:isSc (Try.prog.underlying 156)=true:=by rw [Try.underlying156]; rfl
theorem Sc160:isSc (Try.prog.underlying 160)=true:=by rw [Try.underlying160]; rfl
theorem Sc161:isSc (Try.prog.underlying 161)=true:=by rw [Try.underlying161]; rfl
theorem Sz3:(Try.prog.info? 3).map (·.size)=some 1:=by kernel_rfl
theorem Sz4:(Try.prog.info? 4).map (·.size)=some 1:=by kernel_rfl
theorem Sz22:(Try.prog.info? 22).map (·.size)=some 1:=by kernel_rfl
theorem Sz23:(Try.prog.info? 23).map (·.size)=some 1:=by kernel_rfl
theorem Ag25:isAg (Try.prog.underlying 25)=true:=by rw [Try.underlying25]; rfl
theorem Sz25:(Try.prog.info? 25).map (·.size)=some 2:=by kernel_rfl
theorem Sz26:(Try.prog.info? 26).map (·.size)=some 1:=by kernel_rfl
theorem Sz31:(Try.prog.info? 31).map (·.size)=some 1:=by kernel_rfl
theorem Ag35:isAg (Try.prog.underlying 35)=true:=by rw [Try.underlying35]; rfl
theorem Sz35:(Try.prog.info? 35).map (·.size)=some 5:=by kernel_rfl
theorem Ag37:isAg (Try.prog.underlying 37)=true:=by rw [Try.underlying37]; rfl
theorem Sz37:(Try.prog.info? 37).map (·.size)=some 3:=by kernel_rfl
theorem Ag39:isAg (Try.prog.underlying 39)=true:=by rw [Try.underlying39]; rfl
theorem Sz39:(Try.prog.info? 39).map (·.size)=some 3:=by kernel_rfl
theorem Sz40:(Try.prog.info? 40).map (·.size)=some 1:=by kernel_rfl
theorem Ag44:isAg (Try.prog.underlying 44)=true:=by rw [Try.underlying44]; rfl
theorem Sz44:(Try.prog.info? 44).map (·.size)=some 2:=by kernel_rfl
theorem Ag52:isAg (Try.prog.underlying 52)=true:=by rw [Try.underlying52]; rfl
theorem Sz52:(Try.prog.info? 52).map (·.size)=some 2:=by kernel_rfl
theorem Sz62:(Try.prog.info? 62).map (·.size)=some 1:=by kernel_rfl
theorem Sz72:(Try.prog.info? 72).map (·.size)=some 1:=by kernel_rfl
theorem Ag73:isAg (Try.prog.underlying 73)=true:=by rw [Try.underlying73]; rfl
theorem Sz73:(Try.prog.info? 73).map (·.size)=some 30:=by kernel_rfl
theorem Ag82:isAg (Try.prog.underlying 82)=true:=by rw [Try.underlying82]; rfl
theorem Sz82:(Try.prog.info? 82).map (·.size)=some 13:=by kernel_rfl
theorem Ag84:isAg (Try.prog.underlying 84)=true:=by rw [Try.underlying84]; rfl
theorem Sz84:(Try.prog.info? 84).map (·.size)=some 169:=by kernel_rfl
theorem Ag86:isAg (Try.prog.underlying 86)=true:=by rw [Try.underlying86]; rfl
theorem Sz86:(Try.prog.info? 86).map (·.size)=some 2:=by kernel_rfl
theorem Ag87:isAg (Try.prog.underlying 87)=true:=by rw [Try.underlying87]; rfl
theorem Sz87:(Try.prog.info? 87).map (·.size)=some 26:=by kernel_rfl
theorem Ag88:isAg (Try.prog.underlying 88)=true:=by rw [Try.underlying88]; rfl
theorem Sz88:(Try.prog.info? 88).map (·.size)=some 338:=by kernel_rfl
theorem Ag100:isAg (Try.prog.underlying 100)=true:=by rw [Try.underlying100]; rfl
theorem Sz100:(Try.prog.info? 100).map (·.size)=some 1:=by kernel_rfl
theorem Sz120:(Try.prog.info? 120).map (·.size)=some 1:=by kernel_rfl
theorem Sz123:(Try.prog.info? 123).map (·.size)=some 1:=by kernel_rfl
theorem Sz124:(Try.prog.info? 124).map (·.size)=some 1:=by kernel_rfl
theorem Sz129:(Try.prog.info? 129).map (·.size)=some 1:=by kernel_rfl
theorem Ag158:isAg (Try.prog.underlying 158)=true:=by rw [Try.underlying158]; rfl
theorem Sz158:(Try.prog.info? 158).map (·.size)=some 1:=by kernel_rfl
theorem Sz160:(Try.prog.info? 160).map (·.size)=some 1:=by kernel_rfl
theorem Sz161:(Try.prog.info? 161).map (·.size)=some 1:=by kernel_rfl
theorem Fd25_0:(Try.prog.underlying 25).bind (fun d=>match d with | .struct fs=>(fs[0]?).map (fun f=>(f.offset,f.type)) | _=>none)=some (0,3):=by rw [Try.underlying25]; rfl
theorem Fd25_1:(Try.prog.underlying 25).bind (fun d=>match d with | .struct fs=>(fs[1]?).map (fun f=>(f.offset,f.type)) | _=>none)=some (1,23):=by rw [Try.underlying25]; rfl
theorem Fd35_0:(Try.prog.underlying 35).bind (fun d=>match d with | .struct fs=>(fs[0]?).map (fun f=>(f.offset,f.type)) | _=>none)=some (0,3):=by rw [Try.underlying35]; rfl
theorem Fd35_1:(Try.prog.underlying 35).bind (fun d=>match d with | .struct fs=>(fs[1]?).map (fun f=>(f.offset,f.type)) | _=>none)=some (1,3):=by rw [Try.underlying35]; rfl
theorem Fd35_2:(Try.prog.underlying 35).bind (fun d=>match d with | .struct fs=>(fs[2]?).map (fun f=>(f.offset,f.type)) | _=>none)=some (2,3):=by rw [Try.underlying35]; rfl
theorem Fd35_3:(Try.prog.underlying 35).bind (fun d=>match d with | .struct fs=>(fs[3]?).map (fun f=>(f.offset,f.type)) | _=>none)=some (3,3):=by rw [Try.underlying35]; rfl
theorem Fd35_4:(Try.prog.underlying 35).bind (fun d=>match d with | .struct fs=>(fs[4]?).map (fun f=>(f.offset,f.type)) | _=>none)=some (4,3):=by rw [Try.underlying35]; rfl
theorem Fd37_0:(Try.prog.underlying 37).bind (fun d=>match d with | .struct fs=>(fs[0]?).map (fun f=>(f.offset,f.type)) | _=>none)=some (0,26):=by rw [Try.underlying37]; rfl
theorem Fd37_1:(Try.prog.underlying 37).bind (fun d=>match d with | .struct fs=>(fs[1]?).map (fun f=>(f.offset,f.type)) | _=>none)=some (1,3):=by rw [Try.underlying37]; rfl
theorem Fd37_2:(Try.prog.underlying 37).bind (fun d=>match d with | .struct fs=>(fs[2]?).map (fun f=>(f.offset,f.type)) | _=>none)=some (2,3):=by rw [Try.underlying37]; rfl
theorem Fd39_0:(Try.prog.underlying 39).bind (fun d=>match d with | .struct fs=>(fs[0]?).map (fun f=>(f.offset,f.type)) | _=>none)=some (0,3):=by rw [Try.underlying39]; rfl
theorem Fd39_1:(Try.prog.underlying 39).bind (fun d=>match d with | .struct fs=>(fs[1]?).map (fun f=>(f.offset,f.type)) | _=>none)=some (1,3):=by rw [Try.underlying39]; rfl
theorem Fd39_2:(Try.prog.underlying 39).bind (fun d=>match d with | .struct fs=>(fs[2]?).map (fun f=>(f.offset,f.type)) | _=>none)=some (2,3):=by rw [Try.underlying39]; rfl
theorem Fd44_0:(Try.prog.underlying 44).bind (fun d=>match d with | .struct fs=>(fs[0]?).map (fun f=>(f.offset,f.type)) | _=>none)=some (0,3):=by rw [Try.underlying44]; rfl
theorem Fd44_1:(Try.prog.underlying 44).bind (fun d=>match d with | .struct fs=>(fs[1]?).map (fun f=>(f.offset,f.type)) | _=>none)=some (1,3):=by rw [Try.underlying44]; rfl
theorem Fd61_0:(Try.prog.underlying 61).bind (fun d=>match d with | .struct fs=>(fs[0]?).map (fun f=>(f.offset,f.type)) | _=>none)=some (0,22):=by rw [Try.underlying61]; rfl
theorem Fd61_1:(Try.prog.underlying 61).bind (fun d=>match d with | .struct fs=>(fs[1]?).map (fun f=>(f.offset,f.type)) | _=>none)=some (1,3):=by rw [Try.underlying61]; rfl
theorem Fd61_2:(Try.prog.underlying 61).bind (fun d=>match d with | .struct fs=>(fs[2]?).map (fun f=>(f.offset,f.type)) | _=>none)=some (2,3):=by rw [Try.underlying61]; rfl
theorem Fd86_0:(Try.prog.underlying 86).bind (fun d=>match d with | .struct fs=>(fs[0]?).map (fun f=>(f.offset,f.type)) | _=>none)=some (0,3):=by rw [Try.underlying86]; rfl
theorem Fd86_1:(Try.prog.underlying 86).bind (fun d=>match d with | .struct fs=>(fs[1]?).map (fun f=>(f.offset,f.type)) | _=>none)=some (1,4):=by rw [Try.underlying86]; rfl
theorem Fd90_0:(Try.prog.underlying 90).bind (fun d=>match d with | .struct fs=>(fs[0]?).map (fun f=>(f.offset,f.type)) | _=>none)=some (0,25):=by rw [Try.underlying90]; rfl
theorem Fd90_1:(Try.prog.underlying 90).bind (fun d=>match d with | .struct fs=>(fs[1]?).map (fun f=>(f.offset,f.type)) | _=>none)=some (2,84):=by rw [Try.underlying90]; rfl
theorem Fd90_2:(Try.prog.underlying 90).bind (fun d=>match d with | .struct fs=>(fs[2]?).map (fun f=>(f.offset,f.type)) | _=>none)=some (171,88):=by rw [Try.underlying90]; rfl
theorem Fd100_0:(Try.prog.underlying 100).bind (fun d=>match d with | .struct fs=>(fs[0]?).map (fun f=>(f.offset,f.type)) | _=>none)=some (0,31):=by rw [Try.underlying100]; rfl
theorem Fd102_0:(Try.prog.underlying 102).bind (fun d=>match d with | .struct fs=>(fs[0]?).map (fun f=>(f.offset,f.type)) | _=>none)=some (0,100):=by rw [Try.underlying102]; rfl
theorem Fd126_0:(Try.prog.underlying 126).bind (fun d=>match d with | .struct fs=>(fs[0]?).map (fun f=>(f.offset,f.type)) | _=>none)=some (0,62):=by rw [Try.underlying126]; rfl
theorem Fd126_1:(Try.prog.underlying 126).bind (fun d=>match d with | .struct fs=>(fs[1]?).map (fun f=>(f.offset,f.type)) | _=>none)=some (1,26):=by rw [Try.underlying126]; rfl
theorem Fd126_2:(Try.prog.underlying 126).bind (fun d=>match d with | .struct fs=>(fs[2]?).map (fun f=>(f.offset,f.type)) | _=>none)=some (2,3):=by rw [Try.underlying126]; rfl
theorem Fd126_3:(Try.prog.underlying 126).bind (fun d=>match d with | .struct fs=>(fs[3]?).map (fun f=>(f.offset,f.type)) | _=>none)=some (3,123):=by rw [Try.underlying126]; rfl
theorem Fd126_4:(Try.prog.underlying 126).bind (fun d=>match d with | .struct fs=>(fs[4]?).map (fun f=>(f.offset,f.type)) | _=>none)=some (4,124):=by rw [Try.underlying126]; rfl
theorem Fd158_0:(Try.prog.underlying 158).bind (fun d=>match d with | .struct fs=>(fs[0]?).map (fun f=>(f.offset,f.type)) | _=>none)=some (0,156):=by rw [Try.underlying158]; rfl
theorem Al3:(Try.prog.info? 3).map (·.zero)=some (some (I 0)):=by kernel_rfl
theorem Al4:(Try.prog.info? 4).map (·.zero)=some (some (B false)):=by kernel_rfl
theorem Al25:(Try.prog.info? 25).map (·.zero)=some (some (.agg #[I 0,.slice none 0 0])):=by kernel_rfl
theorem Al26:(Try.prog.info? 26).map (·.zero)=some (some (.slice none 0 0)):=by kernel_rfl
theorem Al35:(Try.prog.info? 35).map (·.zero)=some (some (.agg #[I 0,I 0,I 0,I 0,I 0])):=by kernel_rfl
theorem Al37:(Try.prog.info? 37).map (·.zero)=some (some (.agg #[.slice none 0 0,I 0,I 0])):=by kernel_rfl
theorem Al39:(Try.prog.info? 39).map (·.zero)=some (some (.agg #[I 0,I 0,I 0])):=by kernel_rfl
theorem Al40:(Try.prog.info? 40).map (·.zero)=some (some (I 0)):=by kernel_rfl
theorem Al44:(Try.prog.info? 44).map (·.zero)=some (some (.agg #[I 0,I 0])):=by kernel_rfl
theorem Al52:(Try.prog.info? 52).map (·.zero)=some (some (.agg #[I 0,I 0])):=by kernel_rfl
theorem Al61:(Try.prog.info? 61).map (·.zero)=some (some (.agg #[.slice none 0 0,I 0,I 0])):=by kernel_rfl
theorem Al62:(Try.prog.info? 62).map (·.zero)=some (some (.pointer none)):=by kernel_rfl
theorem Al72:(Try.prog.info? 72).map (·.zero)=some (some (.nilFunc)):=by kernel_rfl
theorem Al73:(Try.prog.info? 73).map (·.zero)=some (some (.agg #[B false,B false,B false,B false,B false,B false,B false,B false,B false,B false,B false,B false,B false,B false,B false,B false,B false,B false,B false,B false,B false,B false,B false,B false,B false,B false,B false,B false,B false,B false])):=by kernel_rfl
theorem Al86:(Try.prog.info? 86).map (·.zero)=some (some (.agg #[I 0,B false])):=by kernel_rfl
theorem Al100:(Try.prog.info? 100).map (·.zero)=some (some (.agg #[.slice none 0 0])):=by kernel_rfl
theorem Al102:(Try.prog.info? 102).map (·.zero)=some (some (.agg #[.slice none 0 0])):=by kernel_rfl
theorem Al120:(Try.prog.info? 120).map (·.zero)=some (some (.pointer none)):=by kernel_rfl
theorem Al126:(Try.prog.info? 126).map (·.zero)=some (some (.agg #[.pointer none,.slice none 0 0,I 0,.map none,.map none])):=by kernel_rfl
theorem Al128:(Try.prog.info? 128).map (·.zero)=some (some (.agg #[I 0,I 0])):=by kernel_rfl
theorem Al129:(Try.prog.info? 129).map (·.zero)=some (some (.nilFunc)):=by kernel_rfl
theorem Al158:(Try.prog.info? 158).map (·.zero)=some (some (.agg #[.nilFunc])):=by kernel_rfl
theorem Al160:(Try.prog.info? 160).map (·.zero)=some (some (.pointer none)):=by kernel_rfl
theorem Al161:(Try.prog.info? 161).map (·.zero)=some (some (.pointer none)):=by kernel_rfl
theorem Bd25 {fs:Array Field} (h:Try.prog.underlying 25=some (.struct fs)):fs.toList.mapM (fun f=>(Try.prog.info? f.type).map fun i=>(f.offset,i.size))=some [(0,1),(1,1)]:=by rw [Try.underlying25] at h; simp only [Option.some.injEq,TypeDesc.struct.injEq] at h; subst h; kernel_rfl
theorem Bd35 {fs:Array Field} (h:Try.prog.underlying 35=some (.struct fs)):fs.toList.mapM (fun f=>(Try.prog.info? f.type).map fun i=>(f.offset,i.size))=some [(0,1),(1,1),(2,1),(3,1),(4,1)]:=by rw [Try.underlying35] at h; simp only [Option.some.injEq,TypeDesc.struct.injEq] at h; subst h; kernel_rfl
theorem Bd37 {fs:Array Field} (h:Try.prog.underlying 37=some (.struct fs)):fs.toList.mapM (fun f=>(Try.prog.info? f.type).map fun i=>(f.offset,i.size))=some [(0,1),(1,1),(2,1)]:=by rw [Try.underlying37] at h; simp only [Option.some.injEq,TypeDesc.struct.injEq] at h; subst h; kernel_rfl
theorem Bd39 {fs:Array Field} (h:Try.prog.underlying 39=some (.struct fs)):fs.toList.mapM (fun f=>(Try.prog.info? f.type).map fun i=>(f.offset,i.size))=some [(0,1),(1,1),(2,1)]:=by rw [Try.underlying39] at h; simp only [Option.some.injEq,TypeDesc.struct.injEq] at h; subst h; kernel_rfl
theorem Bd44 {fs:Array Field} (h:Try.prog.underlying 44=some (.struct fs)):fs.toList.mapM (fun f=>(Try.prog.info? f.type).map fun i=>(f.offset,i.size))=some [(0,1),(1,1)]:=by rw [Try.underlying44] at h; simp only [Option.some.injEq,TypeDesc.struct.injEq] at h; subst h; kernel_rfl
theorem Bd52 {fs:Array Field} (h:Try.prog.underlying 52=some (.struct fs)):fs.toList.mapM (fun f=>(Try.prog.info? f.type).map fun i=>(f.offset,i.size))=some [(0,1),(1,1)]:=by rw [Try.underlying52] at h; simp only [Option.some.injEq,TypeDesc.struct.injEq] at h; subst h; kernel_rfl
theorem Bd61 {fs:Array Field} (h:Try.prog.underlying 61=some (.struct fs)):fs.toList.mapM (fun f=>(Try.prog.info? f.type).map fun i=>(f.offset,i.size))=some [(0,1),(1,1),(2,1)]:=by rw [Try.underlying61] at h; simp only [Option.some.injEq,TypeDesc.struct.injEq] at h; subst h; kernel_rfl
theorem Bd86 {fs:Array Field} (h:Try.prog.underlying 86=some (.struct fs)):fs.toList.mapM (fun f=>(Try.prog.info? f.type).map fun i=>(f.offset,i.size))=some [(0,1),(1,1)]:=by rw [Try.underlying86] at h; simp only [Option.some.injEq,TypeDesc.struct.injEq] at h; subst h; kernel_rfl
theorem Bd90 {fs:Array Field} (h:Try.prog.underlying 90=some (.struct fs)):fs.toList.mapM (fun f=>(Try.prog.info? f.type).map fun i=>(f.offset,i.size))=some [(0,2),(2,169),(171,338)]:=by rw [Try.underlying90] at h; simp only [Option.some.injEq,TypeDesc.struct.injEq] at h; subst h; kernel_rfl
theorem Bd100 {fs:Array Field} (h:Try.prog.underlying 100=some (.struct fs)):fs.toList.mapM (fun f=>(Try.prog.info? f.type).map fun i=>(f.offset,i.size))=some [(0,1)]:=by rw [Try.underlying100] at h; simp only [Option.some.injEq,TypeDesc.struct.injEq] at h; subst h; kernel_rfl
theorem Bd102 {fs:Array Field} (h:Try.prog.underlying 102=some (.struct fs)):fs.toList.mapM (fun f=>(Try.prog.info? f.type).map fun i=>(f.offset,i.size))=some [(0,1)]:=by rw [Try.underlying102] at h; simp only [Option.some.injEq,TypeDesc.struct.injEq] at h; subst h; kernel_rfl
theorem Bd126 {fs:Array Field} (h:Try.prog.underlying 126=some (.struct fs)):fs.toList.mapM (fun f=>(Try.prog.info? f.type).map fun i=>(f.offset,i.size))=some [(0,1),(1,1),(2,1),(3,1),(4,1)]:=by rw [Try.underlying126] at h; simp only [Option.some.injEq,TypeDesc.struct.injEq] at h; subst h; kernel_rfl
theorem Bd128 {fs:Array Field} (h:Try.prog.underlying 128=some (.struct fs)):fs.toList.mapM (fun f=>(Try.prog.info? f.type).map fun i=>(f.offset,i.size))=some [(0,1),(1,1)]:=by rw [Try.underlying128] at h; simp only [Option.some.injEq,TypeDesc.struct.injEq] at h; subst h; kernel_rfl
theorem Bd158 {fs:Array Field} (h:Try.prog.underlying 158=some (.struct fs)):fs.toList.mapM (fun f=>(Try.prog.info? f.type).map fun i=>(f.offset,i.size))=some [(0,1)]:=by rw [Try.underlying158] at h; simp only [Option.some.injEq,TypeDesc.struct.injEq] at h; subst h; kernel_rfl
theorem mixed:Try.prog.follows .mixedOrders=true:=by kernel_rfl
theorem Al90:(Try.prog.info? 90).map (·.zero)=some (some (.agg (List.flatten [[I 0,.slice none 0 0],encF (α:=Int) (List.replicate 169 0),encF (α:=Leg) (List.replicate 169 default)]).toArray)):=by kernel_rfl

instance:TlC Try.prog 22 5 1 1 (.int .u8 0):=⟨T22⟩
instance:TlC Try.prog 23 35 5 40 (.agg #[I 0,I 0,I 0,I 0,I 0]):=⟨T23⟩
instance:TlC Try.prog 26 3 1 8 (I 0):=⟨T26⟩
instance:TlC Try.prog 31 37 3 40 (.agg #[.slice none 0 0,I 0,I 0]):=⟨T31⟩
instance:TlC Try.prog 32 39 3 24 (.agg #[I 0,I 0,I 0]):=⟨T32⟩
instance:TlC Try.prog 45 44 2 16 (.agg #[I 0,I 0]):=⟨T45⟩
instance:TlC Try.prog 95 26 1 24 (.slice none 0 0):=⟨T95⟩
instance:TlC Try.prog 155 86 2 16 (.agg #[I 0,B false]):=⟨T155⟩
instance:ScC Try.prog 3:=⟨Sc3⟩
instance:ScC Try.prog 4:=⟨Sc4⟩
instance:ScC Try.prog 5:=⟨Sc5⟩
instance:ScC Try.prog 22:=⟨Sc22⟩
instance:ScC Try.prog 23:=⟨Sc23⟩
instance:ScC Try.prog 26:=⟨Sc26⟩
instance:ScC Try.prog 31:=⟨Sc31⟩
instance:ScC Try.prog 40:=⟨Sc40⟩
instance:ScC Try.prog 62:=⟨Sc62⟩
instance:ScC Try.prog 67:=⟨Sc67⟩
instance:ScC Try.prog 72:=⟨Sc72⟩
instance:ScC Try.prog 77:=⟨Sc77⟩
instance:ScC Try.prog 79:=⟨Sc79⟩
instance:ScC Try.prog 120:=⟨Sc120⟩
instance:ScC Try.prog 123:=⟨Sc123⟩
instance:ScC Try.prog 124:=⟨Sc124⟩
instance:ScC Try.prog 129:=⟨Sc129⟩
instance:ScC Try.prog 131:=⟨Sc131⟩
instance:ScC Try.prog 141:=⟨Sc141⟩
instance:ScC Try.prog 156:=⟨Sc156⟩
instance:ScC Try.prog 160:=⟨Sc160⟩
instance:ScC Try.prog 161:=⟨Sc161⟩
instance:SzC Try.prog 3 1:=⟨Sz3⟩
instance:SzC Try.prog 4 1:=⟨Sz4⟩
instance:SzC Try.prog 22 1:=⟨Sz22⟩
instance:SzC Try.prog 23 1:=⟨Sz23⟩
instance:AgC Try.prog 25:=⟨Ag25⟩
instance:SzC Try.prog 25 2:=⟨Sz25⟩
instance:SzC Try.prog 26 1:=⟨Sz26⟩
instance:SzC Try.prog 31 1:=⟨Sz31⟩
instance:AgC Try.prog 35:=⟨Ag35⟩
instance:SzC Try.prog 35 5:=⟨Sz35⟩
instance:AgC Try.prog 37:=⟨Ag37⟩
instance:SzC Try.prog 37 3:=⟨Sz37⟩
instance:AgC Try.prog 39:=⟨Ag39⟩
instance:SzC Try.prog 39 3:=⟨Sz39⟩
instance:SzC Try.prog 40 1:=⟨Sz40⟩
instance:AgC Try.prog 44:=⟨Ag44⟩
instance:SzC Try.prog 44 2:=⟨Sz44⟩
instance:AgC Try.prog 52:=⟨Ag52⟩
instance:SzC Try.prog 52 2:=⟨Sz52⟩
instance:SzC Try.prog 62 1:=⟨Sz62⟩
instance:SzC Try.prog 72 1:=⟨Sz72⟩
instance:AgC Try.prog 73:=⟨Ag73⟩
instance:SzC Try.prog 73 30:=⟨Sz73⟩
instance:AgC Try.prog 82:=⟨Ag82⟩
instance:SzC Try.prog 82 13:=⟨Sz82⟩
instance:AgC Try.prog 84:=⟨Ag84⟩
instance:SzC Try.prog 84 169:=⟨Sz84⟩
instance:AgC Try.prog 86:=⟨Ag86⟩
instance:SzC Try.prog 86 2:=⟨Sz86⟩
instance:AgC Try.prog 87:=⟨Ag87⟩
instance:SzC Try.prog 87 26:=⟨Sz87⟩
instance:AgC Try.prog 88:=⟨Ag88⟩
instance:SzC Try.prog 88 338:=⟨Sz88⟩
instance:AgC Try.prog 100:=⟨Ag100⟩
instance:SzC Try.prog 100 1:=⟨Sz100⟩
instance:SzC Try.prog 120 1:=⟨Sz120⟩
instance:SzC Try.prog 123 1:=⟨Sz123⟩
instance:SzC Try.prog 124 1:=⟨Sz124⟩
instance:SzC Try.prog 129 1:=⟨Sz129⟩
instance:AgC Try.prog 158:=⟨Ag158⟩
instance:SzC Try.prog 158 1:=⟨Sz158⟩
instance:SzC Try.prog 160 1:=⟨Sz160⟩
instance:SzC Try.prog 161 1:=⟨Sz161⟩
instance:FdC Try.prog 25 0 0 3:=⟨Fd25_0⟩
instance:FdC Try.prog 25 1 1 23:=⟨Fd25_1⟩
instance:FdC Try.prog 35 0 0 3:=⟨Fd35_0⟩
instance:FdC Try.prog 35 1 1 3:=⟨Fd35_1⟩
instance:FdC Try.prog 35 2 2 3:=⟨Fd35_2⟩
instance:FdC Try.prog 35 3 3 3:=⟨Fd35_3⟩
instance:FdC Try.prog 35 4 4 3:=⟨Fd35_4⟩
instance:FdC Try.prog 37 0 0 26:=⟨Fd37_0⟩
instance:FdC Try.prog 37 1 1 3:=⟨Fd37_1⟩
instance:FdC Try.prog 37 2 2 3:=⟨Fd37_2⟩
instance:FdC Try.prog 39 0 0 3:=⟨Fd39_0⟩
instance:FdC Try.prog 39 1 1 3:=⟨Fd39_1⟩
instance:FdC Try.prog 39 2 2 3:=⟨Fd39_2⟩
instance:FdC Try.prog 44 0 0 3:=⟨Fd44_0⟩
instance:FdC Try.prog 44 1 1 3:=⟨Fd44_1⟩
instance:FdC Try.prog 61 0 0 22:=⟨Fd61_0⟩
instance:FdC Try.prog 61 1 1 3:=⟨Fd61_1⟩
instance:FdC Try.prog 61 2 2 3:=⟨Fd61_2⟩
instance:FdC Try.prog 86 0 0 3:=⟨Fd86_0⟩
instance:FdC Try.prog 86 1 1 4:=⟨Fd86_1⟩
instance:FdC Try.prog 90 0 0 25:=⟨Fd90_0⟩
instance:FdC Try.prog 90 1 2 84:=⟨Fd90_1⟩
instance:FdC Try.prog 90 2 171 88:=⟨Fd90_2⟩
instance:FdC Try.prog 100 0 0 31:=⟨Fd100_0⟩
instance:FdC Try.prog 102 0 0 100:=⟨Fd102_0⟩
instance:FdC Try.prog 126 0 0 62:=⟨Fd126_0⟩
instance:FdC Try.prog 126 1 1 26:=⟨Fd126_1⟩
instance:FdC Try.prog 126 2 2 3:=⟨Fd126_2⟩
instance:FdC Try.prog 126 3 3 123:=⟨Fd126_3⟩
instance:FdC Try.prog 126 4 4 124:=⟨Fd126_4⟩
instance:FdC Try.prog 158 0 0 156:=⟨Fd158_0⟩
instance:AlC Try.prog 3 (I 0):=⟨Al3⟩
instance:AlC Try.prog 4 (B false):=⟨Al4⟩
instance:AlC Try.prog 25 (.agg #[I 0,.slice none 0 0]):=⟨Al25⟩
instance:AlC Try.prog 26 (.slice none 0 0):=⟨Al26⟩
instance:AlC Try.prog 35 (.agg #[I 0,I 0,I 0,I 0,I 0]):=⟨Al35⟩
instance:AlC Try.prog 37 (.agg #[.slice none 0 0,I 0,I 0]):=⟨Al37⟩
instance:AlC Try.prog 39 (.agg #[I 0,I 0,I 0]):=⟨Al39⟩
instance:AlC Try.prog 40 (I 0):=⟨Al40⟩
instance:AlC Try.prog 44 (.agg #[I 0,I 0]):=⟨Al44⟩
instance:AlC Try.prog 52 (.agg #[I 0,I 0]):=⟨Al52⟩
instance:AlC Try.prog 61 (.agg #[.slice none 0 0,I 0,I 0]):=⟨Al61⟩
instance:AlC Try.prog 62 (.pointer none):=⟨Al62⟩
instance:AlC Try.prog 72 (.nilFunc):=⟨Al72⟩
instance:AlC Try.prog 73 (.agg #[B false,B false,B false,B false,B false,B false,B false,B false,B false,B false,B false,B false,B false,B false,B false,B false,B false,B false,B false,B false,B false,B false,B false,B false,B false,B false,B false,B false,B false,B false]):=⟨Al73⟩
instance:AlC Try.prog 86 (.agg #[I 0,B false]):=⟨Al86⟩
instance:AlC Try.prog 100 (.agg #[.slice none 0 0]):=⟨Al100⟩
instance:AlC Try.prog 102 (.agg #[.slice none 0 0]):=⟨Al102⟩
instance:AlC Try.prog 120 (.pointer none):=⟨Al120⟩
instance:AlC Try.prog 126 (.agg #[.pointer none,.slice none 0 0,I 0,.map none,.map none]):=⟨Al126⟩
instance:AlC Try.prog 128 (.agg #[I 0,I 0]):=⟨Al128⟩
instance:AlC Try.prog 129 (.nilFunc):=⟨Al129⟩
instance:AlC Try.prog 158 (.agg #[.nilFunc]):=⟨Al158⟩
instance:AlC Try.prog 160 (.pointer none):=⟨Al160⟩
instance:AlC Try.prog 161 (.pointer none):=⟨Al161⟩
instance:BdC Try.prog 25 [(0,1),(1,1)]:=⟨_,Try.underlying25,Bd25 Try.underlying25⟩
instance:BdC Try.prog 35 [(0,1),(1,1),(2,1),(3,1),(4,1)]:=⟨_,Try.underlying35,Bd35 Try.underlying35⟩
instance:BdC Try.prog 37 [(0,1),(1,1),(2,1)]:=⟨_,Try.underlying37,Bd37 Try.underlying37⟩
instance:BdC Try.prog 39 [(0,1),(1,1),(2,1)]:=⟨_,Try.underlying39,Bd39 Try.underlying39⟩
instance:BdC Try.prog 44 [(0,1),(1,1)]:=⟨_,Try.underlying44,Bd44 Try.underlying44⟩
instance:BdC Try.prog 52 [(0,1),(1,1)]:=⟨_,Try.underlying52,Bd52 Try.underlying52⟩
instance:BdC Try.prog 61 [(0,1),(1,1),(2,1)]:=⟨_,Try.underlying61,Bd61 Try.underlying61⟩
instance:BdC Try.prog 86 [(0,1),(1,1)]:=⟨_,Try.underlying86,Bd86 Try.underlying86⟩
instance:BdC Try.prog 90 [(0,2),(2,169),(171,338)]:=⟨_,Try.underlying90,Bd90 Try.underlying90⟩
instance:BdC Try.prog 100 [(0,1)]:=⟨_,Try.underlying100,Bd100 Try.underlying100⟩
instance:BdC Try.prog 102 [(0,1)]:=⟨_,Try.underlying102,Bd102 Try.underlying102⟩
instance:BdC Try.prog 126 [(0,1),(1,1),(2,1),(3,1),(4,1)]:=⟨_,Try.underlying126,Bd126 Try.underlying126⟩
instance:BdC Try.prog 128 [(0,1),(1,1)]:=⟨_,Try.underlying128,Bd128 Try.underlying128⟩
instance:BdC Try.prog 158 [(0,1)]:=⟨_,Try.underlying158,Bd158 Try.underlying158⟩
instance:AlC Try.prog 90 (.agg (List.flatten [[I 0,.slice none 0 0],encF (α:=Int) (List.replicate 169 0),encF (α:=Leg) (List.replicate 169 default)]).toArray):=⟨Al90⟩
end Go.Proofs.Ytigidakpcepdkaa
section
set_option maxRecDepth 100000
set_option maxHeartbeats 16000000
namespace Go.Proofs.Ytigidakpcepdkaa
open Go Go.Nm
attribute [local irreducible] gd execOp SL SLD SLT WR
def zai (n aa greatest:Int):M Bool :=
  M.pure ((decide (aa<=n))&&(decide (n<=greatest)))
theorem zaq {R:List Chunk}  (n:Int) (aa:Int) (greatest:Int)  {r:Bool} (hM:(zai n aa greatest).Ends r) (w:World) (H:St w w [] R):Ret Try.prog 49 #[I n,I aa,I greatest] w fun v w'=>∃ (y0:Bool),y0=r/\v=B y0/\St w w' [] R:=by
 refine ret_of_W Try.func49 rfl rfl rfl ?_;refine kg 13 ?_;refine s_val (x_pand (b:=decide (aa<=n)) (r:=decide (n<=greatest)) rfl (fun hb=>gd_of (c:=decide (aa<=n)) (by first | exact hb | (rw [hb]; rfl) | simp_all) (B (decide (n<=greatest)))) rfl) ?_;refine kg 2 ?_;refine W.ret ?_
 have ab:=M.e_pure hM
 exact ⟨_,resE_tmp rfl,⟨((decide (aa<=n))&&(decide (n<=greatest))),ab,rfl,H⟩⟩

def zaL (s:List Line) (f:Line->M Bool):Nat->M (Nat ⊕ (Int ⊕ Unit)):=fun s2 =>
  bif decide ((s2:Int)<(s.length:Int)) then (
  M.grd (decide ((s2:Int)<(s.length:Int))) <|
  M.bind (f (s.getD s2 default)) fun r2 =>
  bif r2 then (
  M.pure (.inr (.inl (s2:Int))))
  else (
  M.pure (.inl (s2+1))))
  else (
  M.pure (.inr (.inr ())))
def zbw (s:List Line) (f:Line->M Bool):M Int :=
  M.bind (M.iter (zaL s f) 0) fun x_=>match x_ with
  | (.inl s3)=>(
  M.pure s3)
  | (.inr (_:Unit))=>(
  M.pure (-1))
theorem zdG {R:List Chunk} {aj:Cells} {ab:Value} {ac:Value} (s:List Line) (f:Line->M Bool) (aB:Reads R aj) (ap:Sl aj ab s) (aq:FnM Try.prog R ac f) {r:Int} (hM:(zbw s f).Ends r) (w:World) (H:St w w [] R):Ret Try.prog 91 #[ab,ac] w fun v w'=>∃ (y0:Int),y0=r/\v=I y0/\St w w' [] R:=by
 refine ret_of_W Try.func91 rfl rfl rfl ?_
 have aC:=(ap).len_le
 refine kg 12 ?_;obtain ⟨au,ae,am⟩:=M.e_bind hM
 obtain ⟨aD,ae⟩:=M.e_iter ae
 refine W.loop (fun m σ W=>∃ (s2:Nat) (ρ:Env),σ=upds ρ [(0,ab),(1,ac),(7,I (s.length:Int)),(8,I (s2:Int))]/\M.iterN (zaL s f) m s2=some au/\St w W [] R) ?_ ?_
 ·exact ⟨_,0,_,upds_of _ _ ⟨rfl,rfl,rfl,rfl,trivial⟩,ae,H⟩
 rintro aE σ aF ⟨s2,ρ,rfl,ao,H⟩
 obtain ⟨av,aw,aG,hM,ag⟩:=M.e_iterN ao
 simp only [zaL] at hM
 clear ao;refine kg 5 ?_
 refine W.cond (decide ((s2:Int)<(s.length:Int))) rfl (fun aa=>?_) (fun aa=>?_)
 ·replace hM:=M.e_t hM aa
  replace aa:=dI aa
  obtain ⟨aH,hM⟩:=M.e_gd hM;refine kg 15 ?_;obtain ⟨r2,ax,hM⟩:=M.e_bind hM;refine t_callM H aq rfl rfl (s.getD s2 default) Reads.none ⟨_,rfl,rfl⟩ ax ?_;intro aI H;refine s_nil ?_
  refine W.cond r2 rfl (fun ah=>?_) (fun ah=>?_)
  ·replace hM:=M.e_t hM ah;refine kg 5 ?_;refine W.ret ?_
   have ay:=M.e_inr hM ag
   subst ay;replace hM:=am;(try dsimp only at hM)
   have ai:=M.e_pure hM
   exact ⟨_,resE_tmp rfl,⟨(s2:Int),ai,rfl,H⟩⟩
  replace hM:=M.e_f hM ah;refine kg 5 ?_
  exact ⟨av,aw,s2+1,_,upds_of _ _ ⟨rfl,rfl,rfl,rfl,trivial⟩,M.e_inl hM ag,H⟩
 replace hM:=M.e_f hM aa
 replace aa:=dI aa
 refine W.exit ?_
 have az:=M.e_inr hM ag
 subst az;replace hM:=am;(try dsimp only at hM);refine kg 4 ?_;refine W.ret ?_
 have ai:=M.e_pure hM
 exact ⟨_,resE_tmp rfl,⟨(-1),ai,rfl,H⟩⟩

def zbX (s:List Line) (f:Line->M Bool):M Bool :=
  M.bind (zbw s f) fun r2 =>
  M.pure (decide (0<=r2))
theorem zd1 {R:List Chunk} {ac:Cells} {aa:Value} {ab:Value} (s:List Line) (f:Line->M Bool) (ag:Reads R ac) (ah:Sl ac aa s) (ai:FnM Try.prog R ab f) {r:Bool} (hM:(zbX s f).Ends r) (w:World) (H:St w w [] R):Ret Try.prog 84 #[aa,ab] w fun v w'=>∃ (y0:Bool),y0=r/\v=B y0/\St w w' [] R:=by
 refine ret_of_W Try.func84 rfl rfl rfl ?_;refine kg 8 ?_;obtain ⟨ao,aj,hM⟩:=M.e_bind hM;refine s_call cf91 [aa,ab] rfl (zdG s f (ag.app _) ah (ai.app _) aj _ (H.gt 0)) ?_
 rintro vq ap ⟨r2,rfl,hvq,ae⟩
 subst vq;(try dsimp only at hM);replace H:=H.bk ae;clear ae;refine kg 3 ?_;refine W.ret ?_
 have am:=M.e_pure hM
 exact ⟨_,resE_tmp rfl,⟨(decide (0<=r2)),am,rfl,H⟩⟩

def zbd (x:Line) (aa:Line->M Bool):M Bool :=
  M.bind (aa x) fun r2 =>
  M.pure (!r2)
theorem zed {R:List Chunk} {aa:Nat} {ab:Value} (x:Line) (ac:Line->M Bool) (ae:FnM Try.prog R ab ac) (ai:Has R (cBlk aa [ab] 141)) {r:Bool} (hM:(zbd x ac).Ends r) (w:World) (H:St w w [] R):Ret Try.prog 85 #[.agg #[I x.src,I x.dst,I x.day,I x.rise,I x.err],Pq aa] w fun v w'=>∃ (y0:Bool),y0=r/\v=B y0/\St w w' [] R:=by
 refine ret_of_W Try.func85 rfl rfl rfl ?_;refine kg 2 ?_;refine t_bx [I x.src,I x.dst,I x.day,I x.rise,I x.err] H rfl ?_;intro aj am H;refine kg 6 ?_;obtain ⟨r2,ag,hM⟩:=M.e_bind hM;refine t_callM H ae rfl rfl x Reads.none ⟨_,rfl,rfl⟩ ag ?_;intro ao H;refine kg 3 ?_;refine W.ret ?_
 have ah:=M.e_pure hM
 exact ⟨_,resE_tmp rfl,⟨(!r2),ah,rfl,(H.pk [])⟩⟩

def zbs (l:List Line) (so:Line->M Bool):M Bool :=
  M.bind (zbX l (fun aa=>zbd aa so)) fun r2 =>
  M.pure (!r2)
theorem zdW {R:List Chunk} {ag:Cells} {ab:Value} {aa:Value} (l:List Line) (so:Line->M Bool) (am:Reads R ag) (ao:Sl ag ab l) (ah:FnM Try.prog R aa so) {r:Bool} (hM:(zbs l so).Ends r) (w:World) (H:St w w [] R):Ret Try.prog 73 #[ab,aa] w fun v w'=>∃ (y0:Bool),y0=r/\v=B y0/\St w w' [] R:=by
 refine ret_of_W Try.func73 rfl rfl rfl ?_;refine kg 2 ?_;refine t_box (v:=aa) (cs:=[aa]) H rfl (FnM.cells ah) ?_;intro ac aC H;refine kg 5 ?_;refine s_val (x_mf (fs:=[]) (cs:=[Pq ac]) rfl rfl) ?_;obtain ⟨aD,ap,hM⟩:=M.e_bind hM;refine s_call cf84 [ab,.func (.func 85) #[] #[Pq ac]] rfl (zd1 l (fun ae=>zbd ae so) (am.app _) ao ⟨85,[Pq ac],rfl,cf85,fun ai aE aF aq ae aG au aH av aw=>by obtain rfl:=Line_arg av; exact (zed ae so (FnM.app (ah.app _) _) (Has.app (Has.here (k:=0) rfl) _) aw ai (St.refl au)).mono fun aq ai ⟨aI,ax,ay,az⟩=>by subst ax; exact ⟨ay,az⟩⟩ ap _ (H.gt 1)) ?_
 rintro vq aJ ⟨r2,rfl,hvq,aj⟩
 subst vq;(try dsimp only at hM);replace H:=H.bk aj;clear aj;refine kg 3 ?_;refine W.ret ?_
 have aB:=M.e_pure hM
 exact ⟨_,resE_tmp rfl,⟨(!r2),aB,rfl,(H.pk [])⟩⟩

def zbg (i aa:Int) (ab:List Line):M Bool :=
  M.grd (decide ((-9223372036854775808:Int)<=(aa-1))&&decide ((aa-1)<=(9223372036854775807:Int))) <|
  M.bind (zai i 0 (aa-1)) fun r2 =>
  M.pure r2
theorem zdk {R:List Chunk} {ab:Nat} {ac:Cells} {ae:Value} (i:Int) (aa:Int) (ag:List Line) (am:Reads R ac) (ao:Sl ac ae ag) (ap:Has R (cBlk ab [I aa,ae] 25)) {r:Bool} (hM:(zbg i aa ag).Ends r) (w:World) (H:St w w [] R):Ret Try.prog 72 #[I i,Pq ab] w fun v w'=>∃ (y0:Bool),y0=r/\v=B y0/\St w w' [] R:=by
 refine ret_of_W Try.func72 rfl rfl rfl ?_;obtain ⟨aq,hM⟩:=M.e_gd hM;refine kg 10 ?_;obtain ⟨au,ai,hM⟩:=M.e_bind hM;refine s_call cf49 [I i,I 0,I (aa-1)] rfl (zaq i 0 (aa-1) ai _ (H.gt 0)) ?_
 rintro vq av ⟨r2,rfl,hvq,ah⟩
 subst vq;(try dsimp only at hM);replace H:=H.bk ah;clear ah;refine kg 2 ?_;refine W.ret ?_
 have aj:=M.e_pure hM
 exact ⟨_,resE_tmp rfl,⟨r2,aj,rfl,H⟩⟩

def zbE (l:Line) (aa:Int) (ab:List Line):M Bool :=
  M.bind (zbg l.src aa ab) fun r2 =>
  M.bind (M.opt r2 (zbg l.dst aa ab) false) fun r3 =>
  M.bind (M.opt ((r2&&r3)&&(l.src != l.dst)) (zai l.day 0 40000) false) fun r4 =>
  M.bind (M.opt (((r2&&r3)&&(l.src != l.dst))&&r4) (zai l.rise (-1000000) 1000000) false) fun r5 =>
  M.bind (M.opt ((((r2&&r3)&&(l.src != l.dst))&&r4)&&r5) (zai l.err 0 10000) false) fun r6 =>
  M.pure (((((r2&&r3)&&(l.src != l.dst))&&r4)&&r5)&&r6)
theorem zd9 {R:List Chunk} {ah:Nat} {ac:Nat} {ai:Cells} {aj:Value} (l:Line) (ae:Int) (ag:List Line) (am:Reads R ai) (ao:Sl ai aj ag) (ap:Has R (cBlk ac [I ae,aj] 25)) (az:Has R (cBlk ah [.func (.func 72) #[] #[Pq ac]] 72)) {r:Bool} (hM:(zbE l ae ag).Ends r) (w:World) (H:St w w [] R):Ret Try.prog 74 #[.agg #[I l.src,I l.dst,I l.day,I l.rise,I l.err],Pq ah] w fun v w'=>∃ (y0:Bool),y0=r/\v=B y0/\St w w' [] R:=by
 refine ret_of_W Try.func74 rfl rfl rfl ?_;refine kg 2 ?_;refine t_bx [I l.src,I l.dst,I l.day,I l.rise,I l.err] H rfl ?_;intro aB aC H;refine kg 7 ?_;obtain ⟨aD,au,hM⟩:=M.e_bind hM;refine s_callv (f:=72) rfl cf72 [I l.src] rfl (zdk l.src ae ag (am.app _) ao (ap.app _) au _ (H.gt 1)) ?_
 rintro vq aE ⟨r2,rfl,hvq,aq⟩
 subst vq;(try dsimp only at hM);replace H:=H.bk aq;clear aq;refine kg 4 ?_;obtain ⟨r3,av,hM⟩:=M.e_bind hM;refine t_gcallv (cap:=[Pq ac]) r2 (gy_t rfl) cf72 (fun hg=>(gd_of hg (.func (.func 72) #[] #[Pq ac]))) (B r3) (fun _=>[I l.dst]) (fun hg=>lst1 (gd_of hg (I l.dst))) H (fun hg=>(zdk l.dst ae ag (am.app _) ao (ap.app _) (M.e_opt av hg) _ (H.give (A:=[]) rfl)).mono fun v_ w_ ⟨y_,aa,ab,H_⟩=>by subst aa; exact ⟨ab,H.via H_⟩) ?_;intro aF H;refine s_val (x_pand (b:=r2) (r:=r3) rfl (fun hb=>gd_of (c:=r2) (by first | exact hb | (rw [hb]; rfl) | simp_all) (B r3)) rfl) ?_;refine kg 6 ?_;refine s_val (x_pand (b:=(r2&&r3)) (r:=l.src != l.dst) rfl (fun hb=>gd_of (c:=(r2&&r3)) (by first | exact hb | (rw [hb]; rfl) | simp_all) (B (l.src != l.dst))) rfl) ?_;refine kg 3 ?_;obtain ⟨r4,aw,hM⟩:=M.e_bind hM;refine t_gcall ((r2&&r3)&&(l.src != l.dst)) (gy_t rfl) cf49 (B r4) (fun _=>[I l.day,I 0,I 40000]) (fun hg=>lst3 (gd_of hg (I l.day)) rfl rfl) H (fun hg=>(zaq l.day 0 40000 (M.e_opt aw hg) _ (H.give (A:=[]) rfl)).mono fun v_ w_ ⟨y_,aa,ab,H_⟩=>by subst aa; exact ⟨ab,H.via H_⟩) ?_;intro aG H;refine s_val (x_pand (b:=((r2&&r3)&&(l.src != l.dst))) (r:=r4) rfl (fun hb=>gd_of (c:=((r2&&r3)&&(l.src != l.dst))) (by first | exact hb | (rw [hb]; rfl) | simp_all) (B r4)) rfl) ?_;refine kg 3 ?_;obtain ⟨r5,ax,hM⟩:=M.e_bind hM;refine t_gcall (((r2&&r3)&&(l.src != l.dst))&&r4) (gy_t rfl) cf49 (B r5) (fun _=>[I l.rise,I (-1000000),I 1000000]) (fun hg=>lst3 (gd_of hg (I l.rise)) rfl rfl) H (fun hg=>(zaq l.rise (-1000000) 1000000 (M.e_opt ax hg) _ (H.give (A:=[]) rfl)).mono fun v_ w_ ⟨y_,aa,ab,H_⟩=>by subst aa; exact ⟨ab,H.via H_⟩) ?_;intro aH H;refine s_val (x_pand (b:=(((r2&&r3)&&(l.src != l.dst))&&r4)) (r:=r5) rfl (fun hb=>gd_of (c:=(((r2&&r3)&&(l.src != l.dst))&&r4)) (by first | exact hb | (rw [hb]; rfl) | simp_all) (B r5)) rfl) ?_;refine kg 3 ?_;obtain ⟨r6,ay,hM⟩:=M.e_bind hM;refine t_gcall ((((r2&&r3)&&(l.src != l.dst))&&r4)&&r5) (gy_t rfl) cf49 (B r6) (fun _=>[I l.err,I 0,I 10000]) (fun hg=>lst3 (gd_of hg (I l.err)) rfl rfl) H (fun hg=>(zaq l.err 0 10000 (M.e_opt ay hg) _ (H.give (A:=[]) rfl)).mono fun v_ w_ ⟨y_,aa,ab,H_⟩=>by subst aa; exact ⟨ab,H.via H_⟩) ?_;intro aI H;refine s_val (x_pand (b:=((((r2&&r3)&&(l.src != l.dst))&&r4)&&r5)) (r:=r6) rfl (fun hb=>gd_of (c:=((((r2&&r3)&&(l.src != l.dst))&&r4)&&r5)) (by first | exact hb | (rw [hb]; rfl) | simp_all) (B r6)) rfl) ?_;refine kg 2 ?_;refine W.ret ?_
 have aa:=M.e_pure hM
 exact ⟨_,resE_tmp rfl,⟨(((((r2&&r3)&&(l.src != l.dst))&&r4)&&r5)&&r6),aa,rfl,(H.pk [])⟩⟩

def zbi (n_Marks:Int) (n_Lines:List Line):M Int :=
  M.bind (zai n_Marks 1 12) fun r2 =>
  bif ((!r2)||(decide (30<(n_Lines.length:Int)))) then (
  M.pure 3)
  else (
  M.bind (zbs n_Lines (fun aa=>zbE aa n_Marks n_Lines)) fun r3 =>
  bif !r3 then (
  M.pure 20)
  else (
  M.pure 0))
theorem zdf {R:List Chunk} {ao:Cells} {ac:Value} (n_Marks:Int) (n_Lines:List Line) (ap:Reads R ao) (ae:Sl ao ac n_Lines) {r:Int} (hM:(zbi n_Marks n_Lines).Ends r) (w:World) (H:St w w [] R):Ret Try.prog 48 #[.agg #[I n_Marks,ac]] w fun v w'=>∃ (y0:Int),y0=r/\v=I y0/\St w w' [] R:=by
 refine ret_of_W Try.func48 rfl rfl rfl ?_;refine kg 2 ?_;refine t_bx [I n_Marks,ac] H rfl ?_;intro ag aE H;refine kg 4 ?_;refine s_val (x_mf (fs:=[]) (cs:=[Pq ag]) rfl rfl) ?_;refine t_alloc (cs:=[.nilFunc]) H Al72 rfl ?_;intro ah aF H;refine t_sw 0 0 [.func (.func 72) #[] #[Pq ag]] (.func (.func 72) #[] #[Pq ag]) H rfl rfl Sz72 rfl rfl rfl rfl ?_;intro aG H;refine kg 7 ?_;obtain ⟨aH,au,hM⟩:=M.e_bind hM;refine s_call cf49 [I n_Marks,I 1,I 12] rfl (zaq n_Marks 1 12 au _ (H.gt 2)) ?_
 rintro vq aI ⟨r2,rfl,hvq,aa⟩
 subst vq;(try dsimp only at hM);replace H:=H.bk aa;clear aa
 have aJ:=(ae).len_le
 refine kg 6 ?_;refine s_val (x_por (b:=!r2) (r:=decide (30<(n_Lines.length:Int))) rfl rfl (fun hb=>gd_of (c:=!(!r2)) (by first | exact hb | (rw [hb]; rfl) | simp_all) (B (decide (30<(n_Lines.length:Int))))))<|zA (B ((!r2)||(decide (30<(n_Lines.length:Int))))) rfl<|s_nil ?_
 refine W.cond ((!r2)||(decide (30<(n_Lines.length:Int)))) rfl (fun ai=>?_) (fun ai=>?_)
 ·replace hM:=M.e_t hM ai;refine kg 4 ?_;replace H:=H.pk [];refine W.ret ?_
  have ab:=M.e_pure hM
  exact ⟨_,resE_tmp rfl,⟨3,ab,rfl,H⟩⟩
 replace hM:=M.e_f hM ai;refine kg 4 ?_;refine s_val (x_mf (fs:=[]) (cs:=[Pq ah]) rfl rfl) ?_;obtain ⟨aK,av,hM⟩:=M.e_bind hM;refine s_call cf73 [ac,.func (.func 74) #[] #[Pq ah]] rfl (zdW n_Lines (fun aj=>zbE aj n_Marks n_Lines) (ap.app _) ae ⟨74,[Pq ah],rfl,cf74,fun aq aL aM aw aj aN ax aO ay az=>by obtain rfl:=Line_arg ay; exact (zd9 aj n_Marks n_Lines (Reads.app (ap.app _) _) ae (Has.app (Has.here (k:=1) rfl) _) (Has.app (Has.here (k:=0) rfl) _) az aq (St.refl ax)).mono fun aw aq ⟨aP,aB,aC,aD⟩=>by subst aB; exact ⟨aC,aD⟩⟩ av _ (H.gt 2)) ?_
 rintro vq aQ ⟨r3,rfl,hvq,aa⟩
 subst vq;(try dsimp only at hM);replace H:=H.bk aa;clear aa;refine kg 3 ?_;replace H:=H.pk []
 refine W.cond (!r3) rfl (fun am=>?_) (fun am=>?_)
 ·replace hM:=M.e_t hM am;refine kg 4 ?_;refine W.ret ?_
  have ab:=M.e_pure hM
  exact ⟨_,resE_tmp rfl,⟨20,ab,rfl,H⟩⟩
 replace hM:=M.e_f hM am;refine kg 5 ?_;refine W.ret ?_
 have ab:=M.e_pure hM
 exact ⟨_,resE_tmp rfl,⟨0,ab,rfl,H⟩⟩

def zb4 (aa:Int) (ab:List Line) (mark:Int):M Int :=
  M.pure mark
theorem zb3 {R:List Chunk} {aa:Nat} {ab:Cells} {ac:Value} (ae:Int) (ag:List Line) (mark:Int) (ap:Reads R ab) (aq:Sl ab ac ag) (au:Fld R aa [I ae,ac]) {r:Int} (hM:(zb4 ae ag mark).Ends r) (w:World) (H:St w w [] R):Ret Try.prog 87 #[Pq aa,I mark] w fun v w'=>∃ (y0:Int) (ah:Nat) (ai:Nat),y0=r/\v = .func (.func 93) #[] #[Pq ah,Pq ai]/\St w w' [cBlk ah [Pq aa] 79,cBlk ai [I y0] 3] R:=by
 refine ret_of_W Try.func87 rfl rfl rfl ?_;refine kg 2 ?_;refine t_b1 (Pq aa) H rfl rfl ?_;intro aj av H;refine t_b1 (I mark) H rfl rfl ?_;intro am aw H;refine kg 4 ?_;refine s_val (x_mf (fs:=[]) (cs:=[Pq aj,Pq am]) rfl rfl) ?_;refine kg 2 ?_;refine W.ret ?_
 have ao:=M.e_pure hM
 exact ⟨_,resE_tmp rfl,⟨mark,aj,am,ao,rfl,(H.pk [1,0])⟩⟩

def zdn (back:Bool):M (Unit ⊕ Unit) :=
  bif back then (
  M.pure (.inl ()))
  else (
  M.pure (.inr ()))
theorem zdg {R:List Chunk}  (back:Bool)  {r:(Unit ⊕ Unit)} (hM:(zdn back).Ends r) (w:World) (H:St w w [] R):Ret Try.prog 95 #[B back] w fun v w'=>((.inl ())=r/\v = .agg #[.func (.func 97) #[] #[]]/\St w w' [] R)∨((.inr ())=r/\v = .agg #[.func (.func 98) #[] #[]]/\St w w' [] R):=by
 refine ret_of_W Try.func95 rfl rfl rfl ?_;refine kg 2 ?_;refine t_alloc (cs:=[.nilFunc]) H Al158 rfl ?_;intro ag ah H;refine kg 6 ?_
 refine W.cond back rfl (fun aa=>?_) (fun aa=>?_)
 ·replace hM:=M.e_t hM aa;refine kg 2 ?_;refine s_val (x_bld (ps:=[(0,.func (.func 97) #[] #[])]) (zs:=[.nilFunc]) (L':=[.func (.func 97) #[] #[]]) rfl Try.underlying158 Al158 rfl (Bd158 Try.underlying158) (.cons (cs:=[.func (.func 97) #[] #[]]) rfl rfl rfl rfl rfl<|.nil)) ?_;refine t_sw 0 0 [.func (.func 97) #[] #[]] (.agg #[.func (.func 97) #[] #[]]) H rfl rfl Sz158 rfl rfl rfl rfl ?_;intro ai H;refine s_nil ?_;refine W.ret ?_
  have ac:=(H.bl 0)
  have ab:=M.e_pure hM
  exact ⟨_,(resE_of1 (v:=.agg #[.func (.func 97) #[] #[]]) rfl (.cell (v:=.agg #[.func (.func 97) #[] #[]]) rfl (run_loadVar_ag (ds:=[.func (.func 97) #[] #[]]) Ag158 Sz158 ac rfl rfl)<|.nil)),.inl (⟨ab,rfl,(H.pk [])⟩)⟩
 replace hM:=M.e_f hM aa;refine kg 3 ?_;refine s_val (x_bld (ps:=[(0,.func (.func 98) #[] #[])]) (zs:=[.nilFunc]) (L':=[.func (.func 98) #[] #[]]) rfl Try.underlying158 Al158 rfl (Bd158 Try.underlying158) (.cons (cs:=[.func (.func 98) #[] #[]]) rfl rfl rfl rfl rfl<|.nil)) ?_;refine t_sw 0 0 [.func (.func 98) #[] #[]] (.agg #[.func (.func 98) #[] #[]]) H rfl rfl Sz158 rfl rfl rfl rfl ?_;intro aj H;refine s_nil ?_;refine W.ret ?_
 have ae:=(H.bl 0)
 have ab:=M.e_pure hM
 exact ⟨_,(resE_of1 (v:=.agg #[.func (.func 98) #[] #[]]) rfl (.cell (v:=.agg #[.func (.func 98) #[] #[]]) rfl (run_loadVar_ag (ds:=[.func (.func 98) #[] #[]]) Ag158 Sz158 ae rfl rfl)<|.nil)),.inr (⟨ab,rfl,(H.pk [])⟩)⟩

def zdT (l:Line):M Int :=
  M.pure l.dst
theorem zdC {R:List Chunk}  (l:Line)  {r:Int} (hM:(zdT l).Ends r) (w:World) (H:St w w [] R):Ret Try.prog 97 #[.agg #[I l.src,I l.dst,I l.day,I l.rise,I l.err]] w fun v w'=>∃ (y0:Int),y0=r/\v=I y0/\St w w' [] R:=by
 refine ret_of_W Try.func97 rfl rfl rfl ?_;refine kg 2 ?_;refine t_bx [I l.src,I l.dst,I l.day,I l.rise,I l.err] H rfl ?_;intro ab ac H;refine kg 8 ?_;refine W.ret ?_
 have aa:=M.e_pure hM
 exact ⟨_,resE_tmp rfl,⟨l.dst,aa,rfl,(H.pk [])⟩⟩

def zee (l:Line):M Int :=
  M.pure l.src
theorem zdK {R:List Chunk}  (l:Line)  {r:Int} (hM:(zee l).Ends r) (w:World) (H:St w w [] R):Ret Try.prog 98 #[.agg #[I l.src,I l.dst,I l.day,I l.rise,I l.err]] w fun v w'=>∃ (y0:Int),y0=r/\v=I y0/\St w w' [] R:=by
 refine ret_of_W Try.func98 rfl rfl rfl ?_;refine kg 2 ?_;refine t_bx [I l.src,I l.dst,I l.day,I l.rise,I l.err] H rfl ?_;intro ab ac H;refine kg 8 ?_;refine W.ret ?_
 have aa:=M.e_pure hM
 exact ⟨_,resE_tmp rfl,⟨l.src,aa,rfl,(H.pk [])⟩⟩

theorem starts_any {R:List Chunk} (back:Bool) (w:World) (hs:Sep w R):Ret Try.prog 95 #[B back] w fun v w'=>v = .agg #[.func (.func (bif back then 97 else 98)) #[] #[]]/\St w w' [] R:=by
 cases back with
 | true =>
  refine (zdg true (r:=.inl ()) M.i_pure w (St.refl hs)).mono ?_
  rintro v w' (⟨_,hv,H⟩ | ⟨h,_,_⟩)
  ·exact ⟨hv,H⟩
  cases h
 | false =>
  refine (zdg false (r:=.inr ()) M.i_pure w (St.refl hs)).mono ?_
  rintro v w' (⟨h,_,_⟩ | ⟨_,hv,H⟩)
  ·cases h
  exact ⟨hv,H⟩
theorem cfsel (b:Bool):CF Try.prog (bif b then 97 else 98):=by cases b; exact cf98; exact cf97
theorem ends_any {R:List Chunk} (b:Bool) (l:Line) (w:World) (hs:Sep w R):Ret Try.prog (bif b then 97 else 98) #[.agg #[I l.src,I l.dst,I l.day,I l.rise,I l.err]] w fun v w'=>v=I (legEnd b l)/\St w w' [] R:=by
 cases b with
 | true=>exact (zdC l M.i_pure w (St.refl hs)).mono fun v w' ⟨y,hy,hv,H⟩=>⟨by rw [hv,hy]; rfl,H⟩
 | false=>exact (zdK l M.i_pure w (St.refl hs)).mono fun v w' ⟨y,hy,hv,H⟩=>⟨by rw [hv,hy]; rfl,H⟩

def za8 (ab:Int) (aa:List Line) (g:Leg):M Int :=
  M.grd (decide ((0:Int)<=g.line)&&decide (g.line<(aa.length:Int))) <|
  M.pure (legEnd g.back (aa.getD (Int.toNat g.line) default))
theorem zdN {R:List Chunk} {ah:Nat} {ai:Cells} {ac:Value} (ae:Int) (aa:List Line) (g:Leg) (aq:Reads R ai) (au:Sl ai ac aa) (aj:Fld R ah [I ae,ac]) {r:Int} (hM:(za8 ae aa g).Ends r) (w:World) (H:St w w [] R):Ret Try.prog 94 #[Pq ah,.agg #[I g.line,B g.back]] w fun v w'=>∃ (y0:Int),y0=r/\v=I y0/\St w w' [] R:=by
 refine ret_of_W Try.func94 rfl rfl rfl ?_;refine kg 2 ?_;refine t_bx [I g.line,B g.back] H rfl ?_;intro ag av H;refine kg 3 ?_;refine W.draw (fun W=>St w W [cBlk ag [I g.line,B g.back] 86] R) [(0,true),(1,true),(4,true),(5,true),(6,true),(7,true),(8,true),(9,true),(10,true),(11,true),(12,true),(2,false),(3,true),(13,false),(14,true)] mixed (by decide +kernel) rfl ?_;intro aw ab;replace H:=H.ext ab;clear ab
 refine ⟨(H.pk [0]),?_⟩
 refine kg 6 ?_;refine d_q rfl (fun w' H=>x_ld (v:=ac) rfl (fld_sc (pre:=[I ae,ac]) (i:=1) Sc23 (aj.at H) rfl)) ?_;obtain ⟨ax,hM⟩:=M.e_gd hM;refine kg 4 ?_;refine d_l rfl ?_;refine s_call cf95 [B g.back] rfl (starts_any g.back _ H.sep) ?_
 rintro _ am ⟨rfl,ab⟩
 replace H:St w am [cBlk ag [I g.line,B g.back] 86] R:=H.via ab
 clear ab
 refine s_nil ⟨(H.pk [0]),?_⟩
 refine d_q rfl (fun w' H=>x_fd (cs:=[.func (.func (bif g.back then 97 else 98)) #[] #[]]) (v:=.func (.func (bif g.back then 97 else 98)) #[] #[]) Fd158_0 Sc156 rfl rfl)<|d_l rfl ?_;refine s_callv rfl (cfsel g.back) [.agg #[I ((aa.getD (Int.toNat g.line) default).src),I ((aa.getD (Int.toNat g.line) default).dst),I ((aa.getD (Int.toNat g.line) default).day),I ((aa.getD (Int.toNat g.line) default).rise),I ((aa.getD (Int.toNat g.line) default).err)]] rfl (ends_any g.back (aa.getD (Int.toNat g.line) default) _ H.sep) ?_
 rintro _ ao ⟨rfl,ab⟩
 replace H:St w ao [cBlk ag [I g.line,B g.back] 86] R:=H.via ab
 clear ab
 refine s_nil ⟨(H.pk [0]),?_⟩
 refine kg 2 ?_;refine W.ret ?_
 have ap:=M.e_pure hM
 exact ⟨_,resE_tmp rfl,⟨(legEnd g.back (aa.getD (Int.toNat g.line) default)),ap,rfl,(H.pk [])⟩⟩

def zaz {T_:Type} (ab:T_->Leg->M (Bool × T_)) (ac:Int) (ae:List Line) (aa:Int) (s2:Nat):(Nat × T_)->M ((Nat × T_) ⊕ (T_ ⊕ T_)):=fun (s,t2) =>
  bif decide ((s:Int)<(([(⟨(s2:Int),false⟩:Leg),(⟨(s2:Int),true⟩:Leg)]).length:Int)) then (
  M.grd (decide ((s:Int)<(([(⟨(s2:Int),false⟩:Leg),(⟨(s2:Int),true⟩:Leg)]).length:Int))) <|
  M.bind (za8 ac ae (([(⟨(s2:Int),false⟩:Leg),(⟨(s2:Int),true⟩:Leg)]).getD s default)) fun r2 =>
  M.bind (M.opt (r2==aa) (ab t2 (([(⟨(s2:Int),false⟩:Leg),(⟨(s2:Int),true⟩:Leg)]).getD s default)) (false,t2)) fun (go,t) =>
  bif ((r2==aa)&&(!go)) then (
  M.pure (.inr (.inl t)))
  else (
  M.pure (.inl (s+1,t))))
  else (
  M.pure (.inr (.inr t2)))
def zaI {T_:Type} (ab:T_->Leg->M (Bool × T_)) (ac:Int) (aa:List Line) (ae:Int):(Nat × T_)->M ((Nat × T_) ⊕ (T_ ⊕ T_)):=fun (s2,t5) =>
  bif decide ((s2:Int)<(aa.length:Int)) then (
  M.bind (M.iter (zaz ab ac aa ae s2) (0,t5)) fun x_=>match x_ with
  | (.inl t3)=>(
  M.pure (.inr (.inl t3)))
  | (.inr t4)=>(
  M.pure (.inl (s2+1,t4))))
  else (
  M.pure (.inr (.inr t5)))
def zah {T_:Type} (aa:T_->Leg->M (Bool × T_)) (t_:T_) (ab:Int) (ac:List Line) (ae:Int):M T_ :=
  M.bind (M.iter (zaI aa ab ac ae) (0,t_)) fun x_=>match x_ with
  | (.inl t6)=>(
  M.pure t6)
  | (.inr t7)=>(
  M.pure t7)
theorem zcg {R:List Chunk} {T_:Type} {Y_:T_->List Chunk->Prop} {ai:Value} {ag:List Chunk} {aj:Nat} {au:Nat} {aC:Cells} {am:Value} {ao:Nat} (ap:T_->Leg->M (Bool × T_)) (t_:T_) (ah:Int) (aa:List Line) (ab:Int) (aP:YieldC Try.prog R arLeg Y_ ai ap) (aD:Y_ t_ ag) (aQ:Reads R aC) (aE:Sl aC am aa) (aF:∀ (t_:T_) (ag:List Chunk),Y_ t_ ag->Fld (cAll ag :: R) au [I ah,am]) (a8:Has R (cBlk aj [Pq au] 79)) (a9:Has R (cBlk ao [I ab] 3)) {r:T_} (hM:(zah ap t_ ah aa ab).Ends r) (w:World) (H:St w w [cAll ag] R):Ret Try.prog 93 #[ai,Pq aj,Pq ao] w fun v w'=>∃ (y0:T_) (Ls0:List Chunk),y0=r/\v = .tuple #[]/\St w w' [cAll Ls0] R/\Y_ y0 Ls0:=by
 refine ret_of_W Try.func93 rfl rfl rfl ?_;refine kg 6 ?_;refine s_val (x_ld (v:=am) rfl (fld_sc (pre:=[I ah,am]) (i:=1) Sc23 (Fld.get (Fld.up (aF _ _ aD) (k:=0) rfl) H) rfl)) ?_
 have ba:=(aE).len_le
 refine kg 4 ?_;obtain ⟨aR,av,aG⟩:=M.e_bind hM
 obtain ⟨aS,av⟩:=M.e_iter av
 refine W.loop (fun m σ W=>∃ (s2:Nat) (t5:T_) (Ls_t5:List Chunk) (ρ:Env),σ=upds ρ [(0,ai),(1,Pq aj),(2,Pq ao),(12,I (aa.length:Int)),(13,I (s2:Int))]/\M.iterN (zaI ap ah aa ab) m (s2,t5)=some aR/\St w W [cAll Ls_t5] R/\Y_ t5 Ls_t5) ?_ ?_
 ·exact ⟨_,0,t_,ag,_,upds_of _ _ ⟨rfl,rfl,rfl,rfl,rfl,trivial⟩,av,H,aD⟩
 rintro bb σ bc ⟨s2,t5,Ls_t5,ρ,rfl,aH,H,hY_t5⟩
 obtain ⟨aT,aU,bg,hM,aw⟩:=M.e_iterN aH
 simp only [zaI] at hM
 clear aH;refine kg 5 ?_
 refine W.cond (decide ((s2:Int)<(aa.length:Int))) rfl (fun ac=>?_) (fun ac=>?_)
 ·replace hM:=M.e_t hM ac
  replace ac:=dI ac
  refine kg 11 ?_;refine s_val (x_bld (ps:=[(0,I (s2:Int)),(1,B false)]) (zs:=[I 0,B false]) (L':=[I (s2:Int),B false]) rfl Try.underlying86 Al86 rfl (Bd86 Try.underlying86) (.cons (cs:=[I (s2:Int)]) rfl rfl rfl rfl rfl<|.cons (cs:=[B false]) rfl rfl rfl rfl rfl<|.nil)) ?_;refine kg 1 ?_;refine s_val (x_bld (ps:=[(0,I (s2:Int)),(1,B true)]) (zs:=[I 0,B false]) (L':=[I (s2:Int),B true]) rfl Try.underlying86 Al86 rfl (Bd86 Try.underlying86) (.cons (cs:=[I (s2:Int)]) rfl rfl rfl rfl rfl<|.cons (cs:=[B true]) rfl rfl rfl rfl rfl<|.nil)) ?_;refine t_bs (α:=Leg) T155 [.agg #[I (s2:Int),B false],.agg #[I (s2:Int),B true]] [(⟨(s2:Int),false⟩:Leg),(⟨(s2:Int),true⟩:Leg)] H rfl (.cons rfl (Flat.rep_enc _ (⟨(s2:Int),false⟩:Leg))<|.cons rfl (Flat.rep_enc _ (⟨(s2:Int),true⟩:Leg))<|.nil) rfl rfl rfl ?_;intro aq bh H
  have bi:=((H.os 0)).len_le
  refine kg 4 ?_;obtain ⟨aV,ax,aI⟩:=M.e_bind hM
  obtain ⟨aS,ax⟩:=M.e_iter ax
  refine W.loop (fun m σ W=>∃ (s:Nat) (t2:T_) (Ls_t2:List Chunk) (ρ:Env),σ=upds ρ [(0,ai),(1,Pq aj),(2,Pq ao),(12,I (aa.length:Int)),(13,I (s2:Int)),(20,aq),(21,I (([(⟨(s2:Int),false⟩:Leg),(⟨(s2:Int),true⟩:Leg)]).length:Int)),(22,I (s:Int))]/\M.iterN (zaz ap ah aa ab s2) m (s,t2)=some aV/\St w W [cOwn (α:=Leg) 86 aq ([(⟨(s2:Int),false⟩:Leg),(⟨(s2:Int),true⟩:Leg)]),cAll Ls_t2] R/\Y_ t2 Ls_t2) ?_ ?_
  ·exact ⟨_,0,t5,Ls_t5,_,upds_of _ _ ⟨rfl,rfl,rfl,rfl,rfl,rfl,rfl,rfl,trivial⟩,ax,H,hY_t5⟩
  rintro bj σ bm ⟨s,t2,Ls_t2,ρ,rfl,aJ,H,hY_t2⟩
  obtain ⟨aW,aX,bn,hM,ay⟩:=M.e_iterN aJ
  simp only [zaz] at hM
  clear aJ;refine kg 5 ?_
  refine W.cond (decide ((s:Int)<(([(⟨(s2:Int),false⟩:Leg),(⟨(s2:Int),true⟩:Leg)]).length:Int))) rfl (fun ae=>?_) (fun ae=>?_)
  ·replace hM:=M.e_t hM ae
   replace ae:=dI ae
   obtain ⟨bp,hM⟩:=M.e_gd hM;refine kg 7 ?_;refine t_alloc (cs:=[I 0,B false]) H Al86 rfl ?_;intro aK br H;refine t_sw 0 0 [I ((([(⟨(s2:Int),false⟩:Leg),(⟨(s2:Int),true⟩:Leg)]).getD s default).line),B ((([(⟨(s2:Int),false⟩:Leg),(⟨(s2:Int),true⟩:Leg)]).getD s default).back)] (.agg #[I ((([(⟨(s2:Int),false⟩:Leg),(⟨(s2:Int),true⟩:Leg)]).getD s default).line),B ((([(⟨(s2:Int),false⟩:Leg),(⟨(s2:Int),true⟩:Leg)]).getD s default).back)]) H rfl rfl Sz86 rfl rfl rfl rfl ?_;intro bt H;refine kg 2 ?_;refine W.draw (fun W=>St w W [cBlk aK [I ((([(⟨(s2:Int),false⟩:Leg),(⟨(s2:Int),true⟩:Leg)]).getD s default).line),B ((([(⟨(s2:Int),false⟩:Leg),(⟨(s2:Int),true⟩:Leg)]).getD s default).back)] 86,cOwn (α:=Leg) 86 aq ([(⟨(s2:Int),false⟩:Leg),(⟨(s2:Int),true⟩:Leg)])] R) [(0,true),(1,true),(3,true),(2,false),(4,true),(5,true),(6,true),(7,true),(8,false),(9,true),(10,true)] mixed (by decide +kernel) rfl ?_;intro bu aL;replace H:=H.ext aL;clear aL
   refine ⟨(H.pk [0,1]),?_⟩
   refine kg 3 ?_;refine d_l rfl ?_;obtain ⟨bv,aY,hM⟩:=M.e_bind hM;refine s_call cf94 [Pq au,.agg #[I ((([(⟨(s2:Int),false⟩:Leg),(⟨(s2:Int),true⟩:Leg)]).getD s default).line),B ((([(⟨(s2:Int),false⟩:Leg),(⟨(s2:Int),true⟩:Leg)]).getD s default).back)]] rfl (zdN ah aa (([(⟨(s2:Int),false⟩:Leg),(⟨(s2:Int),true⟩:Leg)]).getD s default) (aQ.app _) aE (Fld.up (aF _ _ hY_t2) (k:=2) rfl) aY _ (H.gt 3)) ?_
   rintro vq bw ⟨r2,rfl,hvq,aM⟩
   subst vq;(try dsimp only at hM);replace H:=H.bk aM;clear aM
   refine s_nil ⟨(H.pk [0,1]),?_⟩
   refine kg 4 ?_;refine d_l rfl ?_
   obtain ⟨⟨go,t⟩,aZ,hM⟩:=M.e_bind hM
   (try dsimp only at hM);refine t_gyield (L:=[cBlk aK [I ((([(⟨(s2:Int),false⟩:Leg),(⟨(s2:Int),true⟩:Leg)]).getD s default).line),B ((([(⟨(s2:Int),false⟩:Leg),(⟨(s2:Int),true⟩:Leg)]).getD s default).back)] 86,cOwn (α:=Leg) 86 aq ([(⟨(s2:Int),false⟩:Leg),(⟨(s2:Int),true⟩:Leg)])]) (r2==ab) (gy_t rfl) (H.pk [2,0,1]) aP hY_t2 (fun hg=>(gd_of hg (ai))) [.agg #[I ((([(⟨(s2:Int),false⟩:Leg),(⟨(s2:Int),true⟩:Leg)]).getD s default).line),B ((([(⟨(s2:Int),false⟩:Leg),(⟨(s2:Int),true⟩:Leg)]).getD s default).back)]] (fun hg=>lst1 (gd_of hg (.agg #[I ((([(⟨(s2:Int),false⟩:Leg),(⟨(s2:Int),true⟩:Leg)]).getD s default).line),B ((([(⟨(s2:Int),false⟩:Leg),(⟨(s2:Int),true⟩:Leg)]).getD s default).back)]))) (([(⟨(s2:Int),false⟩:Leg),(⟨(s2:Int),true⟩:Leg)]).getD s default) Reads.none rfl aZ ?_;intro aN bx aO H;replace H:=H.nf
   refine s_nil ⟨(H.pk [1,2]),?_⟩
   refine kg 1 ?_;refine d_q rfl (fun w' H=>x_pand (b:=r2==ab) (r:=!go) rfl (fun hb=>gd_of (c:=r2==ab) (by first | exact hb | (rw [hb]; rfl) | simp_all) (B (!go))) rfl) ?_;refine d_nil ?_
   refine W.cond ((r2==ab)&&(!go)) rfl (fun az=>?_) (fun az=>?_)
   ·replace hM:=M.e_t hM az;refine W.ret ?_
    have a4:=M.e_inr hM ay
    subst a4;replace hM:=aI;(try dsimp only at hM)
    have a5:=M.e_inr hM aw
    subst a5;replace hM:=aG;(try dsimp only at hM)
    have aB:=M.e_pure hM
    exact ⟨_,resE_tmp0 rfl,⟨t,aN,aB,rfl,(H.pk [0]),aO⟩⟩
   replace hM:=M.e_f hM az;refine kg 5 ?_
   exact ⟨aW,aX,s+1,t,aN,_,upds_of _ _ ⟨rfl,rfl,rfl,rfl,rfl,rfl,rfl,rfl,trivial⟩,M.e_inl hM ay,(H.pk [2,0]),aO⟩
  replace hM:=M.e_f hM ae
  replace ae:=dI ae
  refine W.exit ?_
  have a6:=M.e_inr hM ay
  subst a6;replace hM:=aI;(try dsimp only at hM);refine kg 4 ?_
  exact ⟨aT,aU,s2+1,t2,Ls_t2,_,upds_of _ _ ⟨rfl,rfl,rfl,rfl,rfl,trivial⟩,M.e_inl hM aw,(H.pk [1]),hY_t2⟩
 replace hM:=M.e_f hM ac
 replace ac:=dI ac
 refine W.exit ?_
 have a7:=M.e_inr hM aw
 subst a7;replace hM:=aG;(try dsimp only at hM)
 have aB:=M.e_pure hM
 exact ⟨_,resE_tmp0 rfl,⟨t5,Ls_t5,aB,rfl,H,hY_t5⟩⟩
theorem zc4 {T_:Type} {n_:Nat} {y y':T_->Leg->M (Bool × T_)} (h:∀ s a,M.LeN n_ (y s a) (y' s a)) (t_:T_) (aa:Int) (ab:List Line) (ac:Int):M.LeN n_ (zah y t_ aa ab ac) (zah y' t_ aa ab ac):=by
  simp only [zah,zaz,zaI]
  repeat' (first | exact M.le_same _ _ | exact h _ _ | refine M.le_grd ?_ | refine M.le_if ?_ ?_ | refine M.le_bind ?_ (fun x=>?_) | refine M.le_opt ?_ | refine M.le_iter (fun x=>?_) _ | (rename_i x; cases x) | (rename_i x; obtain ⟨_,_⟩:=x))

def zaX (ab:Int) (aa:List Line) (g:Leg):M Int :=
  M.grd (decide ((0:Int)<=g.line)&&decide (g.line<(aa.length:Int))) <|
  bif g.back then (
  M.grd (decide ((-9223372036854775808:Int)<=(((aa.getD (Int.toNat g.line) default).err)-((aa.getD (Int.toNat g.line) default).rise)))&&decide ((((aa.getD (Int.toNat g.line) default).err)-((aa.getD (Int.toNat g.line) default).rise))<=(9223372036854775807:Int))) <|
  M.pure (((aa.getD (Int.toNat g.line) default).err)-((aa.getD (Int.toNat g.line) default).rise)))
  else (
  M.grd (decide ((-9223372036854775808:Int)<=(((aa.getD (Int.toNat g.line) default).err)+((aa.getD (Int.toNat g.line) default).rise)))&&decide ((((aa.getD (Int.toNat g.line) default).err)+((aa.getD (Int.toNat g.line) default).rise))<=(9223372036854775807:Int))) <|
  M.pure (((aa.getD (Int.toNat g.line) default).err)+((aa.getD (Int.toNat g.line) default).rise)))
theorem zcz {R:List Chunk} {ah:Nat} {ai:Cells} {ab:Value} (ac:Int) (aa:List Line) (g:Leg) (ap:Reads R ai) (aq:Sl ai ab aa) (am:Fld R ah [I ac,ab]) {r:Int} (hM:(zaX ac aa g).Ends r) (w:World) (H:St w w [] R):Ret Try.prog 88 #[Pq ah,.agg #[I g.line,B g.back]] w fun v w'=>∃ (y0:Int),y0=r/\v=I y0/\St w w' [] R:=by
 refine ret_of_W Try.func88 rfl rfl rfl ?_;refine kg 2 ?_;refine t_bx [I g.line,B g.back] H rfl ?_;intro ao au H;refine kg 3 ?_;refine W.draw (fun W=>St w W [cBlk ao [I g.line,B g.back] 86] R) [(0,true),(1,true),(2,true),(3,true),(4,true),(5,true),(6,true),(7,true),(8,true),(9,false),(10,false)] mixed (by decide +kernel) rfl ?_;intro av aj;replace H:=H.ext aj;clear aj
 refine ⟨(H.pk [0]),?_⟩
 refine kg 4 ?_;refine d_q rfl (fun w' H=>x_ld (v:=ab) rfl (fld_sc (pre:=[I ac,ab]) (i:=1) Sc23 (am.at H) rfl)) ?_;obtain ⟨aw,hM⟩:=M.e_gd hM;refine kg 4 ?_;refine d_l rfl ?_;refine t_alloc (cs:=[I 0,I 0,I 0,I 0,I 0]) H Al35 rfl ?_;intro ax ay H
 refine s_nil ⟨(H.pk [1]),?_⟩
 refine d_l rfl ?_;refine t_sw 0 0 [I ((aa.getD (Int.toNat g.line) default).src),I ((aa.getD (Int.toNat g.line) default).dst),I ((aa.getD (Int.toNat g.line) default).day),I ((aa.getD (Int.toNat g.line) default).rise),I ((aa.getD (Int.toNat g.line) default).err)] (.agg #[I ((aa.getD (Int.toNat g.line) default).src),I ((aa.getD (Int.toNat g.line) default).dst),I ((aa.getD (Int.toNat g.line) default).day),I ((aa.getD (Int.toNat g.line) default).rise),I ((aa.getD (Int.toNat g.line) default).err)]) H rfl rfl Sz35 rfl rfl rfl rfl ?_;intro az H
 refine s_nil ⟨(H.pk [1]),?_⟩
 refine kg 7 ?_
 refine W.cond g.back rfl (fun ae=>?_) (fun ae=>?_)
 ·replace hM:=M.e_t hM ae;obtain ⟨aB,hM⟩:=M.e_gd hM;refine kg 9 ?_;replace H:=H.pk [];refine W.ret ?_
  have ag:=M.e_pure hM
  exact ⟨_,resE_tmp rfl,⟨(((aa.getD (Int.toNat g.line) default).err)-((aa.getD (Int.toNat g.line) default).rise)),ag,rfl,H⟩⟩
 replace hM:=M.e_f hM ae;obtain ⟨aC,hM⟩:=M.e_gd hM;refine kg 10 ?_;replace H:=H.pk [];refine W.ret ?_
 have ag:=M.e_pure hM
 exact ⟨_,resE_tmp rfl,⟨(((aa.getD (Int.toNat g.line) default).err)+((aa.getD (Int.toNat g.line) default).rise)),ag,rfl,H⟩⟩

def zaE (l:List Int):(Int × Nat)->M ((Int × Nat) ⊕ Int):=fun (out,s) =>
  bif decide ((s:Int)<(l.length:Int)) then (
  M.grd (decide ((s:Int)<(l.length:Int))) <|
  M.grd (decide ((-9223372036854775808:Int)<=(out+(l.getD s 0)))&&decide ((out+(l.getD s 0))<=(9223372036854775807:Int))) <|
  M.pure (.inl (out+(l.getD s 0),s+1)))
  else (
  M.pure (.inr out))
def zbp (l:List Int):M Int :=
  M.bind (M.iter (zaE l) (0,0)) fun out2 =>
  M.pure out2
theorem zcT {R:List Chunk} {ae:Cells} {ab:Value} (l:List Int) (av:Reads R ae) (ai:Sl ae ab l) {r:Int} (hM:(zbp l).Ends r) (w:World) (H:St w w [] R):Ret Try.prog 96 #[ab] w fun v w'=>∃ (y0:Int),y0=r/\v=I y0/\St w w' [] R:=by
 refine ret_of_W Try.func96 rfl rfl rfl ?_
 have aw:=(ai).len_le
 refine kg 16 ?_;obtain ⟨aj,ac,am⟩:=M.e_bind hM
 obtain ⟨ax,ac⟩:=M.e_iter ac
 refine W.loop (fun m σ W=>∃ (out:Int) (s:Nat) (ρ:Env),σ=upds ρ [(3,I out),(6,ab),(7,I (l.length:Int)),(8,I (s:Int))]/\M.iterN (zaE l) m (out,s)=some aj/\St w W [] R) ?_ ?_
 ·exact ⟨_,0,0,_,upds_of _ _ ⟨rfl,rfl,rfl,rfl,trivial⟩,ac,H⟩
 rintro ay σ az ⟨out,s,ρ,rfl,ag,H⟩
 obtain ⟨ao,ap,aB,hM,ah⟩:=M.e_iterN ag
 simp only [zaE] at hM
 clear ag;refine kg 5 ?_
 refine W.cond (decide ((s:Int)<(l.length:Int))) rfl (fun aa=>?_) (fun aa=>?_)
 ·replace hM:=M.e_t hM aa
  replace aa:=dI aa
  obtain ⟨aC,hM⟩:=M.e_gd hM;obtain ⟨aD,hM⟩:=M.e_gd hM;refine kg 19 ?_
  exact ⟨ao,ap,out+(l.getD s 0),s+1,_,upds_of _ _ ⟨rfl,rfl,rfl,rfl,trivial⟩,M.e_inl hM ah,H⟩
 replace hM:=M.e_f hM aa
 replace aa:=dI aa
 refine W.exit ?_
 have aq:=M.e_inr hM ah
 subst aq;replace hM:=am;(try dsimp only at hM);refine kg 5 ?_;refine W.ret ?_
 have au:=M.e_pure hM
 exact ⟨_,resE_tmp rfl,⟨out,au,rfl,H⟩⟩

def zao (ab:Int) (aa:List Line) (g:Leg):M Int :=
  M.grd (decide ((0:Int)<=g.line)&&decide (g.line<(aa.length:Int))) <|
  M.pure (legEnd (!g.back) (aa.getD (Int.toNat g.line) default))
theorem zar {R:List Chunk} {ah:Nat} {ai:Cells} {ac:Value} (ae:Int) (aa:List Line) (g:Leg) (aq:Reads R ai) (au:Sl ai ac aa) (aj:Fld R ah [I ae,ac]) {r:Int} (hM:(zao ae aa g).Ends r) (w:World) (H:St w w [] R):Ret Try.prog 89 #[Pq ah,.agg #[I g.line,B g.back]] w fun v w'=>∃ (y0:Int),y0=r/\v=I y0/\St w w' [] R:=by
 refine ret_of_W Try.func89 rfl rfl rfl ?_;refine kg 2 ?_;refine t_bx [I g.line,B g.back] H rfl ?_;intro ag av H;refine kg 3 ?_;refine W.draw (fun W=>St w W [cBlk ag [I g.line,B g.back] 86] R) [(0,true),(1,true),(2,true),(5,true),(6,true),(7,true),(8,true),(9,true),(10,true),(11,true),(12,true),(13,true),(3,false),(4,true),(14,false),(15,true)] mixed (by decide +kernel) rfl ?_;intro aw ab;replace H:=H.ext ab;clear ab
 refine ⟨(H.pk [0]),?_⟩
 refine kg 7 ?_;refine d_q rfl (fun w' H=>x_ld (v:=ac) rfl (fld_sc (pre:=[I ae,ac]) (i:=1) Sc23 (aj.at H) rfl)) ?_;obtain ⟨ax,hM⟩:=M.e_gd hM;refine kg 4 ?_;refine d_l rfl ?_;refine s_call cf95 [B (!g.back)] rfl (starts_any (!g.back) _ H.sep) ?_
 rintro _ am ⟨rfl,ab⟩
 replace H:St w am [cBlk ag [I g.line,B g.back] 86] R:=H.via ab
 clear ab
 refine s_nil ⟨(H.pk [0]),?_⟩
 refine d_q rfl (fun w' H=>x_fd (cs:=[.func (.func (bif (!g.back) then 97 else 98)) #[] #[]]) (v:=.func (.func (bif (!g.back) then 97 else 98)) #[] #[]) Fd158_0 Sc156 rfl rfl)<|d_l rfl ?_;refine s_callv rfl (cfsel (!g.back)) [.agg #[I ((aa.getD (Int.toNat g.line) default).src),I ((aa.getD (Int.toNat g.line) default).dst),I ((aa.getD (Int.toNat g.line) default).day),I ((aa.getD (Int.toNat g.line) default).rise),I ((aa.getD (Int.toNat g.line) default).err)]] rfl (ends_any (!g.back) (aa.getD (Int.toNat g.line) default) _ H.sep) ?_
 rintro _ ao ⟨rfl,ab⟩
 replace H:St w ao [cBlk ag [I g.line,B g.back] 86] R:=H.via ab
 clear ab
 refine s_nil ⟨(H.pk [0]),?_⟩
 refine kg 2 ?_;refine W.ret ?_
 have ap:=M.e_pure hM
 exact ⟨_,resE_tmp rfl,⟨(legEnd (!g.back) (aa.getD (Int.toNat g.line) default)),ap,rfl,(H.pk [])⟩⟩

def zab (aa:Int) (ab:List Line) (ac:Int) (s3:Nat):((List Int) × (List Leg))->Leg->M (((List Int) × (List Leg)) ⊕ Unit):=fun (s,s2) x =>
  M.bind (zaX aa ab x) fun r2 =>
  M.bind (zbp ([(s.getD ((Int.toNat ac)*13+s3) 0:Int),(r2:Int)])) fun r3 =>
  M.bind (zao aa ab x) fun r4 =>
  M.grd (decide ((0:Int)<=r4)&&decide (r4<(13:Int))) <|
  bif decide (r3<(s.getD ((Int.toNat ac)*13+(Int.toNat r4)) 0)) then (
  M.bind (zao aa ab x) fun r5 =>
  M.bind (zao aa ab x) fun r6 =>
  M.grd (decide ((0:Int)<=r5)&&decide (r5<(13:Int))) <|
  M.grd (decide ((0:Int)<=r6)&&decide (r6<(13:Int))) <|
  M.pure (.inl (s.set ((Int.toNat ac)*13+(Int.toNat r5)) r3,s2.set ((Int.toNat ac)*13+(Int.toNat r6)) x)))
  else (
  M.pure (.inl (s,s2)))
def zan (aa:Int) (ab:List Line) (ac:Int):(Nat × (List Int) × (List Leg))->M ((Nat × (List Int) × (List Leg)) ⊕ ((List Int) × (List Leg))):=fun (s3,s4,s5) =>
  bif decide ((s3:Int)<aa) then (
  M.grd (decide ((0:Int)<=(s3:Int))&&decide ((s3:Int)<(13:Int))) <|
  bif (s4.getD ((Int.toNat ac)*13+s3) 0)==1099511627776 then (
  M.grd (decide ((-9223372036854775808:Int)<=((s3:Int)+1))&&decide (((s3:Int)+1)<=(9223372036854775807:Int))) <|
  M.pure (.inl (s3+1,s4,s5)))
  else (
  M.bind (zb4 aa ab (s3:Int)) fun ae =>
  M.bind (zah (M.yl (zab aa ab ac s3)) (.inl (s4,s5)) aa ab ae) fun x_=>match x_ with
  | .inl (s,s2)=>(
  M.grd (decide ((-9223372036854775808:Int)<=((s3:Int)+1))&&decide (((s3:Int)+1)<=(9223372036854775807:Int))) <|
  M.pure (.inl (s3+1,s,s2)))
  | .inr _=>M.fail))
  else (
  M.pure (.inr (s4,s5)))
def zap (aa:Int) (ab:List Line) (ac:Int):((List Int) × (List Leg) × Nat)->M (((List Int) × (List Leg) × Nat) ⊕ ((List Int) × (List Leg))):=fun (s6,s7,s8) =>
  bif decide ((s8:Int)<aa) then (
  M.bind (M.iter (zan aa ab ac) (0,s6,s7)) fun (l,l2) =>
  M.grd (decide ((-9223372036854775808:Int)<=((s8:Int)+1))&&decide (((s8:Int)+1)<=(9223372036854775807:Int))) <|
  M.pure (.inl (l,l2,s8+1)))
  else (
  M.pure (.inr (s6,s7)))
def zbf (ab:Int) (ac:List Line) (ae:List Int) (ag:List Leg) (aa:Int):M ((List Int) × (List Leg)) :=
  M.grd (decide ((0:Int)<=aa)&&decide (aa<(13:Int))) <|
  M.bind (M.iter (zap ab ac aa) (ae,ag,0)) fun (l3,l4) =>
  M.pure (l3,l4)
theorem zdO {R:List Chunk} {aa:Nat} {bp:Cells} {ae:Value} (ac:Int) (am:List Line) (aJ:List Int) (aK:List Leg) (ab:Int) (aw:Reads R bp) (ay:Sl bp ae am) (br:aJ.length=169) (bt:aK.length=169) {r:((List Int) × (List Leg))} (hM:(zbf ac am aJ aK ab).Ends r) (w:World) (H:St w w [cBlk aa (List.flatten [[I ac,ae],encF (α:=Int) aJ,encF (α:=Leg) aK]) 90] R):Ret Try.prog 92 #[Pq aa,I ab] w fun v w'=>∃ (y0:List Int) (y1:List Leg),(y0,y1)=r/\v = .tuple #[]/\St w w' [cBlk aa (List.flatten [[I ac,ae],encF (α:=Int) y0,encF (α:=Leg) y1]) 90] R/\y0.length=169/\y1.length=169:=by
 refine ret_of_WD Try.func92 rfl rfl rfl ?_
 replace H:St w w [cMk ([]),cBlk aa (List.flatten [[I ac,ae],encF (α:=Int) aJ,encF (α:=Leg) aK]) 90] R:=H.mk0
 have cv:=ay.len_le
 unfold zbf at hM
 refine WD.seq<|WD.of<|W.region rfl ?_;refine t_b1 (Pq aa) H rfl rfl ?_;intro ah cw H;refine s_nil<|WD.seq<|WD.of ?_;refine W.drawT (fun W=>St w W [cBlk ah [Pq aa] 79,cMk ([]),cBlk aa (List.flatten [[I ac,ae],encF (α:=Int) aJ,encF (α:=Leg) aK]) 90] R) (.q 0 (.q 1 (.q 2 (.q 3 (.q 4 (.q 5 (.q 6 (.q 7 (.q 8 (.q 9 (.l2 10 (.l 11 (.l 12 (.l 13 .nil))) 11 (.l 10 (.l 12 (.l 13 .nil)))))))))))))) mixed (by decide +kernel) rfl ?_;intro cx ao;replace H:=H.ext ao;clear ao
 refine ⟨(H.pk [0,1,2]),?_⟩
 obtain ⟨cy,hM⟩:=M.e_gd hM;refine kg 4 ?_;refine t_q rfl (fun w' H=>x_ix (v:=.pointer (some ⟨aa,2+Int.toNat ab*13,none⟩)) rfl rfl (run_indexS Try.underlying84 Sz82 (by omega) (by omega))) ?_;refine kg 4 ?_;refine t_q rfl (fun w' H=>x_ix (v:=.pointer (some ⟨aa,171+Int.toNat ab*26,none⟩)) rfl rfl (run_indexS Try.underlying88 Sz87 (by omega) (by omega))) ?_;refine t_l2 rfl rfl ?_ ?_
 ·skip
  refine t_alloc (cs:=[.pointer none]) H Al160 rfl ?_;intro ai cz H
  refine s_nil ⟨(H.pk [1,2,3]),?_⟩
  refine t_l rfl ?_;refine t_alloc (cs:=[.pointer none]) H Al161 rfl ?_;intro aj cA H
  refine s_nil ⟨(H.pk [2,3,4]),?_⟩
  refine t_l rfl ?_;refine t_sw 1 0 [.pointer (some ⟨aa,2+Int.toNat ab*13,none⟩)] (.pointer (some ⟨aa,2+Int.toNat ab*13,none⟩)) H rfl rfl Sz160 rfl rfl rfl rfl ?_;intro cB H
  refine s_nil ⟨(H.pk [2,3,4]),?_⟩
  refine t_l rfl ?_;refine t_sw 0 0 [.pointer (some ⟨aa,171+Int.toNat ab*26,none⟩)] (.pointer (some ⟨aa,171+Int.toNat ab*26,none⟩)) H rfl rfl Sz161 rfl rfl rfl rfl ?_;intro cC H
  refine s_nil ⟨(H.pk [2,3,4]),?_⟩
  refine t_nil<|WD.seq<|WD.of ?_;refine kg 8 ?_;refine WD.block ?_;obtain ⟨bL,a5,bM⟩:=M.e_bind hM
  obtain ⟨a6,a5⟩:=M.e_iter a5
  refine WD.loop (fun m bu σ W=>∃ (s6:List Int) (s7:List Leg) (s8:Nat) (ρ:Env),σ=upds ρ [(2,Pq ah),(4,Pq ai),(5,Pq aj),(23,I ac),(24,I (s8:Int))]/\M.iterN (zap ac am ab) m (s6,s7,s8)=some bL/\St w W [cBlk aj [.pointer (some ⟨aa,171+Int.toNat ab*26,none⟩)] 161,cBlk ai [.pointer (some ⟨aa,2+Int.toNat ab*13,none⟩)] 160,cBlk ah [Pq aa] 79,cMk bu,cBlk aa (List.flatten [[I ac,ae],encF (α:=Int) s6,encF (α:=Leg) s7]) 90] R/\s6.length=169/\s7.length=169) ?_ ?_
  ·exact ⟨_,aJ,aK,0,_,upds_of _ _ ⟨rfl,rfl,rfl,rfl,rfl,trivial⟩,a5,H,br,bt⟩
  rintro cD bu σ cE ⟨s6,s7,s8,ρ,rfl,bv,H,aV,aW⟩
  obtain ⟨bN,bO,cF,hM,bw⟩:=M.e_iterN bv
  simp only [zap] at hM
  clear bv;refine WD.seq<|WD.of ?_;refine kg 3 ?_;refine WD.seq ?_
  refine WD.cond (decide ((s8:Int)<ac)) rfl (fun aL=>?_) (fun aL=>?_)
  ·replace hM:=M.e_t hM aL
   replace aL:=dI aL
   refine WD.of<|W.skip<|WD.seq<|WD.block<|WD.seq<|WD.of ?_;refine kg 8 ?_;refine WD.block ?_;obtain ⟨bP,a7,bQ⟩:=M.e_bind hM
   obtain ⟨a6,a7⟩:=M.e_iter a7
   refine WD.loop (fun m aB σ W=>∃ (s3:Nat) (s4:List Int) (s5:List Leg) (ρ:Env),σ=upds ρ [(2,Pq ah),(4,Pq ai),(5,Pq aj),(23,I ac),(24,I (s8:Int)),(30,I ac),(31,I (s3:Int))]/\M.iterN (zan ac am ab) m (s3,s4,s5)=some bP/\St w W [cBlk aj [.pointer (some ⟨aa,171+Int.toNat ab*26,none⟩)] 161,cBlk ai [.pointer (some ⟨aa,2+Int.toNat ab*13,none⟩)] 160,cBlk ah [Pq aa] 79,cMk aB,cBlk aa (List.flatten [[I ac,ae],encF (α:=Int) s4,encF (α:=Leg) s5]) 90] R/\s4.length=169/\s5.length=169) ?_ ?_
   ·exact ⟨_,0,s6,s7,_,upds_of _ _ ⟨rfl,rfl,rfl,rfl,rfl,rfl,rfl,trivial⟩,a7,H,aV,aW⟩
   rintro cG aB σ cH ⟨s3,s4,s5,ρ,rfl,bx,H,aE,aM⟩
   obtain ⟨bz,bA,cI,hM,a8⟩:=M.e_iterN bx
   simp only [zan] at hM
   clear bx;refine WD.seq<|WD.of ?_;refine kg 3 ?_;refine WD.seq ?_
   refine WD.cond (decide ((s3:Int)<ac)) rfl (fun aN=>?_) (fun aN=>?_)
   ·replace hM:=M.e_t hM aN
    replace aN:=dI aN
    refine WD.of<|W.skip<|WD.seq<|WD.block<|WD.seq<|WD.of ?_;refine kg 2 ?_;refine t_alloc (cs:=[I 0]) H Al3 rfl ?_;intro ap cJ H;refine t_sw 0 0 [I (s3:Int)] (I (s3:Int)) H rfl rfl Sz3 rfl rfl rfl rfl ?_;intro cK H;refine s_nil<|WD.seq<|WD.seq<|WD.of ?_;refine W.draw (fun W=>St w W [cBlk ap [I (s3:Int)] 3,cBlk aj [.pointer (some ⟨aa,171+Int.toNat ab*26,none⟩)] 161,cBlk ai [.pointer (some ⟨aa,2+Int.toNat ab*13,none⟩)] 160,cBlk ah [Pq aa] 79,cMk aB,cBlk aa (List.flatten [[I ac,ae],encF (α:=Int) s4,encF (α:=Leg) s5]) 90] R) [(0,true),(1,true),(2,true),(3,true),(4,true),(5,true)] mixed (by decide +kernel) rfl ?_;intro cL ao;replace H:=H.ext ao;clear ao
    refine ⟨(H.pk [0,1,2,3,4,5]),?_⟩
    obtain ⟨cM,hM⟩:=M.e_gd hM;refine kg 3 ?_;refine d_q rfl (fun w' H=>x_ix (v:=.pointer (some ⟨aa,(2+Int.toNat ab*13)+Int.toNat (s3:Int)*1,none⟩)) rfl rfl (run_indexS Try.underlying82 Sz3 (by omega) (by omega)))<|d_q rfl (fun w' H=>x_ld (v:=I (s4.getD ((Int.toNat ab)*13+s3) 0)) rfl (ldS (α:=Int) (k:=1) (off:=2) (i:=(Int.toNat ab)*13+s3) (f:=0) (sz:=1) 0 Sc3 (H.bl 5) rfl (sgo1 rfl) rfl (by decide) (by have aF:=aE; omega) (by omega) rfl)) ?_;refine kg 2 ?_
    refine WD.cond ((s4.getD ((Int.toNat ab)*13+s3) 0)==1099511627776) rfl (fun aO=>?_) (fun aO=>?_)
    ·replace hM:=M.e_t hM aO
     replace aO:=dI aO
     refine WD.of ?_;refine W.exit<|WD.of ?_;obtain ⟨cN,hM⟩:=M.e_gd hM;refine kg 4 ?_
     exact ⟨bz,bA,s3+1,s4,s5,_,upds_of _ _ ⟨rfl,rfl,rfl,rfl,rfl,rfl,rfl,trivial⟩,M.e_inl hM a8,(H.pk [1,2,3,4,5]),aE,aM⟩
    replace hM:=M.e_f hM aO
    replace aO:=dI aO
    refine WD.of<|W.skip<|WD.seq<|WD.of ?_;refine kg 3 ?_;obtain ⟨cO,bR,hM⟩:=M.e_bind hM;refine s_call cf87 [Pq aa,I (s3:Int)] rfl (zb3 ac am (s3:Int) (aw.app _) ay (Fld.here (k:=5) rfl rfl) bR _ (H.gt 6)) ?_
    rintro vq cP ⟨aq,au,av,rfl,hvq,ag⟩
    subst vq;(try dsimp only at hM);replace H:=H.bk ag;clear ag;refine s_nil<|WD.block ?_;obtain ⟨cQ,bS,hM⟩:=M.e_bind hM;refine WD.range (L:=[cBlk aa (List.flatten [[I ac,ae],encF (α:=Int) s4,encF (α:=Leg) s5]) 90,cBlk au [Pq aa] 79,cBlk av [I aq] 3,cBlk ap [I (s3:Int)] 3,cBlk aj [.pointer (some ⟨aa,171+Int.toNat ab*26,none⟩)] 161,cBlk ai [.pointer (some ⟨aa,2+Int.toNat ab*13,none⟩)] 160,cBlk ah [Pq aa] 79]) [Pq au,Pq av] (H.pk [6,7,0,1,2,3,4,5]) rfl cf93 ?_;intro aZ aH a9 bT ba H
    have hYC:YieldC Try.prog ([cMk (aH :: aB),cBlk au [Pq aa] 79,cBlk av [I aq] 3,cBlk ap [I (s3:Int)] 3,cBlk aj [.pointer (some ⟨aa,171+Int.toNat ab*26,none⟩)] 161,cBlk ai [.pointer (some ⟨aa,2+Int.toNat ab*13,none⟩)] 160,cBlk ah [Pq aa] 79]++R) arLeg (yJ aZ a9 (fun (s,s2) aG=>aG=[cBlk aa (List.flatten [[I ac,ae],encF (α:=Int) s,encF (α:=Leg) s2]) 90]/\s.length=169/\s2.length=169) (fun (_:Unit) _=>False) (fun _=>.ret)) (.func (.yield aZ) #[] #[]) (M.yl (zab ac am ab s3)):=by
     refine YieldC.mk2 ba (fun (s,s2) aG=>aG=[cBlk aa (List.flatten [[I ac,ae],encF (α:=Int) s,encF (α:=Leg) s2]) 90]/\s.length=169/\s2.length=169) (fun (_:Unit) _=>False) (fun _=>.ret) (zab ac am ab s3) (by rintro ⟨s,s2⟩ _ h_; obtain ⟨rfl,_,_⟩:=h_; rfl) (fun _ _ h_=>h_.elim) rfl (arLeg_len rfl) ?_;intro C_ bU x bb
     obtain rfl:=bb
     intro w R aP aG s_ r bc hM H
     obtain ⟨s,s2⟩:=s_
     obtain ⟨rfl,ax,aC⟩:=bc
     replace H:=H.nf;refine W.region rfl ?_;refine t_alloc (cs:=[I 0,B false]) H Al86 rfl ?_;intro az cR H;refine t_sw 0 0 [I x.line,B x.back] (.agg #[I x.line,B x.back]) H rfl rfl Sz86 rfl rfl rfl rfl ?_;intro cS H;refine s_nil ?_
     refine ⟨rfl,[cBlk az [I x.line,B x.back] 86],H.pick [0,1,2,3,4,5,6,7,8] (by decide) rfl,?_⟩
     clear H aP
     intro w R aP H
     replace aw:=aw.sub aP
     replace hM:(zab ac am ab s3 (s,s2) x).Ends r:=hM
     simp only [zab] at hM
     replace H:=H.nf;refine kg 2 ?_;refine W.draw (fun W=>St w W [cBlk az [I x.line,B x.back] 86,cBlk aa (List.flatten [[I ac,ae],encF (α:=Int) s,encF (α:=Leg) s2]) 90,cMk (aH :: aB),cBlk au [Pq aa] 79,cBlk av [I aq] 3,cBlk ap [I (s3:Int)] 3,cBlk aj [.pointer (some ⟨aa,171+Int.toNat ab*26,none⟩)] 161,cBlk ai [.pointer (some ⟨aa,2+Int.toNat ab*13,none⟩)] 160,cBlk ah [Pq aa] 79] R) [(0,true),(1,true),(2,true),(3,true),(4,true),(5,true),(6,true),(7,false),(8,false),(9,false),(10,true)] mixed (by decide +kernel) rfl ?_;intro cT ao;replace H:=H.ext ao;clear ao
     refine ⟨(H.pk [0,1,2,3,4,5,6,7,8]),?_⟩
     refine kg 3 ?_;refine d_q rfl (fun w' H=>x_ix (v:=.pointer (some ⟨aa,(2+Int.toNat ab*13)+Int.toNat (s3:Int)*1,none⟩)) rfl rfl (run_indexS Try.underlying82 Sz3 (by omega) (by omega)))<|d_q rfl (fun w' H=>x_ld (v:=I (s.getD ((Int.toNat ab)*13+s3) 0)) rfl (ldS (α:=Int) (k:=1) (off:=2) (i:=(Int.toNat ab)*13+s3) (f:=0) (sz:=1) 0 Sc3 (H.bl 1) rfl (sgo1 rfl) rfl (by decide) (by have aF:=ax; omega) (by omega) rfl)) ?_;refine kg 2 ?_;refine d_l rfl ?_;obtain ⟨cU,bV,hM⟩:=M.e_bind hM;refine s_call cf88 [Pq aa,.agg #[I x.line,B x.back]] rfl (zcz ac am x (aw.app _) ay (Fld.here (k:=1) rfl rfl) bV _ (H.gt 9)) ?_
     rintro vq cV ⟨r2,rfl,hvq,ag⟩
     subst vq;(try dsimp only at hM);replace H:=H.bk ag;clear ag
     refine s_nil ⟨(H.pk [0,1,2,3,4,5,6,7,8]),?_⟩
     refine d_l rfl ?_;refine t_bs (α:=Int) T26 [I (s.getD ((Int.toNat ab)*13+s3) 0),I r2] [(s.getD ((Int.toNat ab)*13+s3) 0:Int),(r2:Int)] H rfl (.cons rfl (Flat.rep_enc _ (s.getD ((Int.toNat ab)*13+s3) 0:Int))<|.cons rfl (Flat.rep_enc _ (r2:Int))<|.nil) rfl rfl rfl ?_;intro aX cW H
     have cX:=Sl.cells (H.os 0)
     have cY:=Sl.oc (H.os 0)
     refine s_nil ⟨(H.pk [1,2,3,4,5,6,7,8,9]),?_⟩
     refine d_l rfl ?_;obtain ⟨cZ,bW,hM⟩:=M.e_bind hM;refine s_call cf96 [aX] rfl (zcT ([(s.getD ((Int.toNat ab)*13+s3) 0:Int),(r2:Int)]) (rdo 0) (H.os 0) bW _ (H.gt 10)) ?_
     rintro vq c6 ⟨r3,rfl,hvq,ag⟩
     subst vq;(try dsimp only at hM);replace H:=H.bk ag;clear ag
     refine s_nil ⟨(H.pk [1,2,3,4,5,6,7,8,9]),?_⟩
     refine kg 3 ?_;refine W.draw (fun W=>St w W [cOwn (α:=Int) 3 aX ([(s.getD ((Int.toNat ab)*13+s3) 0:Int),(r2:Int)]),cBlk az [I x.line,B x.back] 86,cBlk aa (List.flatten [[I ac,ae],encF (α:=Int) s,encF (α:=Leg) s2]) 90,cMk (aH :: aB),cBlk au [Pq aa] 79,cBlk av [I aq] 3,cBlk ap [I (s3:Int)] 3,cBlk aj [.pointer (some ⟨aa,171+Int.toNat ab*26,none⟩)] 161,cBlk ai [.pointer (some ⟨aa,2+Int.toNat ab*13,none⟩)] 160,cBlk ah [Pq aa] 79] R) [(0,true),(1,true),(2,true),(3,true),(5,true),(4,false),(6,true),(7,true),(8,true)] mixed (by decide +kernel) rfl ?_;intro c7 ao;replace H:=H.ext ao;clear ao
     refine ⟨(H.pk [0,1,2,3,4,5,6,7,8,9]),?_⟩
     refine kg 5 ?_;refine d_l rfl ?_;obtain ⟨c8,bX,hM⟩:=M.e_bind hM;refine s_call cf89 [Pq aa,.agg #[I x.line,B x.back]] rfl (zar ac am x (aw.app _) ay (Fld.here (k:=2) rfl rfl) bX _ (H.gt 10)) ?_
     rintro vq c9 ⟨r4,rfl,hvq,ag⟩
     subst vq;(try dsimp only at hM);replace H:=H.bk ag;clear ag
     refine s_nil ⟨(H.pk [0,1,2,3,4,5,6,7,8,9]),?_⟩
     obtain ⟨da,hM⟩:=M.e_gd hM;refine d_q rfl (fun w' H=>x_ix (v:=.pointer (some ⟨aa,(2+Int.toNat ab*13)+Int.toNat r4*1,none⟩)) rfl rfl (run_indexS Try.underlying82 Sz3 (by omega) (by omega)))<|d_q rfl (fun w' H=>x_ld (v:=I (s.getD ((Int.toNat ab)*13+(Int.toNat r4)) 0)) rfl (ldS (α:=Int) (k:=1) (off:=2) (i:=(Int.toNat ab)*13+(Int.toNat r4)) (f:=0) (sz:=1) 0 Sc3 (H.bl 2) rfl (sgo1 rfl) rfl (by decide) (by have aF:=ax; omega) (by omega) rfl)) ?_;refine kg 2 ?_
     refine W.cond (decide (r3<(s.getD ((Int.toNat ab)*13+(Int.toNat r4)) 0))) rfl (fun aQ=>?_) (fun aQ=>?_)
     ·replace hM:=M.e_t hM aQ
      replace aQ:=dI aQ
      refine W.draw (fun W=>St w W [cOwn (α:=Int) 3 aX ([(s.getD ((Int.toNat ab)*13+s3) 0:Int),(r2:Int)]),cBlk az [I x.line,B x.back] 86,cMk (aH :: aB),cBlk au [Pq aa] 79,cBlk av [I aq] 3,cBlk ap [I (s3:Int)] 3,cBlk aj [.pointer (some ⟨aa,171+Int.toNat ab*26,none⟩)] 161,cBlk ai [.pointer (some ⟨aa,2+Int.toNat ab*13,none⟩)] 160,cBlk ah [Pq aa] 79] R) [(0,true),(1,true),(2,true),(4,true),(5,true),(6,true),(8,true),(9,true),(10,true),(13,true),(3,false),(7,false),(11,true),(12,false),(14,true),(15,false)] mixed (by decide +kernel) rfl ?_;intro db ao;replace H:=H.ext ao;clear ao
      refine ⟨(H.pk [0,1,3,4,5,6,7,8,9]),?_⟩
      refine kg 10 ?_;refine d_l rfl ?_;obtain ⟨dc,bY,hM⟩:=M.e_bind hM;refine s_call cf89 [Pq aa,.agg #[I x.line,B x.back]] rfl (zar ac am x (aw.app _) ay (Fld.here (k:=2) rfl rfl) bY _ (H.gt 10)) ?_
      rintro vq dg ⟨r5,rfl,hvq,ag⟩
      subst vq;(try dsimp only at hM);replace H:=H.bk ag;clear ag
      refine s_nil ⟨(H.pk [0,1,3,4,5,6,7,8,9]),?_⟩
      refine d_l rfl ?_;obtain ⟨dh,bZ,hM⟩:=M.e_bind hM;refine s_call cf89 [Pq aa,.agg #[I x.line,B x.back]] rfl (zar ac am x (aw.app _) ay (Fld.here (k:=2) rfl rfl) bZ _ (H.gt 10)) ?_
      rintro vq di ⟨r6,rfl,hvq,ag⟩
      subst vq;(try dsimp only at hM);replace H:=H.bk ag;clear ag
      refine s_nil ⟨(H.pk [0,1,3,4,5,6,7,8,9]),?_⟩
      obtain ⟨dj,hM⟩:=M.e_gd hM;refine d_q rfl (fun w' H=>x_ix (v:=.pointer (some ⟨aa,(2+Int.toNat ab*13)+Int.toNat r5*1,none⟩)) rfl rfl (run_indexS Try.underlying82 Sz3 (by omega) (by omega)))<|d_l rfl ?_;refine t_stS (α:=Int) (kc:=2) (b:=aa) (k:=1) (off:=2) (i:=(Int.toNat ab)*13+(Int.toNat r5)) (f:=0) (sz:=1) (segs:=[[I ac,ae],encF (α:=Int) s,encF (α:=Leg) s2]) (segs':=[[I ac,ae],encF (α:=Int) (s.set ((Int.toNat ab)*13+(Int.toNat r5)) r3),encF (α:=Leg) s2]) (l:=s) (l':=s.set ((Int.toNat ab)*13+(Int.toNat r5)) r3) (vs:=[I r3]) (L':=[cOwn (α:=Int) 3 aX ([(s.getD ((Int.toNat ab)*13+s3) 0:Int),(r2:Int)]),cBlk az [I x.line,B x.back] 86,cBlk aa (List.flatten [[I ac,ae],encF (α:=Int) (s.set ((Int.toNat ab)*13+(Int.toNat r5)) r3),encF (α:=Leg) s2]) 90,cMk (aH :: aB),cBlk au [Pq aa] 79,cBlk av [I aq] 3,cBlk ap [I (s3:Int)] 3,cBlk aj [.pointer (some ⟨aa,171+Int.toNat ab*26,none⟩)] 161,cBlk ai [.pointer (some ⟨aa,2+Int.toNat ab*13,none⟩)] 160,cBlk ah [Pq aa] 79]) H rfl rfl rfl Sz3 rfl rfl rfl rfl (sgo1 rfl) rfl rfl (by have aF:=ax; omega) (by omega) 0 r3 rfl rfl rfl rfl ?_;intro dk H
      have bB:(s.set ((Int.toNat ab)*13+(Int.toNat r5)) r3).length=169:=List.length_set.trans ax
      refine s_nil ⟨(H.pk [0,1,3,4,5,6,7,8,9]),?_⟩
      obtain ⟨dl,hM⟩:=M.e_gd hM;refine d_q rfl (fun w' H=>x_ix (v:=.pointer (some ⟨aa,(171+Int.toNat ab*26)+Int.toNat r6*2,none⟩)) rfl rfl (run_indexS Try.underlying87 Sz86 (by omega) (by omega)))<|d_l rfl ?_;refine t_stS (α:=Leg) (kc:=2) (b:=aa) (k:=2) (off:=171) (i:=(Int.toNat ab)*13+(Int.toNat r6)) (f:=0) (sz:=2) (segs:=[[I ac,ae],encF (α:=Int) (s.set ((Int.toNat ab)*13+(Int.toNat r5)) r3),encF (α:=Leg) s2]) (segs':=[[I ac,ae],encF (α:=Int) (s.set ((Int.toNat ab)*13+(Int.toNat r5)) r3),encF (α:=Leg) (s2.set ((Int.toNat ab)*13+(Int.toNat r6)) x)]) (l:=s2) (l':=s2.set ((Int.toNat ab)*13+(Int.toNat r6)) x) (vs:=[I x.line,B x.back]) (L':=[cOwn (α:=Int) 3 aX ([(s.getD ((Int.toNat ab)*13+s3) 0:Int),(r2:Int)]),cBlk az [I x.line,B x.back] 86,cBlk aa (List.flatten [[I ac,ae],encF (α:=Int) (s.set ((Int.toNat ab)*13+(Int.toNat r5)) r3),encF (α:=Leg) (s2.set ((Int.toNat ab)*13+(Int.toNat r6)) x)]) 90,cMk (aH :: aB),cBlk au [Pq aa] 79,cBlk av [I aq] 3,cBlk ap [I (s3:Int)] 3,cBlk aj [.pointer (some ⟨aa,171+Int.toNat ab*26,none⟩)] 161,cBlk ai [.pointer (some ⟨aa,2+Int.toNat ab*13,none⟩)] 160,cBlk ah [Pq aa] 79]) H rfl rfl rfl Sz86 rfl rfl rfl rfl (sgo2 bB rfl) rfl rfl (by have aF:=aC; omega) (by omega) default x rfl rfl rfl rfl ?_;intro dm H
      have b7:(s2.set ((Int.toNat ab)*13+(Int.toNat r6)) x).length=169:=List.length_set.trans aC
      refine s_nil ⟨(H.pk [0,1,3,4,5,6,7,8,9]),?_⟩
      refine d_nil ?_
      exact ⟨(s.set ((Int.toNat ab)*13+(Int.toNat r5)) r3,s2.set ((Int.toNat ab)*13+(Int.toNat r6)) x),[cBlk aa (List.flatten [[I ac,ae],encF (α:=Int) (s.set ((Int.toNat ab)*13+(Int.toNat r5)) r3),encF (α:=Leg) (s2.set ((Int.toNat ab)*13+(Int.toNat r6)) x)]) 90],(M.e_pure hM).symm,⟨rfl,bB,b7⟩,H.pick [2,3,4,5,6,7,8,9] (by decide) rfl⟩
     replace hM:=M.e_f hM aQ
     replace aQ:=dI aQ
     refine W.skip ?_
     exact ⟨(s,s2),[cBlk aa (List.flatten [[I ac,ae],encF (α:=Int) s,encF (α:=Leg) s2]) 90],(M.e_pure hM).symm,⟨rfl,ax,aC⟩,H.pick [2,3,4,5,6,7,8,9] (by decide) rfl⟩
    replace H:St w bT (cAll (cObj aZ (.loop a9) :: [cBlk aa (List.flatten [[I ac,ae],encF (α:=Int) s4,encF (α:=Leg) s5]) 90]) :: [cMk (aH :: aB),cBlk au [Pq aa] 79,cBlk av [I aq] 3,cBlk ap [I (s3:Int)] 3,cBlk aj [.pointer (some ⟨aa,171+Int.toNat ab*26,none⟩)] 161,cBlk ai [.pointer (some ⟨aa,2+Int.toNat ab*13,none⟩)] 160,cBlk ah [Pq aa] 79]) R:=St.bundleB (A:=cObj aZ (.loop a9) :: [cBlk aa (List.flatten [[I ac,ae],encF (α:=Int) s4,encF (α:=Leg) s5]) 90]) (T:=[cMk (aH :: aB),cBlk au [Pq aa] 79,cBlk av [I aq] 3,cBlk ap [I (s3:Int)] 3,cBlk aj [.pointer (some ⟨aa,171+Int.toNat ab*26,none⟩)] 161,cBlk ai [.pointer (some ⟨aa,2+Int.toNat ab*13,none⟩)] 160,cBlk ah [Pq aa] 79]) rfl (H.pk [0,2,1,3,4,5,6,7,8])
    refine (zcg (M.yl (zab ac am ab s3)) (.inl (s4,s5)) ac am aq hYC ⟨_,rfl,⟨rfl,aE,aM⟩⟩ (aw.app _) ay (by rintro (⟨s,s2⟩ | _) _ h_; (obtain ⟨_,rfl,rfl,_,_⟩:=h_; exact Fld.all (Fld.here (k:=1) rfl rfl)); (obtain ⟨_,_,h_⟩:=h_; exact h_.elim)) (Has.here (k:=1) rfl) (Has.here (k:=2) rfl) bS _ (H.gt 7)).mono ?_
    rintro vq dp ⟨b8,dq,rfl,hvq,ag,bC⟩
    replace H:=H.back ag rfl
    clear ag hYC
    rcases b8 with ⟨s,s2⟩ | _
    ·(try dsimp only at hM)
     obtain ⟨_,rfl,rfl,ax,aC⟩:=bC
     refine ⟨_,[cBlk aa (List.flatten [[I ac,ae],encF (α:=Int) s,encF (α:=Leg) s2]) 90,cBlk au [Pq aa] 79,cBlk av [I aq] 3,cBlk ap [I (s3:Int)] 3,cBlk aj [.pointer (some ⟨aa,171+Int.toNat ab*26,none⟩)] 161,cBlk ai [.pointer (some ⟨aa,2+Int.toNat ab*13,none⟩)] 160,cBlk ah [Pq aa] 79],H.unbundle.pick [0,2,1,3,4,5,6,7,8] (by decide) rfl,ba.nb,?_⟩
     intro dr H
     rw [ba.pd]
     replace H:=H.nf
     try simp only []
     replace H:=H.pk [0,1,5,6,7];refine WD.of ?_;obtain ⟨dt,hM⟩:=M.e_gd hM;refine kg 4 ?_
     exact ⟨bz,bA,s3+1,s,s2,_,upds_of _ _ ⟨rfl,rfl,rfl,rfl,rfl,rfl,rfl,trivial⟩,M.e_inl hM a8,(H.pk [2,3,4,0,1]),ax,aC⟩
    obtain ⟨_,_,h_⟩:=bC; exact h_.elim
   replace hM:=M.e_f hM aN
   replace aN:=dI aN
   refine WD.of ?_;refine W.exit ?_
   have b9:=M.e_inr hM a8
   subst b9;replace hM:=bQ;(try dsimp only at hM);refine WD.of ?_;obtain ⟨du,hM⟩:=M.e_gd hM;refine kg 4 ?_
   exact ⟨bN,bO,s4,s5,s8+1,_,upds_of _ _ ⟨rfl,rfl,rfl,rfl,rfl,trivial⟩,M.e_inl hM bw,H,aE,aM⟩
  replace hM:=M.e_f hM aL
  replace aL:=dI aL
  refine WD.of ?_;refine W.exit ?_
  have ca:=M.e_inr hM bw
  subst ca;replace hM:=bM;(try dsimp only at hM);refine bodyD_n (H.pk [3,0,1,2,4]) ?_;intro dv H;replace H:=H.nf
  have bg:=M.e_pure hM
  exact ⟨_,resE_tmp0 rfl,⟨s6,s7,bg,rfl,(H.pk [3]),aV,aW⟩⟩
 skip
 refine t_alloc (cs:=[.pointer none]) H Al161 rfl ?_;intro aj dw H
 refine s_nil ⟨(H.pk [1,2,3]),?_⟩
 refine t_l rfl ?_;refine t_alloc (cs:=[.pointer none]) H Al160 rfl ?_;intro ai dy H
 refine s_nil ⟨(H.pk [2,3,4]),?_⟩
 refine t_l rfl ?_;refine t_sw 0 0 [.pointer (some ⟨aa,2+Int.toNat ab*13,none⟩)] (.pointer (some ⟨aa,2+Int.toNat ab*13,none⟩)) H rfl rfl Sz160 rfl rfl rfl rfl ?_;intro dz H
 refine s_nil ⟨(H.pk [2,3,4]),?_⟩
 refine t_l rfl ?_;refine t_sw 1 0 [.pointer (some ⟨aa,171+Int.toNat ab*26,none⟩)] (.pointer (some ⟨aa,171+Int.toNat ab*26,none⟩)) H rfl rfl Sz161 rfl rfl rfl rfl ?_;intro dA H
 refine s_nil ⟨(H.pk [2,3,4]),?_⟩
 refine t_nil<|WD.seq<|WD.of ?_;refine kg 8 ?_;refine WD.block ?_;obtain ⟨cb,bh,cc⟩:=M.e_bind hM
 obtain ⟨a6,bh⟩:=M.e_iter bh
 refine WD.loop (fun m bD σ W=>∃ (s6:List Int) (s7:List Leg) (s8:Nat) (ρ:Env),σ=upds ρ [(2,Pq ah),(4,Pq ai),(5,Pq aj),(23,I ac),(24,I (s8:Int))]/\M.iterN (zap ac am ab) m (s6,s7,s8)=some cb/\St w W [cBlk ai [.pointer (some ⟨aa,2+Int.toNat ab*13,none⟩)] 160,cBlk aj [.pointer (some ⟨aa,171+Int.toNat ab*26,none⟩)] 161,cBlk ah [Pq aa] 79,cMk bD,cBlk aa (List.flatten [[I ac,ae],encF (α:=Int) s6,encF (α:=Leg) s7]) 90] R/\s6.length=169/\s7.length=169) ?_ ?_
 ·exact ⟨_,aJ,aK,0,_,upds_of _ _ ⟨rfl,rfl,rfl,rfl,rfl,trivial⟩,bh,H,br,bt⟩
 rintro dB bD σ dC ⟨s6,s7,s8,ρ,rfl,bE,H,aV,aW⟩
 obtain ⟨cd,ce,dD,hM,bF⟩:=M.e_iterN bE
 simp only [zap] at hM
 clear bE;refine WD.seq<|WD.of ?_;refine kg 3 ?_;refine WD.seq ?_
 refine WD.cond (decide ((s8:Int)<ac)) rfl (fun aR=>?_) (fun aR=>?_)
 ·replace hM:=M.e_t hM aR
  replace aR:=dI aR
  refine WD.of<|W.skip<|WD.seq<|WD.block<|WD.seq<|WD.of ?_;refine kg 8 ?_;refine WD.block ?_;obtain ⟨cf,bi,cg⟩:=M.e_bind hM
  obtain ⟨a6,bi⟩:=M.e_iter bi
  refine WD.loop (fun m aD σ W=>∃ (s3:Nat) (s4:List Int) (s5:List Leg) (ρ:Env),σ=upds ρ [(2,Pq ah),(4,Pq ai),(5,Pq aj),(23,I ac),(24,I (s8:Int)),(30,I ac),(31,I (s3:Int))]/\M.iterN (zan ac am ab) m (s3,s4,s5)=some cf/\St w W [cBlk ai [.pointer (some ⟨aa,2+Int.toNat ab*13,none⟩)] 160,cBlk aj [.pointer (some ⟨aa,171+Int.toNat ab*26,none⟩)] 161,cBlk ah [Pq aa] 79,cMk aD,cBlk aa (List.flatten [[I ac,ae],encF (α:=Int) s4,encF (α:=Leg) s5]) 90] R/\s4.length=169/\s5.length=169) ?_ ?_
  ·exact ⟨_,0,s6,s7,_,upds_of _ _ ⟨rfl,rfl,rfl,rfl,rfl,rfl,rfl,trivial⟩,bi,H,aV,aW⟩
  rintro dE aD σ dF ⟨s3,s4,s5,ρ,rfl,bG,H,aE,aM⟩
  obtain ⟨bH,bI,dG,hM,bj⟩:=M.e_iterN bG
  simp only [zan] at hM
  clear bG;refine WD.seq<|WD.of ?_;refine kg 3 ?_;refine WD.seq ?_
  refine WD.cond (decide ((s3:Int)<ac)) rfl (fun aS=>?_) (fun aS=>?_)
  ·replace hM:=M.e_t hM aS
   replace aS:=dI aS
   refine WD.of<|W.skip<|WD.seq<|WD.block<|WD.seq<|WD.of ?_;refine kg 2 ?_;refine t_alloc (cs:=[I 0]) H Al3 rfl ?_;intro ap dH H;refine t_sw 0 0 [I (s3:Int)] (I (s3:Int)) H rfl rfl Sz3 rfl rfl rfl rfl ?_;intro dJ H;refine s_nil<|WD.seq<|WD.seq<|WD.of ?_;refine W.draw (fun W=>St w W [cBlk ap [I (s3:Int)] 3,cBlk ai [.pointer (some ⟨aa,2+Int.toNat ab*13,none⟩)] 160,cBlk aj [.pointer (some ⟨aa,171+Int.toNat ab*26,none⟩)] 161,cBlk ah [Pq aa] 79,cMk aD,cBlk aa (List.flatten [[I ac,ae],encF (α:=Int) s4,encF (α:=Leg) s5]) 90] R) [(0,true),(1,true),(2,true),(3,true),(4,true),(5,true)] mixed (by decide +kernel) rfl ?_;intro dK ao;replace H:=H.ext ao;clear ao
   refine ⟨(H.pk [0,1,2,3,4,5]),?_⟩
   obtain ⟨dL,hM⟩:=M.e_gd hM;refine kg 3 ?_;refine d_q rfl (fun w' H=>x_ix (v:=.pointer (some ⟨aa,(2+Int.toNat ab*13)+Int.toNat (s3:Int)*1,none⟩)) rfl rfl (run_indexS Try.underlying82 Sz3 (by omega) (by omega)))<|d_q rfl (fun w' H=>x_ld (v:=I (s4.getD ((Int.toNat ab)*13+s3) 0)) rfl (ldS (α:=Int) (k:=1) (off:=2) (i:=(Int.toNat ab)*13+s3) (f:=0) (sz:=1) 0 Sc3 (H.bl 5) rfl (sgo1 rfl) rfl (by decide) (by have aF:=aE; omega) (by omega) rfl)) ?_;refine kg 2 ?_
   refine WD.cond ((s4.getD ((Int.toNat ab)*13+s3) 0)==1099511627776) rfl (fun aT=>?_) (fun aT=>?_)
   ·replace hM:=M.e_t hM aT
    replace aT:=dI aT
    refine WD.of ?_;refine W.exit<|WD.of ?_;obtain ⟨dM,hM⟩:=M.e_gd hM;refine kg 4 ?_
    exact ⟨bH,bI,s3+1,s4,s5,_,upds_of _ _ ⟨rfl,rfl,rfl,rfl,rfl,rfl,rfl,trivial⟩,M.e_inl hM bj,(H.pk [1,2,3,4,5]),aE,aM⟩
   replace hM:=M.e_f hM aT
   replace aT:=dI aT
   refine WD.of<|W.skip<|WD.seq<|WD.of ?_;refine kg 3 ?_;obtain ⟨dN,ch,hM⟩:=M.e_bind hM;refine s_call cf87 [Pq aa,I (s3:Int)] rfl (zb3 ac am (s3:Int) (aw.app _) ay (Fld.here (k:=5) rfl rfl) ch _ (H.gt 6)) ?_
   rintro vq dO ⟨aq,au,av,rfl,hvq,ag⟩
   subst vq;(try dsimp only at hM);replace H:=H.bk ag;clear ag;refine s_nil<|WD.block ?_;obtain ⟨dP,ci,hM⟩:=M.e_bind hM;refine WD.range (L:=[cBlk aa (List.flatten [[I ac,ae],encF (α:=Int) s4,encF (α:=Leg) s5]) 90,cBlk au [Pq aa] 79,cBlk av [I aq] 3,cBlk ap [I (s3:Int)] 3,cBlk ai [.pointer (some ⟨aa,2+Int.toNat ab*13,none⟩)] 160,cBlk aj [.pointer (some ⟨aa,171+Int.toNat ab*26,none⟩)] 161,cBlk ah [Pq aa] 79]) [Pq au,Pq av] (H.pk [6,7,0,1,2,3,4,5]) rfl cf93 ?_;intro a4 aI bm cj bn H
   have hYC:YieldC Try.prog ([cMk (aI :: aD),cBlk au [Pq aa] 79,cBlk av [I aq] 3,cBlk ap [I (s3:Int)] 3,cBlk ai [.pointer (some ⟨aa,2+Int.toNat ab*13,none⟩)] 160,cBlk aj [.pointer (some ⟨aa,171+Int.toNat ab*26,none⟩)] 161,cBlk ah [Pq aa] 79]++R) arLeg (yJ a4 bm (fun (s,s2) aG=>aG=[cBlk aa (List.flatten [[I ac,ae],encF (α:=Int) s,encF (α:=Leg) s2]) 90]/\s.length=169/\s2.length=169) (fun (_:Unit) _=>False) (fun _=>.ret)) (.func (.yield a4) #[] #[]) (M.yl (zab ac am ab s3)):=by
    refine YieldC.mk2 bn (fun (s,s2) aG=>aG=[cBlk aa (List.flatten [[I ac,ae],encF (α:=Int) s,encF (α:=Leg) s2]) 90]/\s.length=169/\s2.length=169) (fun (_:Unit) _=>False) (fun _=>.ret) (zab ac am ab s3) (by rintro ⟨s,s2⟩ _ h_; obtain ⟨rfl,_,_⟩:=h_; rfl) (fun _ _ h_=>h_.elim) rfl (arLeg_len rfl) ?_;intro C_ bU x bb
    obtain rfl:=bb
    intro w R aP aG s_ r bc hM H
    obtain ⟨s,s2⟩:=s_
    obtain ⟨rfl,ax,aC⟩:=bc
    replace H:=H.nf;refine W.region rfl ?_;refine t_alloc (cs:=[I 0,B false]) H Al86 rfl ?_;intro az dQ H;refine t_sw 0 0 [I x.line,B x.back] (.agg #[I x.line,B x.back]) H rfl rfl Sz86 rfl rfl rfl rfl ?_;intro dR H;refine s_nil ?_
    refine ⟨rfl,[cBlk az [I x.line,B x.back] 86],H.pick [0,1,2,3,4,5,6,7,8] (by decide) rfl,?_⟩
    clear H aP
    intro w R aP H
    replace aw:=aw.sub aP
    replace hM:(zab ac am ab s3 (s,s2) x).Ends r:=hM
    simp only [zab] at hM
    replace H:=H.nf;refine kg 2 ?_;refine W.draw (fun W=>St w W [cBlk az [I x.line,B x.back] 86,cBlk aa (List.flatten [[I ac,ae],encF (α:=Int) s,encF (α:=Leg) s2]) 90,cMk (aI :: aD),cBlk au [Pq aa] 79,cBlk av [I aq] 3,cBlk ap [I (s3:Int)] 3,cBlk ai [.pointer (some ⟨aa,2+Int.toNat ab*13,none⟩)] 160,cBlk aj [.pointer (some ⟨aa,171+Int.toNat ab*26,none⟩)] 161,cBlk ah [Pq aa] 79] R) [(0,true),(1,true),(2,true),(3,true),(4,true),(5,true),(6,true),(7,false),(8,false),(9,false),(10,true)] mixed (by decide +kernel) rfl ?_;intro dS ao;replace H:=H.ext ao;clear ao
    refine ⟨(H.pk [0,1,2,3,4,5,6,7,8]),?_⟩
    refine kg 3 ?_;refine d_q rfl (fun w' H=>x_ix (v:=.pointer (some ⟨aa,(2+Int.toNat ab*13)+Int.toNat (s3:Int)*1,none⟩)) rfl rfl (run_indexS Try.underlying82 Sz3 (by omega) (by omega)))<|d_q rfl (fun w' H=>x_ld (v:=I (s.getD ((Int.toNat ab)*13+s3) 0)) rfl (ldS (α:=Int) (k:=1) (off:=2) (i:=(Int.toNat ab)*13+s3) (f:=0) (sz:=1) 0 Sc3 (H.bl 1) rfl (sgo1 rfl) rfl (by decide) (by have aF:=ax; omega) (by omega) rfl)) ?_;refine kg 2 ?_;refine d_l rfl ?_;obtain ⟨dT,ck,hM⟩:=M.e_bind hM;refine s_call cf88 [Pq aa,.agg #[I x.line,B x.back]] rfl (zcz ac am x (aw.app _) ay (Fld.here (k:=1) rfl rfl) ck _ (H.gt 9)) ?_
    rintro vq dU ⟨r2,rfl,hvq,ag⟩
    subst vq;(try dsimp only at hM);replace H:=H.bk ag;clear ag
    refine s_nil ⟨(H.pk [0,1,2,3,4,5,6,7,8]),?_⟩
    refine d_l rfl ?_;refine t_bs (α:=Int) T26 [I (s.getD ((Int.toNat ab)*13+s3) 0),I r2] [(s.getD ((Int.toNat ab)*13+s3) 0:Int),(r2:Int)] H rfl (.cons rfl (Flat.rep_enc _ (s.getD ((Int.toNat ab)*13+s3) 0:Int))<|.cons rfl (Flat.rep_enc _ (r2:Int))<|.nil) rfl rfl rfl ?_;intro aY dV H
    have dW:=Sl.cells (H.os 0)
    have dX:=Sl.oc (H.os 0)
    refine s_nil ⟨(H.pk [1,2,3,4,5,6,7,8,9]),?_⟩
    refine d_l rfl ?_;obtain ⟨dY,cm,hM⟩:=M.e_bind hM;refine s_call cf96 [aY] rfl (zcT ([(s.getD ((Int.toNat ab)*13+s3) 0:Int),(r2:Int)]) (rdo 0) (H.os 0) cm _ (H.gt 10)) ?_
    rintro vq dZ ⟨r3,rfl,hvq,ag⟩
    subst vq;(try dsimp only at hM);replace H:=H.bk ag;clear ag
    refine s_nil ⟨(H.pk [1,2,3,4,5,6,7,8,9]),?_⟩
    refine kg 3 ?_;refine W.draw (fun W=>St w W [cOwn (α:=Int) 3 aY ([(s.getD ((Int.toNat ab)*13+s3) 0:Int),(r2:Int)]),cBlk az [I x.line,B x.back] 86,cBlk aa (List.flatten [[I ac,ae],encF (α:=Int) s,encF (α:=Leg) s2]) 90,cMk (aI :: aD),cBlk au [Pq aa] 79,cBlk av [I aq] 3,cBlk ap [I (s3:Int)] 3,cBlk ai [.pointer (some ⟨aa,2+Int.toNat ab*13,none⟩)] 160,cBlk aj [.pointer (some ⟨aa,171+Int.toNat ab*26,none⟩)] 161,cBlk ah [Pq aa] 79] R) [(0,true),(1,true),(2,true),(3,true),(5,true),(4,false),(6,true),(7,true),(8,true)] mixed (by decide +kernel) rfl ?_;intro d4 ao;replace H:=H.ext ao;clear ao
    refine ⟨(H.pk [0,1,2,3,4,5,6,7,8,9]),?_⟩
    refine kg 5 ?_;refine d_l rfl ?_;obtain ⟨d5,cn,hM⟩:=M.e_bind hM;refine s_call cf89 [Pq aa,.agg #[I x.line,B x.back]] rfl (zar ac am x (aw.app _) ay (Fld.here (k:=2) rfl rfl) cn _ (H.gt 10)) ?_
    rintro vq d6 ⟨r4,rfl,hvq,ag⟩
    subst vq;(try dsimp only at hM);replace H:=H.bk ag;clear ag
    refine s_nil ⟨(H.pk [0,1,2,3,4,5,6,7,8,9]),?_⟩
    obtain ⟨d7,hM⟩:=M.e_gd hM;refine d_q rfl (fun w' H=>x_ix (v:=.pointer (some ⟨aa,(2+Int.toNat ab*13)+Int.toNat r4*1,none⟩)) rfl rfl (run_indexS Try.underlying82 Sz3 (by omega) (by omega)))<|d_q rfl (fun w' H=>x_ld (v:=I (s.getD ((Int.toNat ab)*13+(Int.toNat r4)) 0)) rfl (ldS (α:=Int) (k:=1) (off:=2) (i:=(Int.toNat ab)*13+(Int.toNat r4)) (f:=0) (sz:=1) 0 Sc3 (H.bl 2) rfl (sgo1 rfl) rfl (by decide) (by have aF:=ax; omega) (by omega) rfl)) ?_;refine kg 2 ?_
    refine W.cond (decide (r3<(s.getD ((Int.toNat ab)*13+(Int.toNat r4)) 0))) rfl (fun aU=>?_) (fun aU=>?_)
    ·replace hM:=M.e_t hM aU
     replace aU:=dI aU
     refine W.draw (fun W=>St w W [cOwn (α:=Int) 3 aY ([(s.getD ((Int.toNat ab)*13+s3) 0:Int),(r2:Int)]),cBlk az [I x.line,B x.back] 86,cMk (aI :: aD),cBlk au [Pq aa] 79,cBlk av [I aq] 3,cBlk ap [I (s3:Int)] 3,cBlk ai [.pointer (some ⟨aa,2+Int.toNat ab*13,none⟩)] 160,cBlk aj [.pointer (some ⟨aa,171+Int.toNat ab*26,none⟩)] 161,cBlk ah [Pq aa] 79] R) [(0,true),(1,true),(2,true),(4,true),(5,true),(6,true),(8,true),(9,true),(10,true),(13,true),(3,false),(7,false),(11,true),(12,false),(14,true),(15,false)] mixed (by decide +kernel) rfl ?_;intro d8 ao;replace H:=H.ext ao;clear ao
     refine ⟨(H.pk [0,1,3,4,5,6,7,8,9]),?_⟩
     refine kg 10 ?_;refine d_l rfl ?_;obtain ⟨d9,co,hM⟩:=M.e_bind hM;refine s_call cf89 [Pq aa,.agg #[I x.line,B x.back]] rfl (zar ac am x (aw.app _) ay (Fld.here (k:=2) rfl rfl) co _ (H.gt 10)) ?_
     rintro vq ea ⟨r5,rfl,hvq,ag⟩
     subst vq;(try dsimp only at hM);replace H:=H.bk ag;clear ag
     refine s_nil ⟨(H.pk [0,1,3,4,5,6,7,8,9]),?_⟩
     refine d_l rfl ?_;obtain ⟨eb,cp,hM⟩:=M.e_bind hM;refine s_call cf89 [Pq aa,.agg #[I x.line,B x.back]] rfl (zar ac am x (aw.app _) ay (Fld.here (k:=2) rfl rfl) cp _ (H.gt 10)) ?_
     rintro vq ec ⟨r6,rfl,hvq,ag⟩
     subst vq;(try dsimp only at hM);replace H:=H.bk ag;clear ag
     refine s_nil ⟨(H.pk [0,1,3,4,5,6,7,8,9]),?_⟩
     obtain ⟨ee,hM⟩:=M.e_gd hM;refine d_q rfl (fun w' H=>x_ix (v:=.pointer (some ⟨aa,(2+Int.toNat ab*13)+Int.toNat r5*1,none⟩)) rfl rfl (run_indexS Try.underlying82 Sz3 (by omega) (by omega)))<|d_l rfl ?_;refine t_stS (α:=Int) (kc:=2) (b:=aa) (k:=1) (off:=2) (i:=(Int.toNat ab)*13+(Int.toNat r5)) (f:=0) (sz:=1) (segs:=[[I ac,ae],encF (α:=Int) s,encF (α:=Leg) s2]) (segs':=[[I ac,ae],encF (α:=Int) (s.set ((Int.toNat ab)*13+(Int.toNat r5)) r3),encF (α:=Leg) s2]) (l:=s) (l':=s.set ((Int.toNat ab)*13+(Int.toNat r5)) r3) (vs:=[I r3]) (L':=[cOwn (α:=Int) 3 aY ([(s.getD ((Int.toNat ab)*13+s3) 0:Int),(r2:Int)]),cBlk az [I x.line,B x.back] 86,cBlk aa (List.flatten [[I ac,ae],encF (α:=Int) (s.set ((Int.toNat ab)*13+(Int.toNat r5)) r3),encF (α:=Leg) s2]) 90,cMk (aI :: aD),cBlk au [Pq aa] 79,cBlk av [I aq] 3,cBlk ap [I (s3:Int)] 3,cBlk ai [.pointer (some ⟨aa,2+Int.toNat ab*13,none⟩)] 160,cBlk aj [.pointer (some ⟨aa,171+Int.toNat ab*26,none⟩)] 161,cBlk ah [Pq aa] 79]) H rfl rfl rfl Sz3 rfl rfl rfl rfl (sgo1 rfl) rfl rfl (by have aF:=ax; omega) (by omega) 0 r3 rfl rfl rfl rfl ?_;intro ef H
     have bJ:(s.set ((Int.toNat ab)*13+(Int.toNat r5)) r3).length=169:=List.length_set.trans ax
     refine s_nil ⟨(H.pk [0,1,3,4,5,6,7,8,9]),?_⟩
     obtain ⟨eg,hM⟩:=M.e_gd hM;refine d_q rfl (fun w' H=>x_ix (v:=.pointer (some ⟨aa,(171+Int.toNat ab*26)+Int.toNat r6*2,none⟩)) rfl rfl (run_indexS Try.underlying87 Sz86 (by omega) (by omega)))<|d_l rfl ?_;refine t_stS (α:=Leg) (kc:=2) (b:=aa) (k:=2) (off:=171) (i:=(Int.toNat ab)*13+(Int.toNat r6)) (f:=0) (sz:=2) (segs:=[[I ac,ae],encF (α:=Int) (s.set ((Int.toNat ab)*13+(Int.toNat r5)) r3),encF (α:=Leg) s2]) (segs':=[[I ac,ae],encF (α:=Int) (s.set ((Int.toNat ab)*13+(Int.toNat r5)) r3),encF (α:=Leg) (s2.set ((Int.toNat ab)*13+(Int.toNat r6)) x)]) (l:=s2) (l':=s2.set ((Int.toNat ab)*13+(Int.toNat r6)) x) (vs:=[I x.line,B x.back]) (L':=[cOwn (α:=Int) 3 aY ([(s.getD ((Int.toNat ab)*13+s3) 0:Int),(r2:Int)]),cBlk az [I x.line,B x.back] 86,cBlk aa (List.flatten [[I ac,ae],encF (α:=Int) (s.set ((Int.toNat ab)*13+(Int.toNat r5)) r3),encF (α:=Leg) (s2.set ((Int.toNat ab)*13+(Int.toNat r6)) x)]) 90,cMk (aI :: aD),cBlk au [Pq aa] 79,cBlk av [I aq] 3,cBlk ap [I (s3:Int)] 3,cBlk ai [.pointer (some ⟨aa,2+Int.toNat ab*13,none⟩)] 160,cBlk aj [.pointer (some ⟨aa,171+Int.toNat ab*26,none⟩)] 161,cBlk ah [Pq aa] 79]) H rfl rfl rfl Sz86 rfl rfl rfl rfl (sgo2 bJ rfl) rfl rfl (by have aF:=aC; omega) (by omega) default x rfl rfl rfl rfl ?_;intro eh H
     have cq:(s2.set ((Int.toNat ab)*13+(Int.toNat r6)) x).length=169:=List.length_set.trans aC
     refine s_nil ⟨(H.pk [0,1,3,4,5,6,7,8,9]),?_⟩
     refine d_nil ?_
     exact ⟨(s.set ((Int.toNat ab)*13+(Int.toNat r5)) r3,s2.set ((Int.toNat ab)*13+(Int.toNat r6)) x),[cBlk aa (List.flatten [[I ac,ae],encF (α:=Int) (s.set ((Int.toNat ab)*13+(Int.toNat r5)) r3),encF (α:=Leg) (s2.set ((Int.toNat ab)*13+(Int.toNat r6)) x)]) 90],(M.e_pure hM).symm,⟨rfl,bJ,cq⟩,H.pick [2,3,4,5,6,7,8,9] (by decide) rfl⟩
    replace hM:=M.e_f hM aU
    replace aU:=dI aU
    refine W.skip ?_
    exact ⟨(s,s2),[cBlk aa (List.flatten [[I ac,ae],encF (α:=Int) s,encF (α:=Leg) s2]) 90],(M.e_pure hM).symm,⟨rfl,ax,aC⟩,H.pick [2,3,4,5,6,7,8,9] (by decide) rfl⟩
   replace H:St w cj (cAll (cObj a4 (.loop bm) :: [cBlk aa (List.flatten [[I ac,ae],encF (α:=Int) s4,encF (α:=Leg) s5]) 90]) :: [cMk (aI :: aD),cBlk au [Pq aa] 79,cBlk av [I aq] 3,cBlk ap [I (s3:Int)] 3,cBlk ai [.pointer (some ⟨aa,2+Int.toNat ab*13,none⟩)] 160,cBlk aj [.pointer (some ⟨aa,171+Int.toNat ab*26,none⟩)] 161,cBlk ah [Pq aa] 79]) R:=St.bundleB (A:=cObj a4 (.loop bm) :: [cBlk aa (List.flatten [[I ac,ae],encF (α:=Int) s4,encF (α:=Leg) s5]) 90]) (T:=[cMk (aI :: aD),cBlk au [Pq aa] 79,cBlk av [I aq] 3,cBlk ap [I (s3:Int)] 3,cBlk ai [.pointer (some ⟨aa,2+Int.toNat ab*13,none⟩)] 160,cBlk aj [.pointer (some ⟨aa,171+Int.toNat ab*26,none⟩)] 161,cBlk ah [Pq aa] 79]) rfl (H.pk [0,2,1,3,4,5,6,7,8])
   refine (zcg (M.yl (zab ac am ab s3)) (.inl (s4,s5)) ac am aq hYC ⟨_,rfl,⟨rfl,aE,aM⟩⟩ (aw.app _) ay (by rintro (⟨s,s2⟩ | _) _ h_; (obtain ⟨_,rfl,rfl,_,_⟩:=h_; exact Fld.all (Fld.here (k:=1) rfl rfl)); (obtain ⟨_,_,h_⟩:=h_; exact h_.elim)) (Has.here (k:=1) rfl) (Has.here (k:=2) rfl) ci _ (H.gt 7)).mono ?_
   rintro vq ej ⟨cr,ek,rfl,hvq,ag,bK⟩
   replace H:=H.back ag rfl
   clear ag hYC
   rcases cr with ⟨s,s2⟩ | _
   ·(try dsimp only at hM)
    obtain ⟨_,rfl,rfl,ax,aC⟩:=bK
    refine ⟨_,[cBlk aa (List.flatten [[I ac,ae],encF (α:=Int) s,encF (α:=Leg) s2]) 90,cBlk au [Pq aa] 79,cBlk av [I aq] 3,cBlk ap [I (s3:Int)] 3,cBlk ai [.pointer (some ⟨aa,2+Int.toNat ab*13,none⟩)] 160,cBlk aj [.pointer (some ⟨aa,171+Int.toNat ab*26,none⟩)] 161,cBlk ah [Pq aa] 79],H.unbundle.pick [0,2,1,3,4,5,6,7,8] (by decide) rfl,bn.nb,?_⟩
    intro el H
    rw [bn.pd]
    replace H:=H.nf
    try simp only []
    replace H:=H.pk [0,1,5,6,7];refine WD.of ?_;obtain ⟨em,hM⟩:=M.e_gd hM;refine kg 4 ?_
    exact ⟨bH,bI,s3+1,s,s2,_,upds_of _ _ ⟨rfl,rfl,rfl,rfl,rfl,rfl,rfl,trivial⟩,M.e_inl hM bj,(H.pk [2,3,4,0,1]),ax,aC⟩
   obtain ⟨_,_,h_⟩:=bK; exact h_.elim
  replace hM:=M.e_f hM aS
  replace aS:=dI aS
  refine WD.of ?_;refine W.exit ?_
  have ct:=M.e_inr hM bj
  subst ct;replace hM:=cg;(try dsimp only at hM);refine WD.of ?_;obtain ⟨eo,hM⟩:=M.e_gd hM;refine kg 4 ?_
  exact ⟨cd,ce,s4,s5,s8+1,_,upds_of _ _ ⟨rfl,rfl,rfl,rfl,rfl,trivial⟩,M.e_inl hM bF,H,aE,aM⟩
 replace hM:=M.e_f hM aR
 replace aR:=dI aR
 refine WD.of ?_;refine W.exit ?_
 have cu:=M.e_inr hM bF
 subst cu;replace hM:=cc;(try dsimp only at hM);refine bodyD_n (H.pk [3,0,1,2,4]) ?_;intro ep H;replace H:=H.nf
 have bg:=M.e_pure hM
 exact ⟨_,resE_tmp0 rfl,⟨s6,s7,bg,rfl,(H.pk [3]),aV,aW⟩⟩

end Go.Proofs.Ytigidakpcepdkaa
end
section
set_option maxRecDepth 100000
set_option maxHeartbeats 16000000
namespace Go.Proofs.Ytigidakpcepdkaa
open Go Go.Nm
attribute [local irreducible] gd execOp SL SLD SLT WR
def zaW (n_Marks:Int) (s4:Nat):((List Int) × Nat)->M (((List Int) × Nat) ⊕ (List Int)):=fun (s,s2) =>
  bif decide ((s2:Int)<n_Marks) then (
  M.grd (decide ((0:Int)<=(s4:Int))&&decide ((s4:Int)<(13:Int))) <|
  M.grd (decide ((0:Int)<=(s2:Int))&&decide ((s2:Int)<(13:Int))) <|
  M.grd (decide ((-9223372036854775808:Int)<=((s2:Int)+1))&&decide (((s2:Int)+1)<=(9223372036854775807:Int))) <|
  M.pure (.inl (s.set (s4*13+s2) 1099511627776,s2+1)))
  else (
  M.pure (.inr s))
def zaS (n_Marks:Int):((List Int) × Nat)->M (((List Int) × Nat) ⊕ (List Int)):=fun (s3,s4) =>
  bif decide ((s4:Int)<n_Marks) then (
  M.bind (M.iter (zaW n_Marks s4) (s3,0)) fun l =>
  M.grd (decide ((0:Int)<=(s4:Int))&&decide ((s4:Int)<(13:Int))) <|
  M.grd (decide ((-9223372036854775808:Int)<=((s4:Int)+1))&&decide (((s4:Int)+1)<=(9223372036854775807:Int))) <|
  M.pure (.inl (l.set (s4*13+s4) 0,s4+1)))
  else (
  M.pure (.inr s3))
def zaN (n_Marks:Int) (n_Lines:List Line):((List Int) × (List Leg) × Nat)->M (((List Int) × (List Leg) × Nat) ⊕ ((List Int) × (List Leg))):=fun (s5,s6,s7) =>
  bif decide ((s7:Int)<n_Marks) then (
  M.bind (zbf n_Marks n_Lines s5 s6 (s7:Int)) fun (q2,q3) =>
  M.grd (decide ((-9223372036854775808:Int)<=((s7:Int)+1))&&decide (((s7:Int)+1)<=(9223372036854775807:Int))) <|
  M.pure (.inl (q2,q3,s7+1)))
  else (
  M.pure (.inr (s5,s6)))
def zbq (n_Marks:Int) (n_Lines:List Line):M (Int × (List Int) × (List Leg)) :=
  M.bind (M.iter (zaS n_Marks) (List.replicate 169 0,0)) fun l2 =>
  M.bind (M.iter (zaN n_Marks n_Lines) (l2,List.replicate 169 default,0)) fun (l3,l4) =>
  M.pure (n_Marks,l3,l4)
theorem zdl {R:List Chunk} {ap:Cells} {aa:Value} (n_Marks:Int) (n_Lines:List Line) (aG:Reads R ap) (aH:Sl ap aa n_Lines) {r:(Int × (List Int) × (List Leg))} (hM:(zbq n_Marks n_Lines).Ends r) (w:World) (H:St w w [] R):Ret Try.prog 86 #[.agg #[I n_Marks,aa]] w fun v w'=>∃ (y0:Int) (y1:List Int) (y2:List Leg) (aq:Nat),(y0,y1,y2)=r/\v=Pq aq/\St w w' [cBlk aq (List.flatten [[I y0,aa],encF (α:=Int) y1,encF (α:=Leg) y2]) 90] R/\y1.length=169/\y2.length=169:=by
 refine ret_of_W Try.func86 rfl rfl rfl ?_;refine kg 2 ?_;refine t_bx [I n_Marks,aa] H rfl ?_;intro ac a8 H;refine kg 5 ?_;refine s_val (x_bld (ps:=[(0,.agg #[I n_Marks,aa])]) (zs:=(List.flatten [[I 0,.slice none 0 0],encF (α:=Int) (List.replicate 169 0),encF (α:=Leg) (List.replicate 169 default)])) (L':=(List.flatten [[I n_Marks,aa],encF (α:=Int) (List.replicate 169 0),encF (α:=Leg) (List.replicate 169 default)])) rfl Try.underlying90 Al90 rfl (Bd90 Try.underlying90) (.cons (cs:=[I n_Marks,aa]) rfl rfl rfl (by kernel_rfl) rfl<|.nil)) ?_;refine t_box (v:=.agg (List.flatten [[I n_Marks,aa],encF (α:=Int) (List.replicate 169 0),encF (α:=Leg) (List.replicate 169 default)]).toArray) (cs:=(List.flatten [[I n_Marks,aa],encF (α:=Int) (List.replicate 169 0),encF (α:=Leg) (List.replicate 169 default)])) H rfl rfl ?_;intro ab a9 H;refine kg 10 ?_;obtain ⟨aI,aj,aJ⟩:=M.e_bind hM
 obtain ⟨au,aj⟩:=M.e_iter aj
 refine W.loop (fun m σ W=>∃ (s3:List Int) (s4:Nat) (ρ:Env),σ=upds ρ [(1,Pq ac),(3,Pq ab),(11,I n_Marks),(12,I (s4:Int))]/\M.iterN (zaS n_Marks) m (s3,s4)=some aI/\St w W [cBlk ab (List.flatten [[I n_Marks,aa],encF (α:=Int) s3,encF (α:=Leg) (List.replicate 169 default)]) 90,cBlk ac [I n_Marks,aa] 25] R/\s3.length=169) ?_ ?_
 ·exact ⟨_,List.replicate 169 0,0,_,upds_of _ _ ⟨rfl,rfl,rfl,rfl,trivial⟩,aj,H,List.length_replicate⟩
 rintro ba σ bb ⟨s3,s4,ρ,rfl,av,H,aw⟩
 obtain ⟨aK,aL,bc,hM,ax⟩:=M.e_iterN av
 simp only [zaS] at hM
 clear av;refine kg 5 ?_
 refine W.cond (decide ((s4:Int)<n_Marks)) rfl (fun ae=>?_) (fun ae=>?_)
 ·replace hM:=M.e_t hM ae
  replace ae:=dI ae
  refine kg 16 ?_;obtain ⟨aM,am,aN⟩:=M.e_bind hM
  obtain ⟨au,am⟩:=M.e_iter am
  refine W.loop (fun m σ W=>∃ (s:List Int) (s2:Nat) (ρ:Env),σ=upds ρ [(1,Pq ac),(3,Pq ab),(4,I (s4:Int)),(11,I n_Marks),(12,I (s4:Int)),(16,I n_Marks),(17,I (s2:Int))]/\M.iterN (zaW n_Marks s4) m (s,s2)=some aM/\St w W [cBlk ab (List.flatten [[I n_Marks,aa],encF (α:=Int) s,encF (α:=Leg) (List.replicate 169 default)]) 90,cBlk ac [I n_Marks,aa] 25] R/\s.length=169) ?_ ?_
  ·exact ⟨_,s3,0,_,upds_of _ _ ⟨rfl,rfl,rfl,rfl,rfl,rfl,rfl,trivial⟩,am,H,aw⟩
  rintro bg σ bh ⟨s,s2,ρ,rfl,ay,H,ai⟩
  obtain ⟨aO,aP,bi,hM,az⟩:=M.e_iterN ay
  simp only [zaW] at hM
  clear ay;refine kg 5 ?_
  refine W.cond (decide ((s2:Int)<n_Marks)) rfl (fun ag=>?_) (fun ag=>?_)
  ·replace hM:=M.e_t hM ag
   replace ag:=dI ag
   obtain ⟨bj,hM⟩:=M.e_gd hM;refine kg 14 ?_;refine s_val (x_ix (v:=.pointer (some ⟨ab,2+Int.toNat (s4:Int)*13,none⟩)) rfl rfl (run_indexS Try.underlying84 Sz82 (by omega) (by omega))) ?_;obtain ⟨bm,hM⟩:=M.e_gd hM;refine s_val (x_ix (v:=.pointer (some ⟨ab,(2+Int.toNat (s4:Int)*13)+Int.toNat (s2:Int)*1,none⟩)) rfl rfl (run_indexS Try.underlying82 Sz3 (by omega) (by omega))) ?_;refine t_stS (α:=Int) (kc:=0) (b:=ab) (k:=1) (off:=2) (i:=s4*13+s2) (f:=0) (sz:=1) (segs:=[[I n_Marks,aa],encF (α:=Int) s,encF (α:=Leg) (List.replicate 169 default)]) (segs':=[[I n_Marks,aa],encF (α:=Int) (s.set (s4*13+s2) 1099511627776),encF (α:=Leg) (List.replicate 169 default)]) (l:=s) (l':=s.set (s4*13+s2) 1099511627776) (vs:=[I 1099511627776]) (L':=[cBlk ab (List.flatten [[I n_Marks,aa],encF (α:=Int) (s.set (s4*13+s2) 1099511627776),encF (α:=Leg) (List.replicate 169 default)]) 90,cBlk ac [I n_Marks,aa] 25]) H rfl rfl rfl Sz3 rfl rfl rfl rfl (sgo1 rfl) rfl rfl (by have aQ:=ai; omega) (by omega) 0 1099511627776 rfl rfl rfl rfl ?_;intro bn H
   have aR:(s.set (s4*13+s2) 1099511627776).length=169:=List.length_set.trans ai
   obtain ⟨bp,hM⟩:=M.e_gd hM;refine kg 5 ?_
   exact ⟨aO,aP,s.set (s4*13+s2) 1099511627776,s2+1,_,upds_of _ _ ⟨rfl,rfl,rfl,rfl,rfl,rfl,rfl,trivial⟩,M.e_inl hM az,H,aR⟩
  replace hM:=M.e_f hM ag
  replace ag:=dI ag
  refine W.exit ?_
  have aS:=M.e_inr hM az
  subst aS;replace hM:=aN;(try dsimp only at hM);obtain ⟨br,hM⟩:=M.e_gd hM;refine kg 6 ?_;refine s_val (x_ix (v:=.pointer (some ⟨ab,2+Int.toNat (s4:Int)*13,none⟩)) rfl rfl (run_indexS Try.underlying84 Sz82 (by omega) (by omega)))<|s_val (x_ix (v:=.pointer (some ⟨ab,(2+Int.toNat (s4:Int)*13)+Int.toNat (s4:Int)*1,none⟩)) rfl rfl (run_indexS Try.underlying82 Sz3 (by omega) (by omega))) ?_;refine t_stS (α:=Int) (kc:=0) (b:=ab) (k:=1) (off:=2) (i:=s4*13+s4) (f:=0) (sz:=1) (segs:=[[I n_Marks,aa],encF (α:=Int) s,encF (α:=Leg) (List.replicate 169 default)]) (segs':=[[I n_Marks,aa],encF (α:=Int) (s.set (s4*13+s4) 0),encF (α:=Leg) (List.replicate 169 default)]) (l:=s) (l':=s.set (s4*13+s4) 0) (vs:=[I 0]) (L':=[cBlk ab (List.flatten [[I n_Marks,aa],encF (α:=Int) (s.set (s4*13+s4) 0),encF (α:=Leg) (List.replicate 169 default)]) 90,cBlk ac [I n_Marks,aa] 25]) H rfl rfl rfl Sz3 rfl rfl rfl rfl (sgo1 rfl) rfl rfl (by have aQ:=ai; omega) (by omega) 0 0 rfl rfl rfl rfl ?_;intro bt H
  have aT:(s.set (s4*13+s4) 0).length=169:=List.length_set.trans ai
  obtain ⟨bu,hM⟩:=M.e_gd hM;refine kg 5 ?_
  exact ⟨aK,aL,s.set (s4*13+s4) 0,s4+1,_,upds_of _ _ ⟨rfl,rfl,rfl,rfl,trivial⟩,M.e_inl hM ax,H,aT⟩
 replace hM:=M.e_f hM ae
 replace ae:=dI ae
 refine W.exit ?_
 have aU:=M.e_inr hM ax
 subst aU;replace hM:=aJ;(try dsimp only at hM);refine kg 8 ?_;obtain ⟨aV,ao,aW⟩:=M.e_bind hM
 obtain ⟨au,ao⟩:=M.e_iter ao
 refine W.loop (fun m σ W=>∃ (s5:List Int) (s6:List Leg) (s7:Nat) (ρ:Env),σ=upds ρ [(3,Pq ab),(37,I n_Marks),(38,I (s7:Int))]/\M.iterN (zaN n_Marks n_Lines) m (s5,s6,s7)=some aV/\St w W [cBlk ab (List.flatten [[I n_Marks,aa],encF (α:=Int) s5,encF (α:=Leg) s6]) 90,cBlk ac [I n_Marks,aa] 25] R/\s5.length=169/\s6.length=169) ?_ ?_
 ·exact ⟨_,s3,List.replicate 169 default,0,_,upds_of _ _ ⟨rfl,rfl,rfl,trivial⟩,ao,H,aw,List.length_replicate⟩
 rintro bv σ bw ⟨s5,s6,s7,ρ,rfl,aB,H,aC,aD⟩
 obtain ⟨aX,aY,bx,hM,aE⟩:=M.e_iterN aB
 simp only [zaN] at hM
 clear aB;refine kg 5 ?_
 refine W.cond (decide ((s7:Int)<n_Marks)) rfl (fun ah=>?_) (fun ah=>?_)
 ·replace hM:=M.e_t hM ah
  replace ah:=dI ah
  refine kg 11 ?_;obtain ⟨bz,aZ,hM⟩:=M.e_bind hM;refine s_call cf92 [Pq ab,I (s7:Int)] rfl (zdO n_Marks n_Lines s5 s6 (s7:Int) (aG.app _) aH aC aD aZ _ (H.gt 1)) ?_
  rintro vq bA ⟨q2,q3,rfl,hvq,aF,a4,a5⟩
  subst vq;(try dsimp only at hM);replace H:=H.bk aF;clear aF;obtain ⟨bB,hM⟩:=M.e_gd hM;refine kg 5 ?_
  exact ⟨aX,aY,q2,q3,s7+1,_,upds_of _ _ ⟨rfl,rfl,rfl,trivial⟩,M.e_inl hM aE,H,a4,a5⟩
 replace hM:=M.e_f hM ah
 replace ah:=dI ah
 refine W.exit ?_
 have a6:=M.e_inr hM aE
 subst a6;replace hM:=aW;(try dsimp only at hM);refine kg 5 ?_;refine W.ret ?_
 have a7:=M.e_pure hM
 exact ⟨_,resE_tmp rfl,⟨n_Marks,s5,s6,ab,a7,rfl,(H.pk [0]),aC,aD⟩⟩

def zbK (n_Marks:Int) (n_Lines:List Line):M (Int ⊕ (Int × (List Int) × (List Leg) × Int)) :=
  M.bind (zbi n_Marks n_Lines) fun r2 =>
  bif r2 != 0 then (
  M.pure (.inl r2))
  else (
  M.bind (zbq n_Marks n_Lines) fun (r0,aa,r3) =>
  M.pure (.inr (r0,aa,r3,0)))
theorem zdR {R:List Chunk} {ag:Cells} {ab:Value} (n_Marks:Int) (n_Lines:List Line) (ah:Reads R ag) (ai:Sl ag ab n_Lines) {r:(Int ⊕ (Int × (List Int) × (List Leg) × Int))} (hM:(zbK n_Marks n_Lines).Ends r) (w:World) (H:St w w [] R):Ret Try.prog 75 #[.agg #[I n_Marks,ab]] w fun v w'=>(∃ (y0:Int),(.inl y0)=r/\v = .tuple #[.pointer none,I y0]/\St w w' [] R)∨(∃ (y0:Int) (y1:List Int) (y2:List Leg) (y3:Int) (aj:Nat),(.inr (y0,y1,y2,y3))=r/\v = .tuple #[Pq aj,I y3]/\St w w' [cBlk aj (List.flatten [[I y0,ab],encF (α:=Int) y1,encF (α:=Leg) y2]) 90] R/\y1.length=169/\y2.length=169):=by
 refine ret_of_W Try.func75 rfl rfl rfl ?_;refine kg 2 ?_;refine t_bx [I n_Marks,ab] H rfl ?_;intro aw ax H;refine kg 7 ?_;obtain ⟨ay,am,hM⟩:=M.e_bind hM;refine s_call cf48 [.agg #[I n_Marks,ab]] rfl (zdf n_Marks n_Lines (ah.app _) ai am _ (H.gt 1)) ?_
 rintro vq az ⟨r2,rfl,hvq,ac⟩
 subst vq;(try dsimp only at hM);replace H:=H.bk ac;clear ac;refine kg 7 ?_
 refine W.cond (r2 != 0) rfl (fun aa=>?_) (fun aa=>?_)
 ·replace hM:=M.e_t hM aa
  replace aa:=dI aa
  refine kg 6 ?_;refine W.ret ?_
  have ae:=M.e_pure hM
  exact ⟨_,resE_tmp2 rfl,.inl (⟨r2,ae,rfl,(H.pk [])⟩)⟩
 replace hM:=M.e_f hM aa
 replace aa:=dI aa
 refine kg 4 ?_;obtain ⟨aB,ao,hM⟩:=M.e_bind hM;refine s_call cf86 [.agg #[I n_Marks,ab]] rfl (zdl n_Marks n_Lines (ah.app _) ai ao _ (H.gt 1)) ?_
 rintro vq aC ⟨r0,ap,r3,aq,rfl,hvq,ac,au,av⟩
 subst vq;(try dsimp only at hM);replace H:=H.bk ac;clear ac;refine kg 3 ?_;refine W.ret ?_
 have ae:=M.e_pure hM
 exact ⟨_,resE_tmp2 rfl,.inr (⟨r0,ap,r3,0,aq,ae,rfl,(H.pk [0]),au,av⟩)⟩

def zbj (ab:Int) (ac:List Line) (aa:List Int) (s2:Nat) (x:Leg):Nat->M (Nat ⊕ (Unit ⊕ Unit)):=fun s =>
  bif decide ((s:Int)<ab) then (
  M.grd (decide ((0:Int)<=(s:Int))&&decide ((s:Int)<(13:Int))) <|
  M.grd (decide ((0:Int)<=(s2:Int))&&decide ((s2:Int)<(13:Int))) <|
  M.bind (M.opt (decide ((aa.getD (s*13+s2) 0)<1099511627776)) (zaX ab ac x) 0) fun r2 =>
  M.grd ((!(decide ((aa.getD (s*13+s2) 0)<1099511627776))||(decide ((-9223372036854775808:Int)<=((aa.getD (s*13+s2) 0)+r2))&&decide (((aa.getD (s*13+s2) 0)+r2)<=(9223372036854775807:Int))))) <|
  M.bind (M.opt (decide ((aa.getD (s*13+s2) 0)<1099511627776)) (zao ab ac x) 0) fun r3 =>
  M.grd ((!(decide ((aa.getD (s*13+s2) 0)<1099511627776))||(decide ((0:Int)<=r3)&&decide (r3<(13:Int))))) <|
  bif ((decide ((aa.getD (s*13+s2) 0)<1099511627776))&&(decide (((aa.getD (s*13+s2) 0)+r2)<(aa.getD (s*13+(Int.toNat r3)) 0)))) then (
  M.pure (.inr (.inl ())))
  else (
  M.grd (decide ((-9223372036854775808:Int)<=((s:Int)+1))&&decide (((s:Int)+1)<=(9223372036854775807:Int))) <|
  M.pure (.inl (s+1))))
  else (
  M.pure (.inr (.inr ())))
def zal (aa:Int) (ab:List Line) (ac:List Int) (s2:Nat):Unit->Leg->M (Unit ⊕ Unit):=fun (_:Unit) x =>
  M.bind (M.iter (zbj aa ab ac s2 x) 0) fun x_=>match x_ with
  | (.inl (_:Unit))=>(
  M.pure (.inr ()))
  | (.inr (_:Unit))=>(
  M.pure (.inl ()))
def zaT (aa:Int) (ab:List Line) (ac:List Int):Nat->M (Nat ⊕ (Unit ⊕ Unit)):=fun s2 =>
  bif decide ((s2:Int)<aa) then (
  M.bind (zb4 aa ab (s2:Int)) fun ae =>
  M.bind (zah (M.yl (zal aa ab ac s2)) (.inl ()) aa ab ae) fun x_=>match x_ with
  | .inl _=>(
  M.grd (decide ((0:Int)<=(s2:Int))&&decide ((s2:Int)<(13:Int))) <|
  bif decide ((ac.getD (s2*13+s2) 0)<0) then (
  M.pure (.inr (.inl ())))
  else (
  M.grd (decide ((-9223372036854775808:Int)<=((s2:Int)+1))&&decide (((s2:Int)+1)<=(9223372036854775807:Int))) <|
  M.pure (.inl (s2+1))))
  | .inr _=>(
  M.pure (.inr (.inl ()))))
  else (
  M.pure (.inr (.inr ())))
def za9 (aa:Int) (ab:List Line) (ac:List Int) (ae:List Leg):M Bool :=
  M.bind (M.iter (zaT aa ab ac) 0) fun x_=>match x_ with
  | (.inl (_:Unit))=>(
  M.pure true)
  | (.inr (_:Unit))=>(
  M.pure false)
theorem zdA {R:List Chunk} {aa:Nat} {aX:Cells} {aY:Value} (ag:Int) (ah:List Line) (ab:List Int) (aO:List Leg) (aD:Reads R aX) (aH:Sl aX aY ah) (aJ:ab.length=169) (bF:aO.length=169) (ao:Has R (cBlk aa (List.flatten [[I ag,aY],encF (α:=Int) ab,encF (α:=Leg) aO]) 90)) {r:Bool} (hM:(za9 ag ah ab aO).Ends r) (w:World) (H:St w w [] R):Ret Try.prog 76 #[Pq aa] w fun v w'=>∃ (y0:Bool),y0=r/\v=B y0/\St w w' [] R:=by
 refine ret_of_WD Try.func76 rfl rfl rfl ?_
 replace H:St w w [cMk ([])] R:=H.mk0
 have bG:=aH.len_le
 unfold za9 at hM
 refine WD.seq<|WD.of<|W.region rfl ?_;refine t_b1 (Pq aa) H rfl rfl ?_;intro ai bH H;refine t_alloc (cs:=[B false]) H Al4 rfl ?_;intro ae bI H;refine s_nil<|WD.seq<|WD.seq<|WD.of ?_;refine kg 8 ?_;refine WD.block ?_;obtain ⟨a8,aP,aQ⟩:=M.e_bind hM
 obtain ⟨a9,aP⟩:=M.e_iter aP
 refine WD.loop (fun m ax σ W=>∃ (s2:Nat) (ρ:Env),σ=upds ρ [(1,Pq ai),(2,Pq ae),(10,I ag),(11,I (s2:Int))]/\M.iterN (zaT ag ah ab) m s2=some a8/\St w W [cBlk ae [B false] 4,cBlk ai [Pq aa] 79,cMk ax] R) ?_ ?_
 ·exact ⟨_,0,_,upds_of _ _ ⟨rfl,rfl,rfl,rfl,trivial⟩,aP,H⟩
 rintro bJ ax σ bK ⟨s2,ρ,rfl,aZ,H⟩
 obtain ⟨ba,bb,bL,hM,aK⟩:=M.e_iterN aZ
 simp only [zaT] at hM
 clear aZ;refine WD.seq<|WD.of ?_;refine kg 3 ?_;refine WD.seq ?_
 refine WD.cond (decide ((s2:Int)<ag)) rfl (fun az=>?_) (fun az=>?_)
 ·replace hM:=M.e_t hM az
  replace az:=dI az
  refine WD.of<|W.skip<|WD.seq<|WD.block<|WD.seq<|WD.of ?_;refine kg 2 ?_;refine t_alloc (cs:=[I 0]) H Al3 rfl ?_;intro ap bM H;refine t_sw 0 0 [I (s2:Int)] (I (s2:Int)) H rfl rfl Sz3 rfl rfl rfl rfl ?_;intro bN H;refine s_nil<|WD.seq<|WD.seq<|WD.of ?_;refine kg 3 ?_;obtain ⟨bO,bc,hM⟩:=M.e_bind hM;refine s_call cf87 [Pq aa,I (s2:Int)] rfl (zb3 ag ah (s2:Int) (aD.app _) aH (Fld.of (ao.app _) rfl) bc _ (H.gt 4)) ?_
  rintro vq bP ⟨aq,au,av,rfl,hvq,aI⟩
  subst vq;(try dsimp only at hM);replace H:=H.bk aI;clear aI;refine s_nil<|WD.block ?_;obtain ⟨bQ,bg,hM⟩:=M.e_bind hM;refine WD.range (L:=[cBlk ae [B false] 4,cBlk au [Pq aa] 79,cBlk av [I aq] 3,cBlk ap [I (s2:Int)] 3,cBlk ai [Pq aa] 79]) [Pq au,Pq av] (H.pk [5,3,0,1,2,4]) rfl cf93 ?_;intro aL aE aR bh aS H
  have hYC:YieldC Try.prog ([cMk (aE :: ax),cBlk au [Pq aa] 79,cBlk av [I aq] 3,cBlk ap [I (s2:Int)] 3,cBlk ai [Pq aa] 79]++R) arLeg (yJ aL aR (fun _ ay=>ay=[cBlk ae [B false] 4]) (fun _ ay=>ay=[cBlk ae [B true] 4]) (fun _=>.ret)) (.func (.yield aL) #[] #[]) (M.yl (zal ag ah ab s2)):=by
   refine YieldC.mk2 aS (fun _ ay=>ay=[cBlk ae [B false] 4]) (fun _ ay=>ay=[cBlk ae [B true] 4]) (fun _=>.ret) (zal ag ah ab s2) (by rintro _ _ h_; obtain ⟨rfl⟩:=h_; rfl) (by rintro _ _ h_; (obtain ⟨rfl⟩:=h_; rfl)) rfl (arLeg_len rfl) ?_;intro C_ bR x bi
   obtain rfl:=bi
   intro w R aM ay s_ r bj hM H
   skip
   obtain ⟨rfl⟩:=bj
   replace H:=H.nf;refine W.region rfl ?_;refine t_alloc (cs:=[I 0,B false]) H Al86 rfl ?_;intro aN bS H;refine t_sw 0 0 [I x.line,B x.back] (.agg #[I x.line,B x.back]) H rfl rfl Sz86 rfl rfl rfl rfl ?_;intro bT H;refine s_nil ?_
   refine ⟨rfl,[cBlk aN [I x.line,B x.back] 86],H.pick [0,1,2,3,4,5,6] (by decide) rfl,?_⟩
   clear H aM
   intro w R aM H
   replace aD:=aD.sub aM
   replace ao:=ao.sub aM
   replace hM:(zal ag ah ab s2 () x).Ends r:=hM
   simp only [zal] at hM
   replace H:=H.nf;refine kg 11 ?_;obtain ⟨bm,aT,a4⟩:=M.e_bind hM
   obtain ⟨a9,aT⟩:=M.e_iter aT
   refine W.loop (fun m σ W=>∃ (s:Nat) (ρ:Env),σ=upds ρ [(1,Pq ai),(2,Pq ae),(3,Pq ap),(4,Pq aN),(22,I ag),(23,I (s:Int))]/\M.iterN (zbj ag ah ab s2 x) m s=some bm/\St w W [cBlk aN [I x.line,B x.back] 86,cBlk ae [B false] 4,cMk (aE :: ax),cBlk au [Pq aa] 79,cBlk av [I aq] 3,cBlk ap [I (s2:Int)] 3,cBlk ai [Pq aa] 79] R) ?_ ?_
   ·exact ⟨_,0,_,upds_of _ _ ⟨rfl,rfl,rfl,rfl,rfl,rfl,trivial⟩,aT,H⟩
   rintro bU σ bV ⟨s,ρ,rfl,a5,H⟩
   obtain ⟨bn,bp,bW,hM,aU⟩:=M.e_iterN a5
   simp only [zbj] at hM
   clear a5;refine kg 5 ?_
   refine W.cond (decide ((s:Int)<ag)) rfl (fun aB=>?_) (fun aB=>?_)
   ·replace hM:=M.e_t hM aB
    replace aB:=dI aB
    refine kg 9 ?_;refine W.draw (fun W=>St w W [cBlk aN [I x.line,B x.back] 86,cBlk ae [B false] 4,cMk (aE :: ax),cBlk au [Pq aa] 79,cBlk av [I aq] 3,cBlk ap [I (s2:Int)] 3,cBlk ai [Pq aa] 79] R) [(0,true),(1,true),(2,true),(3,true),(4,true),(5,true),(6,true),(7,true),(8,true),(9,true),(10,true),(11,true),(12,true),(13,true),(14,true),(15,true),(16,true),(17,true),(18,true),(19,true),(22,true),(23,true),(24,true),(25,true),(27,true),(28,true),(29,true),(20,false),(21,true),(26,false),(30,true),(31,true),(32,true),(33,true)] mixed (by decide +kernel) rfl ?_;intro bX ac;replace H:=H.ext ac;clear ac
    refine ⟨(H.pk [0,1,2,3,4,5,6]),?_⟩
    obtain ⟨bY,hM⟩:=M.e_gd hM;refine kg 5 ?_;refine d_q rfl (fun w' H=>x_ix (v:=.pointer (some ⟨aa,2+Int.toNat (s:Int)*13,none⟩)) rfl rfl (run_indexS Try.underlying84 Sz82 (by omega) (by omega))) ?_;obtain ⟨bZ,hM⟩:=M.e_gd hM;refine d_q rfl (fun w' H=>x_ix (v:=.pointer (some ⟨aa,(2+Int.toNat (s:Int)*13)+Int.toNat (s2:Int)*1,none⟩)) rfl rfl (run_indexS Try.underlying82 Sz3 (by omega) (by omega)))<|d_q rfl (fun w' H=>x_ld (v:=I (ab.getD (s*13+s2) 0)) rfl (ldS (α:=Int) (k:=1) (off:=2) (i:=s*13+s2) (f:=0) (sz:=1) 0 Sc3 (ao.blk H) rfl (sgo1 rfl) rfl (by decide) (by have a6:=aJ; omega) (by omega) rfl)) ?_;refine kg 7 ?_;refine d_qg (decide ((ab.getD (s*13+s2) 0)<1099511627776)) rfl (gy_t rfl) (fun hg=>(fun w' H=>x_ix (v:=.pointer (some ⟨aa,2+Int.toNat (s:Int)*13,none⟩)) (gd_of hg (Oq aa 2)) (gd_of hg (I (s:Int))) (run_indexS Try.underlying84 Sz82 (by first | omega | (have ac:=hg; simp at ac; omega)) (by first | omega | (have ac:=hg; simp at ac; omega)))))<|d_qg (decide ((ab.getD (s*13+s2) 0)<1099511627776)) rfl (gy_t rfl) (fun hg=>(fun w' H=>x_ix (v:=.pointer (some ⟨aa,(2+Int.toNat (s:Int)*13)+Int.toNat (s2:Int)*1,none⟩)) (gd_of hg (.pointer (some ⟨aa,2+Int.toNat (s:Int)*13,none⟩))) (gd_of hg (I (s2:Int))) (run_indexS Try.underlying82 Sz3 (by first | omega | (have ac:=hg; simp at ac; omega)) (by first | omega | (have ac:=hg; simp at ac; omega)))))<|d_qg (decide ((ab.getD (s*13+s2) 0)<1099511627776)) rfl (gy_t rfl) (fun hg=>(fun w' H=>x_ld (v:=I (ab.getD (s*13+s2) 0)) (gd_of hg (.pointer (some ⟨aa,(2+Int.toNat (s:Int)*13)+Int.toNat (s2:Int)*1,none⟩))) (ldS (α:=Int) (k:=1) (off:=2) (i:=s*13+s2) (f:=0) (sz:=1) 0 Sc3 (ao.blk H) rfl (sgo1 rfl) rfl (by decide) (by have a6:=aJ; first | omega | (have ac:=hg; simp at ac; omega)) (by omega) rfl))) ?_;refine kg 8 ?_;refine d_qg (decide ((ab.getD (s*13+s2) 0)<1099511627776)) rfl (gy_t rfl) (fun hg=>(fun w' H=>x_ix (v:=.pointer (some ⟨aa,2+Int.toNat (s:Int)*13,none⟩)) (gd_of hg (Oq aa 2)) (gd_of hg (I (s:Int))) (run_indexS Try.underlying84 Sz82 (by first | omega | (have ac:=hg; simp at ac; omega)) (by first | omega | (have ac:=hg; simp at ac; omega)))))<|d_l rfl ?_;obtain ⟨r2,br,hM⟩:=M.e_bind hM;refine t_gcall (decide ((ab.getD (s*13+s2) 0)<1099511627776)) (gy_t rfl) cf88 (I r2) (fun _=>[Pq aa,.agg #[I x.line,B x.back]]) (fun hg=>lst2 (gd_of hg (Pq aa)) (gd_of hg (.agg #[I x.line,B x.back]))) H (fun hg=>(zcz ag ah x (aD.app _) aH (Fld.of (ao.app _) rfl) (M.e_opt br hg) _ (H.give (A:=[]) rfl)).mono fun v_ w_ ⟨y_,aw,aV,H_⟩=>by subst aw; exact ⟨aV,H.via H_⟩) ?_;intro b7 H
    refine s_nil ⟨(H.pk [0,1,2,3,4,5,6]),?_⟩
    obtain ⟨aF,hM⟩:=M.e_grd hM
    replace aF:=M.imp_of aF
    simp only [Bool.and_eq_true,decide_eq_true_eq] at aF
    refine kg 1 ?_;refine d_l rfl ?_;obtain ⟨r3,bt,hM⟩:=M.e_bind hM;refine t_gcall (decide ((ab.getD (s*13+s2) 0)<1099511627776)) (gy_t rfl) cf89 (I r3) (fun _=>[Pq aa,.agg #[I x.line,B x.back]]) (fun hg=>lst2 (gd_of hg (Pq aa)) (gd_of hg (.agg #[I x.line,B x.back]))) H (fun hg=>(zar ag ah x (aD.app _) aH (Fld.of (ao.app _) rfl) (M.e_opt bt hg) _ (H.give (A:=[]) rfl)).mono fun v_ w_ ⟨y_,aw,aV,H_⟩=>by subst aw; exact ⟨aV,H.via H_⟩) ?_;intro b8 H
    refine s_nil ⟨(H.pk [0,1,2,3,4,5,6]),?_⟩
    obtain ⟨aG,hM⟩:=M.e_grd hM
    replace aG:=M.imp_of aG
    simp only [Bool.and_eq_true,decide_eq_true_eq] at aG
    refine d_qg (decide ((ab.getD (s*13+s2) 0)<1099511627776)) rfl (gy_t rfl) (fun hg=>(fun w' H=>x_ix (v:=.pointer (some ⟨aa,(2+Int.toNat (s:Int)*13)+Int.toNat r3*1,none⟩)) (gd_of hg (.pointer (some ⟨aa,2+Int.toNat (s:Int)*13,none⟩))) (gd_of hg (I r3)) (run_indexS Try.underlying82 Sz3 (by have aj:=aF.resolve_left (by rw [hg]; decide); have am:=aG.resolve_left (by rw [hg]; decide); first | exact aj | exact aj.1 | exact aj.2 | exact am | exact am.1 | exact am.2 | omega | (have ac:=hg; simp at ac; omega)) (by have aj:=aF.resolve_left (by rw [hg]; decide); have am:=aG.resolve_left (by rw [hg]; decide); first | exact aj | exact aj.1 | exact aj.2 | exact am | exact am.1 | exact am.2 | omega | (have ac:=hg; simp at ac; omega)))))<|d_qg (decide ((ab.getD (s*13+s2) 0)<1099511627776)) rfl (gy_t rfl) (fun hg=>(fun w' H=>x_ld (v:=I (ab.getD (s*13+(Int.toNat r3)) 0)) (gd_of hg (.pointer (some ⟨aa,(2+Int.toNat (s:Int)*13)+Int.toNat r3*1,none⟩))) (ldS (α:=Int) (k:=1) (off:=2) (i:=s*13+(Int.toNat r3)) (f:=0) (sz:=1) 0 Sc3 (ao.blk H) rfl (sgo1 rfl) rfl (by decide) (by have b9:=aJ; have aj:=aF.resolve_left (by rw [hg]; decide); have am:=aG.resolve_left (by rw [hg]; decide); first | exact aj | exact aj.1 | exact aj.2 | exact am | exact am.1 | exact am.2 | omega | (have ac:=hg; simp at ac; omega)) (by omega) rfl))) ?_;refine kg 1 ?_;refine d_q rfl (fun w' H=>x_pand (b:=decide ((ab.getD (s*13+s2) 0)<1099511627776)) (r:=decide (((ab.getD (s*13+s2) 0)+r2)<(ab.getD (s*13+(Int.toNat r3)) 0))) rfl (fun hb=>gd_of (c:=decide ((ab.getD (s*13+s2) 0)<1099511627776)) (by first | exact hb | (rw [hb]; rfl) | simp_all) (B (decide (((ab.getD (s*13+s2) 0)+r2)<(ab.getD (s*13+(Int.toNat r3)) 0))))) rfl) ?_;refine d_nil ?_
    refine W.cond ((decide ((ab.getD (s*13+s2) 0)<1099511627776))&&(decide (((ab.getD (s*13+s2) 0)+r2)<(ab.getD (s*13+(Int.toNat r3)) 0)))) rfl (fun aW=>?_) (fun aW=>?_)
    ·replace hM:=M.e_t hM aW;refine kg 2 ?_;refine t_sw 1 0 [B true] (B true) H rfl rfl Sz4 rfl rfl rfl rfl ?_;intro ca H;refine s_nil ?_;refine W.ret ?_
     have bu:=M.e_inr hM aU
     subst bu;replace hM:=a4;(try dsimp only at hM)
     exact ⟨(),[cBlk ae [B true] 4],(M.e_pure hM).symm,rfl,H.pick [1,2,3,4,5,6] (by decide) rfl,rfl⟩
    replace hM:=M.e_f hM aW;obtain ⟨cb,hM⟩:=M.e_gd hM;refine kg 5 ?_
    exact ⟨bn,bp,s+1,_,upds_of _ _ ⟨rfl,rfl,rfl,rfl,rfl,rfl,trivial⟩,M.e_inl hM aU,H⟩
   replace hM:=M.e_f hM aB
   replace aB:=dI aB
   refine W.exit ?_
   have bv:=M.e_inr hM aU
   subst bv;replace hM:=a4;(try dsimp only at hM)
   exact ⟨(),[cBlk ae [B false] 4],(M.e_pure hM).symm,rfl,H.pick [1,2,3,4,5,6] (by decide) rfl⟩
  replace H:St w bh (cAll (cObj aL (.loop aR) :: [cBlk ae [B false] 4]) :: [cMk (aE :: ax),cBlk au [Pq aa] 79,cBlk av [I aq] 3,cBlk ap [I (s2:Int)] 3,cBlk ai [Pq aa] 79]) R:=St.bundleB (A:=cObj aL (.loop aR) :: [cBlk ae [B false] 4]) (T:=[cMk (aE :: ax),cBlk au [Pq aa] 79,cBlk av [I aq] 3,cBlk ap [I (s2:Int)] 3,cBlk ai [Pq aa] 79]) rfl (H.pk [0,2,1,3,4,5,6])
  refine (zcg (M.yl (zal ag ah ab s2)) (.inl ()) ag ah aq hYC ⟨_,rfl,rfl⟩ (aD.app _) aH (fun _ _ _=>Fld.cons (Fld.of (ao.app _) rfl) _) (Has.here (k:=1) rfl) (Has.here (k:=2) rfl) bg _ (H.gt 5)).mono ?_
  rintro vq cc ⟨bw,cd,rfl,hvq,aI,a7⟩
  replace H:=H.back aI rfl
  clear aI hYC
  rcases bw with _ | _
  ·(try dsimp only at hM)
   obtain ⟨_,rfl,rfl⟩:=a7
   refine ⟨_,[cBlk ae [B false] 4,cBlk au [Pq aa] 79,cBlk av [I aq] 3,cBlk ap [I (s2:Int)] 3,cBlk ai [Pq aa] 79],H.unbundle.pick [0,2,1,3,4,5,6] (by decide) rfl,aS.nb,?_⟩
   intro bx H
   rw [aS.pd]
   replace H:=H.nf
   try simp only []
   replace H:=H.pk [0,1,4,5];refine WD.seq<|WD.of ?_;refine W.draw (fun W=>St w W [cMk (aE :: ax),cBlk ae [B false] 4,cBlk ap [I (s2:Int)] 3,cBlk ai [Pq aa] 79] R) [(0,true),(1,true),(2,true),(3,true),(4,true),(5,true),(6,true),(7,true),(8,true)] mixed (by decide +kernel) rfl ?_;intro ce ac;replace H:=H.ext ac;clear ac
   refine ⟨(H.pk [0,1,2,3]),?_⟩
   obtain ⟨cf,hM⟩:=M.e_gd hM;refine kg 5 ?_;refine d_q rfl (fun w' H=>x_ix (v:=.pointer (some ⟨aa,2+Int.toNat (s2:Int)*13,none⟩)) rfl rfl (run_indexS Try.underlying84 Sz82 (by omega) (by omega)))<|d_q rfl (fun w' H=>x_ix (v:=.pointer (some ⟨aa,(2+Int.toNat (s2:Int)*13)+Int.toNat (s2:Int)*1,none⟩)) rfl rfl (run_indexS Try.underlying82 Sz3 (by omega) (by omega)))<|d_q rfl (fun w' H=>x_ld (v:=I (ab.getD (s2*13+s2) 0)) rfl (ldS (α:=Int) (k:=1) (off:=2) (i:=s2*13+s2) (f:=0) (sz:=1) 0 Sc3 (ao.blk H) rfl (sgo1 rfl) rfl (by decide) (by have a6:=aJ; omega) (by omega) rfl)) ?_;refine kg 2 ?_
   refine WD.cond (decide ((ab.getD (s2*13+s2) 0)<0)) rfl (fun aC=>?_) (fun aC=>?_)
   ·replace hM:=M.e_t hM aC
    replace aC:=dI aC
    refine WD.seq<|WD.of<|W.region rfl ?_;refine t_sw 1 0 [B true] (B true) H rfl rfl Sz4 rfl rfl rfl rfl ?_;intro cg H;refine s_nil<|WD.of ?_;refine W.ret ?_
    have bz:=M.e_inr hM aK
    subst bz;replace hM:=aQ;(try dsimp only at hM);refine bodyD_r (H.pk [0,1,2,3]) ?_;intro ch H;replace H:=H.nf
    have bA:=(H.bl 0)
    have aw:=M.e_pure hM
    exact ⟨_,(resE_of1 (v:=B true) rfl (.cell (v:=B true) rfl (run_loadVar_sc Sc4 bA rfl)<|.nil)),⟨true,aw,rfl,(H.pk [])⟩⟩
   replace hM:=M.e_f hM aC
   replace aC:=dI aC
   refine WD.of<|W.skip<|WD.of ?_;obtain ⟨ci,hM⟩:=M.e_gd hM;refine kg 4 ?_
   exact ⟨ba,bb,s2+1,_,upds_of _ _ ⟨rfl,rfl,rfl,rfl,trivial⟩,M.e_inl hM aK,(H.pk [1,3,0])⟩
  (try dsimp only at hM)
  obtain ⟨_,rfl,rfl⟩:=a7
  refine ⟨_,[cBlk ae [B true] 4,cBlk au [Pq aa] 79,cBlk av [I aq] 3,cBlk ap [I (s2:Int)] 3,cBlk ai [Pq aa] 79],H.unbundle.pick [0,2,1,3,4,5,6] (by decide) rfl,nofun,?_⟩
  intro bx H
  show WD _ _ _ (.ret) _ _ _
  refine WD.of ?_;refine W.ret ?_;replace H:=H.nf
  have bB:=M.e_inr hM aK
  subst bB;replace hM:=aQ;(try dsimp only at hM);refine bodyD_r (H.pk [0,1,2,3,4,5]) ?_;intro cj H;replace H:=H.nf
  have bC:=(H.bl 0)
  have aw:=M.e_pure hM
  exact ⟨_,(resE_of1 (v:=B true) rfl (.cell (v:=B true) rfl (run_loadVar_sc Sc4 bC rfl)<|.nil)),⟨true,aw,rfl,(H.pk [])⟩⟩
 replace hM:=M.e_f hM az
 replace az:=dI az
 refine WD.of ?_;refine W.exit ?_
 have bD:=M.e_inr hM aK
 subst bD;replace hM:=aQ;(try dsimp only at hM);refine WD.seq<|WD.of<|W.region rfl ?_;refine t_sw 0 0 [B false] (B false) H rfl rfl Sz4 rfl rfl rfl rfl ?_;intro ck H;refine s_nil<|WD.of ?_;refine W.ret ?_;refine bodyD_r (H.pk [2,0,1]) ?_;intro cm H;replace H:=H.nf
 have bE:=(H.bl 0)
 have aw:=M.e_pure hM
 exact ⟨_,(resE_of1 (v:=B false) rfl (.cell (v:=B false) rfl (run_loadVar_sc Sc4 bE rfl)<|.nil)),⟨false,aw,rfl,(H.pk [])⟩⟩

def zb7 (n_Marks:Int) (n_Lines:List Line):M (Int ⊕ (Int × (List Int) × (List Leg) × Int)) :=
  M.bind (zbK n_Marks n_Lines) fun x_=>match x_ with
  | (.inl r1)=>(
  bif r1==0 then (
  M.fail)
  else (
  M.pure (.inl r1)))
  | (.inr (aa,ab,ac,ae))=>(
  M.bind (M.opt (ae==0) (za9 aa n_Lines ab ac) false) fun r2 =>
  bif ((ae==0)&&r2) then (
  M.pure (.inr (aa,ab,ac,7)))
  else (
  M.pure (.inr (aa,ab,ac,ae))))
theorem zdv {R:List Chunk} {au:Cells} {ab:Value} (n_Marks:Int) (n_Lines:List Line) (av:Reads R au) (aw:Sl au ab n_Lines) {r:(Int ⊕ (Int × (List Int) × (List Leg) × Int))} (hM:(zb7 n_Marks n_Lines).Ends r) (w:World) (H:St w w [] R):Ret Try.prog 50 #[.agg #[I n_Marks,ab]] w fun v w'=>(∃ (y0:Int),(.inl y0)=r/\v = .tuple #[.pointer none,I y0]/\St w w' [] R)∨(∃ (y0:Int) (y1:List Int) (y2:List Leg) (y3:Int) (ax:Nat),(.inr (y0,y1,y2,y3))=r/\v = .tuple #[Pq ax,I y3]/\St w w' [cBlk ax (List.flatten [[I y0,ab],encF (α:=Int) y1,encF (α:=Leg) y2]) 90] R/\y1.length=169/\y2.length=169):=by
 refine ret_of_W Try.func50 rfl rfl rfl ?_;refine kg 2 ?_;refine t_bx [I n_Marks,ab] H rfl ?_;intro aF aG H;refine kg 6 ?_;obtain ⟨aH,az,hM⟩:=M.e_bind hM;refine s_call cf75 [.agg #[I n_Marks,ab]] rfl (zdR n_Marks n_Lines (av.app _) aw az _ (H.gt 1)) ?_
 rintro vq aI (⟨r1,aB,hvq,ac⟩ | ⟨ai,aj,am,ae,ag,aC,hvq,ac,ao,ap⟩)
 ·subst aB;subst vq;(try dsimp only at hM);replace H:=H.bk ac;clear ac;refine kg 13 ?_
  refine (Bool.eq_false_or_eq_true (r1==0)).elim (fun ah=>?_) (fun ah=>?_)
  ·exact (M.e_fail (M.e_t hM ah)).elim
  replace hM:=M.e_f hM ah;refine g_val (v:=B false) (r1==0) (gy_t rfl) (fun hg=>Bool.noConfusion (ah.symm.trans hg))<|s_val (x_pand0 (b:=r1==0) rfl (fun hb=>gd_of (c:=r1==0) (by first | exact hb | (rw [hb]; rfl) | simp_all) (B false)) rfl)<|s_nil ?_
  refine W.cond false rfl (fun ay=>?_) (fun ay=>?_)
  ·skip
   exact absurd ay (by decide)
  skip
  refine kg 8 ?_;refine W.ret ?_
  have aa:=M.e_pure hM
  exact ⟨_,resE_tmp2 rfl,.inl (⟨r1,aa,rfl,(H.pk [])⟩)⟩
 subst aC;subst vq;(try dsimp only at hM);replace H:=H.bk ac;clear ac;refine kg 13 ?_;obtain ⟨r2,aD,hM⟩:=M.e_bind hM;refine t_gcall (ae==0) (gy_t rfl) cf76 (B r2) (fun _=>[Pq ag]) (fun hg=>lst1 (gd_of hg (Pq ag))) H (fun hg=>(zdA ai n_Lines aj am (av.app _) aw ao ap (Has.here (k:=0) rfl) (M.e_opt aD hg) _ (H.give (A:=[]) rfl)).mono fun v_ w_ ⟨y_,aa,aE,H_⟩=>by subst aa; exact ⟨aE,H.via H_⟩) ?_;intro aJ H;refine s_val (x_pand (b:=ae==0) (r:=r2) rfl (fun hb=>gd_of (c:=ae==0) (by first | exact hb | (rw [hb]; rfl) | simp_all) (B r2)) rfl)<|s_nil ?_
 refine W.cond ((ae==0)&&r2) rfl (fun aq=>?_) (fun aq=>?_)
 ·replace hM:=M.e_t hM aq;refine kg 10 ?_;refine W.ret ?_
  have aa:=M.e_pure hM
  exact ⟨_,resE_tmp2 rfl,.inr (⟨ai,aj,am,7,ag,aa,rfl,(H.pk [0]),ao,ap⟩)⟩
 replace hM:=M.e_f hM aq;refine kg 8 ?_;refine W.ret ?_
 have aa:=M.e_pure hM
 exact ⟨_,resE_tmp2 rfl,.inr (⟨ai,aj,am,ae,ag,aa,rfl,(H.pk [0]),ao,ap⟩)⟩

def zcb (n_Marks:Int) (n_Lines:List Line) (aa ab:Int) (same:Bool):M (Int ⊕ (Int × (List Int) × (List Leg) × Int)) :=
  M.bind (zbi n_Marks n_Lines) fun r2 =>
  bif r2 != 0 then (
  M.pure (.inl r2))
  else (
  M.grd (decide ((-9223372036854775808:Int)<=(n_Marks-1))&&decide ((n_Marks-1)<=(9223372036854775807:Int))) <|
  M.bind (zai aa 0 (n_Marks-1)) fun r3 =>
  M.bind (M.opt (!(!r3)) (zai ab 0 (n_Marks-1)) false) fun r4 =>
  bif (((!r3)||(!r4))||((!same)&&(aa==ab))) then (
  M.pure (.inl 2))
  else (
  M.bind (zb7 n_Marks n_Lines) fun x_=>match x_ with
  | (.inl r1)=>(
  bif r1==0 then (
  M.fail)
  else (
  M.pure (.inl r1)))
  | (.inr (ag,ae,ah,ac))=>(
  M.grd ((!(ac==0)||(decide ((0:Int)<=aa)&&decide (aa<(13:Int))))) <|
  M.grd ((!(ac==0)||(decide ((0:Int)<=ab)&&decide (ab<(13:Int))))) <|
  bif ((ac==0)&&((ae.getD ((Int.toNat aa)*13+(Int.toNat ab)) 0)==1099511627776)) then (
  M.pure (.inr (ag,ae,ah,5)))
  else (
  M.pure (.inr (ag,ae,ah,ac))))))
theorem zd2 {R:List Chunk} {aB:Cells} {au:Value} (n_Marks:Int) (n_Lines:List Line) (aa:Int) (ab:Int) (same:Bool) (aC:Reads R aB) (aD:Sl aB au n_Lines) {r:(Int ⊕ (Int × (List Int) × (List Leg) × Int))} (hM:(zcb n_Marks n_Lines aa ab same).Ends r) (w:World) (H:St w w [] R):Ret Try.prog 30 #[.agg #[I n_Marks,au],I aa,I ab,B same] w fun v w'=>(∃ (y0:Int),(.inl y0)=r/\v = .tuple #[.pointer none,I y0]/\St w w' [] R)∨(∃ (y0:Int) (y1:List Int) (y2:List Leg) (y3:Int) (aE:Nat),(.inr (y0,y1,y2,y3))=r/\v = .tuple #[Pq aE,I y3]/\St w w' [cBlk aE (List.flatten [[I y0,au],encF (α:=Int) y1,encF (α:=Leg) y2]) 90] R/\y1.length=169/\y2.length=169):=by
 refine ret_of_W Try.func30 rfl rfl rfl ?_;refine kg 2 ?_;refine t_bx [I n_Marks,au] H rfl ?_;intro aQ aR H;refine kg 7 ?_;obtain ⟨aS,aJ,hM⟩:=M.e_bind hM;refine s_call cf48 [.agg #[I n_Marks,au]] rfl (zdf n_Marks n_Lines (aC.app _) aD aJ _ (H.gt 1)) ?_
 rintro vq aT ⟨r2,rfl,hvq,ae⟩
 subst vq;(try dsimp only at hM);replace H:=H.bk ae;clear ae;refine kg 7 ?_
 refine W.cond (r2 != 0) rfl (fun ao=>?_) (fun ao=>?_)
 ·replace hM:=M.e_t hM ao
  replace ao:=dI ao
  refine kg 6 ?_;refine W.ret ?_
  have ag:=M.e_pure hM
  exact ⟨_,resE_tmp2 rfl,.inl (⟨r2,ag,rfl,(H.pk [])⟩)⟩
 replace hM:=M.e_f hM ao
 replace ao:=dI ao
 obtain ⟨aU,hM⟩:=M.e_gd hM;refine kg 8 ?_;obtain ⟨aV,aK,hM⟩:=M.e_bind hM;refine s_call cf49 [I aa,I 0,I (n_Marks-1)] rfl (zaq aa 0 (n_Marks-1) aK _ (H.gt 1)) ?_
 rintro vq aW ⟨r3,rfl,hvq,ae⟩
 subst vq;(try dsimp only at hM);replace H:=H.bk ae;clear ae;refine kg 6 ?_;obtain ⟨r4,aL,hM⟩:=M.e_bind hM;refine t_gcall (!(!r3)) (gy_f rfl) cf49 (B r4) (fun _=>[I ab,I 0,I (n_Marks-1)]) (fun hg=>lst3 (gd_of hg (I ab)) rfl (gd_of hg (I (n_Marks-1)))) H (fun hg=>(zaq ab 0 (n_Marks-1) (M.e_opt aL hg) _ (H.give (A:=[]) rfl)).mono fun v_ w_ ⟨y_,ag,aM,H_⟩=>by subst ag; exact ⟨aM,H.via H_⟩) ?_;intro aX H;refine kg 1 ?_;refine s_val (x_por (b:=!r3) (r:=!r4) rfl rfl (fun hb=>gd_of (c:=!(!r3)) (by first | exact hb | (rw [hb]; rfl) | simp_all) (B (!r4))))<|zM (B ((!r3)||(!r4))) rfl<|g_val (!((!r3)||(!r4))) (gy_f rfl) (fun hg=>x_mv (v:=B same) rfl)<|g_val (!((!r3)||(!r4))) (gy_f rfl) (fun hg=>x_not (b:=same) (gd_of hg (B same)))<|g_val (!((!r3)||(!r4))) (gy_f rfl) (fun hg=>x_mv (v:=B (!same)) (gd_of hg (B (!same))))<|g_val ((!((!r3)||(!r4)))&&(!same)) (gy_gt rfl rfl) (fun hg=>x_mv (v:=I aa) rfl)<|g_val ((!((!r3)||(!r4)))&&(!same)) (gy_gt rfl rfl) (fun hg=>x_mv (v:=I ab) rfl)<|g_val ((!((!r3)||(!r4)))&&(!same)) (gy_gt rfl rfl) (fun hg=>x_cmp (kd:=.i64) (r:=aa==ab) (gd_of hg (I aa)) (gd_of hg (I ab)) rfl)<|g_val (!((!r3)||(!r4))) (gy_f rfl) (fun hg=>x_pand (b:=!same) (r:=aa==ab) (gd_of hg (B (!same))) (fun hb=>gd_of (c:=((!((!r3)||(!r4)))&&(!same))) (by first | exact hb | (rw [hb]; rfl) | simp_all) (B (aa==ab))) rfl)<|s_val (x_por (b:=((!r3)||(!r4))) (r:=((!same)&&(aa==ab))) rfl rfl (fun hb=>gd_of (c:=!((!r3)||(!r4))) (by first | exact hb | (rw [hb]; rfl) | simp_all) (B ((!same)&&(aa==ab))))) ?_;refine s_nil ?_
 refine W.cond (((!r3)||(!r4))||((!same)&&(aa==ab))) rfl (fun ax=>?_) (fun ax=>?_)
 ·replace hM:=M.e_t hM ax;refine kg 5 ?_;refine W.ret ?_
  have ag:=M.e_pure hM
  exact ⟨_,resE_tmp2 rfl,.inl (⟨2,ag,rfl,(H.pk [])⟩)⟩
 replace hM:=M.e_f hM ax;refine kg 4 ?_;obtain ⟨aY,aN,hM⟩:=M.e_bind hM;refine s_call cf50 [.agg #[I n_Marks,au]] rfl (zdv n_Marks n_Lines (aC.app _) aD aN _ (H.gt 1)) ?_
 rintro vq aZ (⟨r1,aO,hvq,ae⟩ | ⟨aF,av,aG,ap,aq,aP,hvq,ae,ay,aH⟩)
 ·subst aO;subst vq;(try dsimp only at hM);replace H:=H.bk ae;clear ae;refine kg 15 ?_
  refine (Bool.eq_false_or_eq_true (r1==0)).elim (fun ai=>?_) (fun ai=>?_)
  ·exact (M.e_fail (M.e_t hM ai)).elim
  replace hM:=M.e_f hM ai;refine g_val (v:=.slice none 0 0) (r1==0) (gy_t rfl) (fun hg=>Bool.noConfusion (ai.symm.trans hg))<|g_val (v:=.slice none 0 0) (r1==0) (gy_t rfl) (fun hg=>Bool.noConfusion (ai.symm.trans hg))<|g_val (v:=.slice none 0 0) (r1==0) (gy_t rfl) (fun hg=>Bool.noConfusion (ai.symm.trans hg))<|g_val (v:=.slice none 0 0) (r1==0) (gy_t rfl) (fun hg=>Bool.noConfusion (ai.symm.trans hg))<|g_val (v:=I 0) (r1==0) (gy_t rfl) (fun hg=>Bool.noConfusion (ai.symm.trans hg))<|g_val (v:=B false) (r1==0) (gy_t rfl) (fun hg=>Bool.noConfusion (ai.symm.trans hg))<|s_val (x_pand0 (b:=r1==0) rfl (fun hb=>gd_of (c:=r1==0) (by first | exact hb | (rw [hb]; rfl) | simp_all) (B false)) rfl)<|s_nil ?_
  refine W.cond false rfl (fun aI=>?_) (fun aI=>?_)
  ·skip
   exact absurd aI (by decide)
  skip
  refine kg 8 ?_;refine W.ret ?_
  have ag:=M.e_pure hM
  exact ⟨_,resE_tmp2 rfl,.inl (⟨r1,ag,rfl,(H.pk [])⟩)⟩
 subst aP;subst vq;(try dsimp only at hM);replace H:=H.bk ae;clear ae;obtain ⟨am,hM⟩:=M.e_grd hM
 replace am:=M.imp_of am
 simp only [Bool.and_eq_true,decide_eq_true_eq] at am
 refine kg 17 ?_;refine g_val (ap==0) (gy_t rfl) (fun hg=>x_ix (v:=.pointer (some ⟨aq,2+Int.toNat aa*13,none⟩)) (gd_of hg (Oq aq 2)) (gd_of hg (I aa)) (run_indexS Try.underlying84 Sz82 (by have ac:=am.resolve_left (by rw [hg]; decide); first | exact ac | exact ac.1 | exact ac.2 | omega | (have aj:=hg; simp at aj; omega)) (by have ac:=am.resolve_left (by rw [hg]; decide); first | exact ac | exact ac.1 | exact ac.2 | omega | (have aj:=hg; simp at aj; omega)))) ?_;obtain ⟨aw,hM⟩:=M.e_grd hM
 replace aw:=M.imp_of aw
 simp only [Bool.and_eq_true,decide_eq_true_eq] at aw
 refine g_val (ap==0) (gy_t rfl) (fun hg=>x_ix (v:=.pointer (some ⟨aq,(2+Int.toNat aa*13)+Int.toNat ab*1,none⟩)) (gd_of hg (.pointer (some ⟨aq,2+Int.toNat aa*13,none⟩))) (gd_of hg (I ab)) (run_indexS Try.underlying82 Sz3 (by have ac:=am.resolve_left (by rw [hg]; decide); have ah:=aw.resolve_left (by rw [hg]; decide); first | exact ac | exact ac.1 | exact ac.2 | exact ah | exact ah.1 | exact ah.2 | omega | (have aj:=hg; simp at aj; omega)) (by have ac:=am.resolve_left (by rw [hg]; decide); have ah:=aw.resolve_left (by rw [hg]; decide); first | exact ac | exact ac.1 | exact ac.2 | exact ah | exact ah.1 | exact ah.2 | omega | (have aj:=hg; simp at aj; omega))))<|g_val (ap==0) (gy_t rfl) (fun hg=>x_ld (v:=I (av.getD ((Int.toNat aa)*13+(Int.toNat ab)) 0)) (gd_of hg (.pointer (some ⟨aq,(2+Int.toNat aa*13)+Int.toNat ab*1,none⟩))) (ldS (α:=Int) (k:=1) (off:=2) (i:=(Int.toNat aa)*13+(Int.toNat ab)) (f:=0) (sz:=1) 0 Sc3 (H.bl 0) rfl (sgo1 rfl) rfl (by decide) (by have a4:=ay; have ac:=am.resolve_left (by rw [hg]; decide); have ah:=aw.resolve_left (by rw [hg]; decide); first | exact ac | exact ac.1 | exact ac.2 | exact ah | exact ah.1 | exact ah.2 | omega | (have aj:=hg; simp at aj; omega)) (by omega) rfl)) ?_;refine kg 1 ?_;refine s_val (x_pand (b:=ap==0) (r:=(av.getD ((Int.toNat aa)*13+(Int.toNat ab)) 0)==1099511627776) rfl (fun hb=>gd_of (c:=ap==0) (by first | exact hb | (rw [hb]; rfl) | simp_all) (B ((av.getD ((Int.toNat aa)*13+(Int.toNat ab)) 0)==1099511627776))) rfl)<|s_nil ?_
 refine W.cond ((ap==0)&&((av.getD ((Int.toNat aa)*13+(Int.toNat ab)) 0)==1099511627776)) rfl (fun az=>?_) (fun az=>?_)
 ·replace hM:=M.e_t hM az;refine kg 10 ?_;refine W.ret ?_
  have ag:=M.e_pure hM
  exact ⟨_,resE_tmp2 rfl,.inr (⟨aF,av,aG,5,aq,ag,rfl,(H.pk [0]),ay,aH⟩)⟩
 replace hM:=M.e_f hM az;refine kg 8 ?_;refine W.ret ?_
 have ag:=M.e_pure hM
 exact ⟨_,resE_tmp2 rfl,.inr (⟨aF,av,aG,ap,aq,ag,rfl,(H.pk [0]),ay,aH⟩)⟩

def zaC (n_Marks:Int) (n_Lines:List Line) (aa ab:Int):M (Int × Int × Int) :=
  M.bind (zcb n_Marks n_Lines aa ab true) fun x_=>match x_ with
  | (.inl r1)=>(
  bif r1 != 0 then (
  M.pure (0,0,r1))
  else (
  M.fail))
  | (.inr (ag,ac,ah,ae))=>(
  bif ae != 0 then (
  M.pure (0,0,ae))
  else (
  M.grd (decide ((0:Int)<=ab)&&decide (ab<(13:Int))) <|
  M.grd (decide ((0:Int)<=aa)&&decide (aa<(13:Int))) <|
  M.grd (decide (-9223372036854775807<=(ac.getD ((Int.toNat ab)*13+(Int.toNat aa)) 0))&&decide ((ac.getD ((Int.toNat ab)*13+(Int.toNat aa)) 0)<=9223372036854775807)) <|
  M.pure ((-(ac.getD ((Int.toNat ab)*13+(Int.toNat aa)) 0)),(ac.getD ((Int.toNat aa)*13+(Int.toNat ab)) 0),0)))
theorem zbZ {R:List Chunk} {ap:Cells} {ah:Value} (n_Marks:Int) (n_Lines:List Line) (aa:Int) (ab:Int) (av:Reads R ap) (aw:Sl ap ah n_Lines) {r:(Int × Int × Int)} (hM:(zaC n_Marks n_Lines aa ab).Ends r) (w:World) (H:St w w [] R):Ret Try.prog 13 #[.agg #[I n_Marks,ah],I aa,I ab] w fun v w'=>∃ (y0:Int) (y1:Int) (y2:Int),(y0,y1,y2)=r/\v = .tuple #[.agg #[I y0,I y1],I y2]/\St w w' [] R:=by
 refine ret_of_W Try.func13 rfl rfl rfl ?_;refine kg 2 ?_;refine t_bx [I n_Marks,ah] H rfl ?_;intro ax aI H;refine t_alloc (cs:=[I 0,I 0]) H Al52 rfl ?_;intro aJ aK H;refine kg 7 ?_;obtain ⟨aL,ay,hM⟩:=M.e_bind hM;refine s_call cf30 [.agg #[I n_Marks,ah],I aa,I ab,B true] rfl (zd2 n_Marks n_Lines aa ab true (av.app _) aw ay _ (H.gt 2)) ?_
 rintro vq aM (⟨r1,az,hvq,ai⟩ | ⟨aB,ac,aC,ao,aj,aD,hvq,ai,aq,aN⟩)
 ·subst az;subst vq;(try dsimp only at hM);replace H:=H.bk ai;clear ai;refine kg 12 ?_
  refine W.cond (r1 != 0) rfl (fun ae=>?_) (fun ae=>?_)
  ·replace hM:=M.e_t hM ae
   replace ae:=dI ae
   refine kg 2 ?_;refine s_val (x_bld (ps:=[]) (zs:=[I 0,I 0]) (L':=[I 0,I 0]) rfl Try.underlying52 Al52 rfl (Bd52 Try.underlying52) (.nil)) ?_;refine kg 1 ?_;refine t_sw 0 0 [I 0,I 0] (.agg #[I 0,I 0]) H rfl rfl Sz52 rfl rfl rfl rfl ?_;intro aO H;refine kg 2 ?_;refine W.ret ?_
   have aE:=(H.bl 0)
   have am:=M.e_pure hM
   exact ⟨_,(resE_ofn (vs:=[.agg #[I 0,I 0],I r1]) rfl rfl (.cell (v:=.agg #[I 0,I 0]) rfl (run_loadVar_ag (ds:=[I 0,I 0]) Ag52 Sz52 aE rfl rfl)<|.tmp (v:=I r1) rfl<|.nil)),⟨0,0,r1,am,rfl,(H.pk [])⟩⟩
  replace hM:=M.e_f hM ae
  replace ae:=dI ae
  refine kg 2 ?_
  exact (M.e_fail hM).elim
 subst aD;subst vq;(try dsimp only at hM);replace H:=H.bk ai;clear ai;refine kg 12 ?_
 refine W.cond (ao != 0) rfl (fun ag=>?_) (fun ag=>?_)
 ·replace hM:=M.e_t hM ag
  replace ag:=dI ag
  refine kg 2 ?_;refine s_val (x_bld (ps:=[]) (zs:=[I 0,I 0]) (L':=[I 0,I 0]) rfl Try.underlying52 Al52 rfl (Bd52 Try.underlying52) (.nil)) ?_;refine kg 1 ?_;refine t_sw 1 0 [I 0,I 0] (.agg #[I 0,I 0]) H rfl rfl Sz52 rfl rfl rfl rfl ?_;intro aP H;refine kg 2 ?_;replace H:=H.pk [1];refine W.ret ?_
  have aF:=(H.bl 0)
  have am:=M.e_pure hM
  exact ⟨_,(resE_ofn (vs:=[.agg #[I 0,I 0],I ao]) rfl rfl (.cell (v:=.agg #[I 0,I 0]) rfl (run_loadVar_ag (ds:=[I 0,I 0]) Ag52 Sz52 aF rfl rfl)<|.tmp (v:=I ao) rfl<|.nil)),⟨0,0,ao,am,rfl,(H.pk [])⟩⟩
 replace hM:=M.e_f hM ag
 replace ag:=dI ag
 refine kg 2 ?_;refine W.draw (fun W=>St w W [cBlk aj (List.flatten [[I aB,ah],encF (α:=Int) ac,encF (α:=Leg) aC]) 90,cBlk ax [I n_Marks,ah] 25] R) [(0,true),(1,true),(2,true),(3,true),(4,true),(5,true),(6,true),(7,true),(8,true),(9,true),(10,true),(11,true),(12,true),(13,true),(14,true),(15,true),(16,true),(17,true),(18,false),(19,true)] mixed (by decide +kernel) rfl ?_;intro aQ au;replace H:=H.ext au;clear au
 refine ⟨(H.pk [0,2]),?_⟩
 obtain ⟨aR,hM⟩:=M.e_gd hM;refine kg 5 ?_;refine d_q rfl (fun w' H=>x_ix (v:=.pointer (some ⟨aj,2+Int.toNat ab*13,none⟩)) rfl rfl (run_indexS Try.underlying84 Sz82 (by omega) (by omega))) ?_;obtain ⟨aS,hM⟩:=M.e_gd hM;refine d_q rfl (fun w' H=>x_ix (v:=.pointer (some ⟨aj,(2+Int.toNat ab*13)+Int.toNat aa*1,none⟩)) rfl rfl (run_indexS Try.underlying82 Sz3 (by omega) (by omega)))<|d_q rfl (fun w' H=>x_ld (v:=I (ac.getD ((Int.toNat ab)*13+(Int.toNat aa)) 0)) rfl (ldS (α:=Int) (k:=1) (off:=2) (i:=(Int.toNat ab)*13+(Int.toNat aa)) (f:=0) (sz:=1) 0 Sc3 (H.bl 0) rfl (sgo1 rfl) rfl (by decide) (by have aG:=aq; omega) (by omega) rfl)) ?_;obtain ⟨aT,hM⟩:=M.e_gd hM;refine d_q rfl (fun w' H=>x_neg (a:=ac.getD ((Int.toNat ab)*13+(Int.toNat aa)) 0) rfl (by omega)) ?_;refine kg 5 ?_;refine d_q rfl (fun w' H=>x_ix (v:=.pointer (some ⟨aj,2+Int.toNat aa*13,none⟩)) rfl rfl (run_indexS Try.underlying84 Sz82 (by omega) (by omega)))<|d_q rfl (fun w' H=>x_ix (v:=.pointer (some ⟨aj,(2+Int.toNat aa*13)+Int.toNat ab*1,none⟩)) rfl rfl (run_indexS Try.underlying82 Sz3 (by omega) (by omega)))<|d_q rfl (fun w' H=>x_ld (v:=I (ac.getD ((Int.toNat aa)*13+(Int.toNat ab)) 0)) rfl (ldS (α:=Int) (k:=1) (off:=2) (i:=(Int.toNat aa)*13+(Int.toNat ab)) (f:=0) (sz:=1) 0 Sc3 (H.bl 0) rfl (sgo1 rfl) rfl (by decide) (by have aG:=aq; omega) (by omega) rfl))<|d_q rfl (fun w' H=>x_bld (ps:=[(0,I (-(ac.getD ((Int.toNat ab)*13+(Int.toNat aa)) 0))),(1,I (ac.getD ((Int.toNat aa)*13+(Int.toNat ab)) 0))]) (zs:=[I 0,I 0]) (L':=[I (-(ac.getD ((Int.toNat ab)*13+(Int.toNat aa)) 0)),I (ac.getD ((Int.toNat aa)*13+(Int.toNat ab)) 0)]) rfl Try.underlying52 Al52 rfl (Bd52 Try.underlying52) (.cons (cs:=[I (-(ac.getD ((Int.toNat ab)*13+(Int.toNat aa)) 0))]) rfl rfl rfl rfl rfl<|.cons (cs:=[I (ac.getD ((Int.toNat aa)*13+(Int.toNat ab)) 0)]) rfl rfl rfl rfl rfl<|.nil))<|d_l rfl ?_;refine t_sw 1 0 [I (-(ac.getD ((Int.toNat ab)*13+(Int.toNat aa)) 0)),I (ac.getD ((Int.toNat aa)*13+(Int.toNat ab)) 0)] (.agg #[I (-(ac.getD ((Int.toNat ab)*13+(Int.toNat aa)) 0)),I (ac.getD ((Int.toNat aa)*13+(Int.toNat ab)) 0)]) H rfl rfl Sz52 rfl rfl rfl rfl ?_;intro aU H
 refine s_nil ⟨(H.pk [0,2]),?_⟩
 refine kg 2 ?_;replace H:=H.pk [1];refine W.ret ?_
 have aH:=(H.bl 0)
 have am:=M.e_pure hM
 exact ⟨_,(resE_ofn (vs:=[.agg #[I (-(ac.getD ((Int.toNat ab)*13+(Int.toNat aa)) 0)),I (ac.getD ((Int.toNat aa)*13+(Int.toNat ab)) 0)],I 0]) rfl rfl (.cell (v:=.agg #[I (-(ac.getD ((Int.toNat ab)*13+(Int.toNat aa)) 0)),I (ac.getD ((Int.toNat aa)*13+(Int.toNat ab)) 0)]) rfl (run_loadVar_ag (ds:=[I (-(ac.getD ((Int.toNat ab)*13+(Int.toNat aa)) 0)),I (ac.getD ((Int.toNat aa)*13+(Int.toNat ab)) 0)]) Ag52 Sz52 aH rfl rfl)<|.tmp (v:=I 0) rfl<|.nil)),⟨(-(ac.getD ((Int.toNat ab)*13+(Int.toNat aa)) 0)),(ac.getD ((Int.toNat aa)*13+(Int.toNat ab)) 0),0,am,rfl,(H.pk [])⟩⟩

end Go.Proofs.Ytigidakpcepdkaa
end
section
set_option maxRecDepth 100000
set_option maxHeartbeats 16000000
namespace Go.Proofs.Ytigidakpcepdkaa
open Go Go.Nm
attribute [local irreducible] gd execOp SL SLD SLT WR
def zbD (s_used s_mix n b:Int):M (Int × Int × Int) :=
  M.grd (decide ((-9223372036854775808:Int)<=(5*s_mix))&&decide ((5*s_mix)<=(9223372036854775807:Int))) <|
  M.grd (decide ((-9223372036854775808:Int)<=((5*s_mix)+b))&&decide (((5*s_mix)+b)<=(9223372036854775807:Int))) <|
  M.grd (decide ((-9223372036854775808:Int)<=(((5*s_mix)+b)+1))&&decide ((((5*s_mix)+b)+1)<=(9223372036854775807:Int))) <|
  M.grd (decide ((0:Int)<=(((5*s_mix)+b)+1))&&decide ((0:Int)<251)) <|
  M.grd (decide ((-9223372036854775808:Int)<=(s_used+1))&&decide ((s_used+1)<=(9223372036854775807:Int))) <|
  bif decide (256<n) then (
  M.grd (decide ((-9223372036854775808:Int)<=(256*b))&&decide ((256*b)<=(9223372036854775807:Int))) <|
  M.grd (decide ((-9223372036854775808:Int)<=((256*b)+((((5*s_mix)+b)+1) % 251)))&&decide (((256*b)+((((5*s_mix)+b)+1) % 251))<=(9223372036854775807:Int))) <|
  M.grd (decide ((0:Int)<=((256*b)+((((5*s_mix)+b)+1) % 251)))&&decide ((0:Int)<n)) <|
  M.pure ((((256*b)+((((5*s_mix)+b)+1) % 251)) % n),(s_used+1),((((5*s_mix)+b)+1) % 251)))
  else (
  M.grd (decide ((0:Int)<=b)&&decide ((0:Int)<n)) <|
  M.pure ((b % n),(s_used+1),((((5*s_mix)+b)+1) % 251)))
def zak (s_bytes:List UInt8) (s_used s_mix n:Int):M (Int × Int × Int) :=
  bif ((decide (n<2))||((s_bytes.length:Int)==0)) then (
  M.pure (0,s_used,s_mix))
  else (
  M.grd (decide ((0:Int)<=s_used)&&decide ((0:Int)<(s_bytes.length:Int))) <|
  M.grd (decide ((0:Int)<=(s_used % (s_bytes.length:Int)))&&decide ((s_used % (s_bytes.length:Int))<(s_bytes.length:Int))) <|
  M.grd (decide ((0:Int)<=((s_bytes.getD (Int.toNat (s_used % (s_bytes.length:Int))) 0).toNat:Int))&&decide (((s_bytes.getD (Int.toNat (s_used % (s_bytes.length:Int))) 0).toNat:Int)<(256:Int))) <|
  bif decide ((s_bytes.length:Int)<=s_used) then (
  M.grd (decide ((-9223372036854775808:Int)<=(11*s_mix))&&decide ((11*s_mix)<=(9223372036854775807:Int))) <|
  M.grd (decide (0<=s_used)&&decide (s_used<=(9223372036854775807:Int))&&decide ((0:Int)<(s_bytes.length:Int))) <|
  M.grd (decide ((-9223372036854775808:Int)<=((11*s_mix)+(s_used / (s_bytes.length:Int))))&&decide (((11*s_mix)+(s_used / (s_bytes.length:Int)))<=(9223372036854775807:Int))) <|
  M.grd (decide ((-9223372036854775808:Int)<=(((s_bytes.getD (Int.toNat (s_used % (s_bytes.length:Int))) 0).toNat:Int)+((11*s_mix)+(s_used / (s_bytes.length:Int)))))&&decide ((((s_bytes.getD (Int.toNat (s_used % (s_bytes.length:Int))) 0).toNat:Int)+((11*s_mix)+(s_used / (s_bytes.length:Int))))<=(9223372036854775807:Int))) <|
  zbD s_used s_mix n (((s_bytes.getD (Int.toNat (s_used % (s_bytes.length:Int))) 0).toNat:Int)+((11*s_mix)+(s_used / (s_bytes.length:Int)))))
  else (
  zbD s_used s_mix n ((s_bytes.getD (Int.toNat (s_used % (s_bytes.length:Int))) 0).toNat:Int)))
theorem zax {R:List Chunk} {aa:Nat} {am:Cells} {ac:Value} (s_bytes:List UInt8) (s_used:Int) (s_mix:Int) (n:Int) (ao:Reads R am) (ah:Sl am ac s_bytes) {r:(Int × Int × Int)} (hM:(zak s_bytes s_used s_mix n).Ends r) (w:World) (H:St w w [cBlk aa [ac,I s_used,I s_mix] 61] R):Ret Try.prog 16 #[Pq aa,I n] w fun v w'=>∃ (y0:Int) (y1:Int) (y2:Int),(y0,y1,y2)=r/\v=I y0/\St w w' [cBlk aa [ac,I y1,I y2] 61] R:=by
 refine ret_of_W Try.func16 rfl rfl rfl ?_
 have ap:=(ah).len_le
 refine kg 16 ?_;refine s_val (x_por (b:=decide (n<2)) (r:=(s_bytes.length:Int)==0) rfl rfl (fun hb=>gd_of (c:=!(decide (n<2))) (by first | exact hb | (rw [hb]; rfl) | simp_all) (B ((s_bytes.length:Int)==0))))<|s_nil ?_
 refine W.cond ((decide (n<2))||((s_bytes.length:Int)==0)) rfl (fun aj=>?_) (fun aj=>?_)
 ·replace hM:=M.e_t hM aj;refine kg 4 ?_;refine W.ret ?_
  have ai:=M.e_pure hM
  exact ⟨_,resE_tmp rfl,⟨0,s_used,s_mix,ai,rfl,H⟩⟩
 replace hM:=M.e_f hM aj;refine kg 2 ?_;refine W.draw (fun W=>St w W [cBlk aa [ac,I s_used,I s_mix] 61] R) [(0,true),(1,true),(2,true),(3,true),(4,true),(5,true),(6,true),(7,true),(8,true),(9,true),(10,true),(11,true),(12,true),(13,true),(14,true),(15,true),(16,true),(17,true)] mixed (by decide +kernel) rfl ?_;intro aq ab;replace H:=H.ext ab;clear ab
 refine ⟨(H.pk [0]),?_⟩
 have au:=(ah).len_le
 obtain ⟨av,hM⟩:=M.e_gd hM;refine kg 13 ?_;refine d_q rfl (fun w' H=>x_rem' (a:=s_used) (b:=(s_bytes.length:Int)) rfl rfl (by omega)) ?_;obtain ⟨aw,hM⟩:=M.e_gd hM;refine kg 1 ?_;refine d_q rfl (fun w' H=>x_ld (v:=.int .u8 (((s_bytes.getD (Int.toNat (s_used % (s_bytes.length:Int))) 0).toNat:Int))) rfl (ld_sc Sc5 (At.mono (UInt8_at ah (i:=s_used % (s_bytes.length:Int)) (by omega) (by omega)) (ao.at H)))) ?_;obtain ⟨ax,hM⟩:=M.e_gd hM;refine d_q rfl (fun w' H=>x_conv64 (kd:=.u8) (a:=((s_bytes.getD (Int.toNat (s_used % (s_bytes.length:Int))) 0).toNat:Int)) Try.underlying5 Try.underlying3 rfl (by omega)) ?_;refine kg 2 ?_;refine W.seqJ (fun σ W=>∃ (b:Int) (ρ:Env),σ=upds ρ [(0,Pq aa),(1,I n),(5,I b)]/\(zbD s_used s_mix n b).Ends r/\St w W [cBlk aa [ac,I s_used,I s_mix] 61] R) ?_ ?_
 ·skip
  refine W.seq ?_;refine W.draw (fun W=>St w W [cBlk aa [ac,I s_used,I s_mix] 61] R) [(0,true),(1,true),(2,true),(3,true),(4,true),(5,true),(6,true),(7,true),(8,true),(9,true)] mixed (by decide +kernel) rfl ?_;intro ay ab;replace H:=H.ext ab;clear ab
  refine ⟨(H.pk [0]),?_⟩
  have az:=(ah).len_le
  refine kg 11 ?_
  refine W.cond (decide ((s_bytes.length:Int)<=s_used)) rfl (fun ae=>?_) (fun ae=>?_)
  ·replace hM:=M.e_t hM ae
   replace ae:=dI ae
   refine W.draw (fun W=>St w W [cBlk aa [ac,I s_used,I s_mix] 61] R) [(0,true),(1,true),(2,true),(3,true),(4,true),(5,true),(6,true),(7,true),(8,true),(9,true),(10,true),(11,true),(12,true),(13,true),(14,true),(15,true),(16,true),(17,true),(18,true)] mixed (by decide +kernel) rfl ?_;intro aB ab;replace H:=H.ext ab;clear ab
   refine ⟨(H.pk [0]),?_⟩
   obtain ⟨aC,hM⟩:=M.e_gd hM
   have aD:=(ah).len_le
   obtain ⟨aE,hM⟩:=M.e_gd hM;obtain ⟨aF,hM⟩:=M.e_gd hM;obtain ⟨aG,hM⟩:=M.e_gd hM;refine kg 20 ?_
   exact ⟨((s_bytes.getD (Int.toNat (s_used % (s_bytes.length:Int))) 0).toNat:Int)+((11*s_mix)+(s_used / (s_bytes.length:Int))),_,upds_of _ _ ⟨rfl,rfl,rfl,trivial⟩,hM,H⟩
  replace hM:=M.e_f hM ae
  replace ae:=dI ae
  refine W.skip ?_
  exact ⟨((s_bytes.getD (Int.toNat (s_used % (s_bytes.length:Int))) 0).toNat:Int),_,upds_of _ _ ⟨rfl,rfl,rfl,trivial⟩,hM,H⟩
 rintro _ aH ⟨b,ρ,rfl,hM,H⟩
 unfold zbD at hM
 obtain ⟨aI,hM⟩:=M.e_gd hM;obtain ⟨aJ,hM⟩:=M.e_gd hM;obtain ⟨aK,hM⟩:=M.e_gd hM;obtain ⟨aL,hM⟩:=M.e_gd hM;refine kg 11 ?_;refine s_val (x_rem' (a:=((5*s_mix)+b)+1) (b:=251) rfl rfl (by omega)) ?_;refine kg 2 ?_;refine t_sw 0 2 [I ((((5*s_mix)+b)+1) % 251)] (I ((((5*s_mix)+b)+1) % 251)) H rfl rfl Sz3 rfl rfl rfl rfl ?_;intro aM H;obtain ⟨aN,hM⟩:=M.e_gd hM;refine kg 10 ?_;refine t_sw 0 1 [I (s_used+1)] (I (s_used+1)) H rfl rfl Sz3 rfl rfl rfl rfl ?_;intro aO H;refine kg 7 ?_
 refine W.cond (decide (256<n)) rfl (fun ag=>?_) (fun ag=>?_)
 ·replace hM:=M.e_t hM ag
  replace ag:=dI ag
  obtain ⟨aP,hM⟩:=M.e_gd hM;obtain ⟨aQ,hM⟩:=M.e_gd hM;obtain ⟨aR,hM⟩:=M.e_gd hM;refine kg 14 ?_;refine s_val (x_rem' (a:=(256*b)+((((5*s_mix)+b)+1) % 251)) (b:=n) rfl rfl (by omega)) ?_;refine kg 2 ?_;refine W.ret ?_
  have ai:=M.e_pure hM
  exact ⟨_,resE_tmp rfl,⟨(((256*b)+((((5*s_mix)+b)+1) % 251)) % n),(s_used+1),((((5*s_mix)+b)+1) % 251),ai,rfl,H⟩⟩
 replace hM:=M.e_f hM ag
 replace ag:=dI ag
 obtain ⟨aS,hM⟩:=M.e_gd hM;refine kg 5 ?_;refine s_val (x_rem' (a:=b) (b:=n) rfl rfl (by omega)) ?_;refine kg 2 ?_;refine W.ret ?_
 have ai:=M.e_pure hM
 exact ⟨_,resE_tmp rfl,⟨(b % n),(s_used+1),((((5*s_mix)+b)+1) % 251),ai,rfl,H⟩⟩

def zat (s_bytes:List UInt8) (s_used s_mix lo hi:Int):M (Int × Int × Int) :=
  M.grd (decide ((-9223372036854775808:Int)<=(hi-lo))&&decide ((hi-lo)<=(9223372036854775807:Int))) <|
  M.grd (decide ((-9223372036854775808:Int)<=((hi-lo)+1))&&decide (((hi-lo)+1)<=(9223372036854775807:Int))) <|
  M.bind (zak s_bytes s_used s_mix ((hi-lo)+1)) fun (r2,q1,q2) =>
  M.grd (decide ((-9223372036854775808:Int)<=(lo+r2))&&decide ((lo+r2)<=(9223372036854775807:Int))) <|
  M.pure ((lo+r2),q1,q2)
theorem zaY {R:List Chunk} {aa:Nat} {ac:Cells} {ab:Value} (s_bytes:List UInt8) (s_used:Int) (s_mix:Int) (lo:Int) (hi:Int) (ag:Reads R ac) (ah:Sl ac ab s_bytes) {r:(Int × Int × Int)} (hM:(zat s_bytes s_used s_mix lo hi).Ends r) (w:World) (H:St w w [cBlk aa [ab,I s_used,I s_mix] 61] R):Ret Try.prog 15 #[Pq aa,I lo,I hi] w fun v w'=>∃ (y0:Int) (y1:Int) (y2:Int),(y0,y1,y2)=r/\v=I y0/\St w w' [cBlk aa [ab,I y1,I y2] 61] R:=by
 refine ret_of_W Try.func15 rfl rfl rfl ?_;obtain ⟨am,hM⟩:=M.e_gd hM;obtain ⟨ao,hM⟩:=M.e_gd hM;refine kg 12 ?_;obtain ⟨ap,ai,hM⟩:=M.e_bind hM;refine s_call cf16 [Pq aa,I ((hi-lo)+1)] rfl (zax s_bytes s_used s_mix ((hi-lo)+1) (ag.app _) ah ai _ (H.gt 0)) ?_
 rintro vq aq ⟨r2,q1,q2,rfl,hvq,ae⟩
 subst vq;(try dsimp only at hM);replace H:=H.bk ae;clear ae;obtain ⟨au,hM⟩:=M.e_gd hM;refine kg 3 ?_;refine W.ret ?_
 have aj:=M.e_pure hM
 exact ⟨_,resE_tmp rfl,⟨(lo+r2),q1,q2,aj,rfl,H⟩⟩

def zbm (s_bytes:List UInt8) (s_used s_mix:Int) (heights:List Int) (a b day:Int):M (Int × Int × Int × Int × Int × Int × Int) :=
  M.bind (zak s_bytes s_used s_mix 9) fun (r2,q1,q2) =>
  M.grd (decide ((0:Int)<=b)&&decide (b<(heights.length:Int))) <|
  M.grd (decide ((0:Int)<=a)&&decide (a<(heights.length:Int))) <|
  M.grd (decide ((-9223372036854775808:Int)<=((heights.getD (Int.toNat b) 0)-(heights.getD (Int.toNat a) 0)))&&decide (((heights.getD (Int.toNat b) 0)-(heights.getD (Int.toNat a) 0))<=(9223372036854775807:Int))) <|
  M.grd (decide (-9223372036854775807<=r2)&&decide (r2<=9223372036854775807)) <|
  M.bind (zat s_bytes q1 q2 (-r2) r2) fun (r3,aa,ab) =>
  M.grd (decide ((-9223372036854775808:Int)<=(((heights.getD (Int.toNat b) 0)-(heights.getD (Int.toNat a) 0))+r3))&&decide ((((heights.getD (Int.toNat b) 0)-(heights.getD (Int.toNat a) 0))+r3)<=(9223372036854775807:Int))) <|
  M.pure (a,b,day,(((heights.getD (Int.toNat b) 0)-(heights.getD (Int.toNat a) 0))+r3),r2,aa,ab)
theorem zbT {R:List Chunk} {ab:Nat} {am:Cells} {ac:Value} {ao:Cells} {ap:Value} (s_bytes:List UInt8) (s_used:Int) (s_mix:Int) (heights:List Int) (a:Int) (b:Int) (day:Int) (ae:Reads R am) (ag:Sl am ac s_bytes) (aB:Reads R ao) (aC:Sl ao ap heights) {r:(Int × Int × Int × Int × Int × Int × Int)} (hM:(zbm s_bytes s_used s_mix heights a b day).Ends r) (w:World) (H:St w w [cBlk ab [ac,I s_used,I s_mix] 61] R):Ret Try.prog 17 #[Pq ab,ap,I a,I b,I day] w fun v w'=>∃ (y0:Int) (y1:Int) (y2:Int) (y3:Int) (y4:Int) (y5:Int) (y6:Int),(y0,y1,y2,y3,y4,y5,y6)=r/\v = .agg #[I y0,I y1,I y2,I y3,I y4]/\St w w' [cBlk ab [ac,I y5,I y6] 61] R:=by
 refine ret_of_W Try.func17 rfl rfl rfl ?_;refine kg 2 ?_;refine t_alloc (cs:=[I 0,I 0,I 0,I 0,I 0]) H Al35 rfl ?_;intro au aD H;refine kg 7 ?_;obtain ⟨aE,av,hM⟩:=M.e_bind hM;refine s_call cf16 [Pq ab,I 9] rfl (zax s_bytes s_used s_mix 9 (ae.app _) ag av _ ((H.pk [1,0]).gt 1)) ?_
 rintro vq aF ⟨r2,q1,q2,rfl,hvq,aa⟩
 subst vq;(try dsimp only at hM)
 replace H:=H.pk [1,0] |>.bk aa
 clear aa;refine s_val (x_bld (ps:=[(0,I a),(1,I b),(2,I day),(4,I r2)]) (zs:=[I 0,I 0,I 0,I 0,I 0]) (L':=[I a,I b,I day,I 0,I r2]) rfl Try.underlying35 Al35 rfl (Bd35 Try.underlying35) (.cons (cs:=[I a]) rfl rfl rfl rfl rfl<|.cons (cs:=[I b]) rfl rfl rfl rfl rfl<|.cons (cs:=[I day]) rfl rfl rfl rfl rfl<|.cons (cs:=[I r2]) rfl rfl rfl rfl rfl<|.nil)) ?_;refine t_alloc (cs:=[I 0,I 0,I 0,I 0,I 0]) H Al35 rfl ?_;intro aG aH H;refine t_sw 0 0 [I a,I b,I day,I 0,I r2] (.agg #[I a,I b,I day,I 0,I r2]) H rfl rfl Sz35 rfl rfl rfl rfl ?_;intro aI H;refine kg 2 ?_;refine W.drawT (fun W=>St w W [cBlk au [I 0,I 0,I 0,I 0,I 0] 35] R) (.q 0 (.q 1 (.q 2 (.q 3 (.q 4 (.q 5 (.q 6 (.q 7 (.q 8 (.q 9 (.q 10 (.q 13 (.l2 11 (.q 12 (.l 14 (.l 15 (.q 16 (.q 17 (.l 18 .nil)))))) 14 (.l 11 (.q 12 (.l 15 (.q 16 (.q 17 (.l 18 .nil))))))))))))))))))) mixed (by decide +kernel) rfl ?_;intro aJ aq;replace H:=H.ext aq;clear aq
 refine ⟨(H.pk [2]),?_⟩
 obtain ⟨aK,hM⟩:=M.e_gd hM;obtain ⟨aL,hM⟩:=M.e_gd hM;obtain ⟨aM,hM⟩:=M.e_gd hM;refine kg 12 ?_;refine t_l2 rfl rfl ?_ ?_
 ·skip
  refine kg 1 ?_
  refine s_nil ⟨(H.pk [2]),?_⟩
  obtain ⟨aN,hM⟩:=M.e_gd hM;refine t_q rfl (fun w' H=>x_neg (a:=r2) rfl (by omega))<|t_l rfl ?_;refine kg 1 ?_
  refine s_nil ⟨(H.pk [2]),?_⟩
  refine t_l rfl ?_;obtain ⟨aO,aw,hM⟩:=M.e_bind hM;refine s_call cf15 [Pq ab,I (-r2),I r2] rfl (zaY s_bytes q1 q2 (-r2) r2 (ae.app _) ag aw _ ((H.pk [1,0,2]).gt 2)) ?_
  rintro vq aP ⟨r3,ah,ai,rfl,hvq,aa⟩
  subst vq;(try dsimp only at hM)
  replace H:=H.pk [1,0,2] |>.bk aa
  clear aa
  refine s_nil ⟨(H.pk [2]),?_⟩
  obtain ⟨aQ,hM⟩:=M.e_gd hM;refine kg 2 ?_;refine t_l rfl ?_;refine t_sw 1 3 [I (((heights.getD (Int.toNat b) 0)-(heights.getD (Int.toNat a) 0))+r3)] (I (((heights.getD (Int.toNat b) 0)-(heights.getD (Int.toNat a) 0))+r3)) H rfl rfl Sz3 rfl rfl rfl rfl ?_;intro aR H
  refine s_nil ⟨(H.pk [2]),?_⟩
  refine kg 4 ?_;refine t_sw 2 0 [I a,I b,I day,I (((heights.getD (Int.toNat b) 0)-(heights.getD (Int.toNat a) 0))+r3),I r2] (.agg #[I a,I b,I day,I (((heights.getD (Int.toNat b) 0)-(heights.getD (Int.toNat a) 0))+r3),I r2]) H rfl rfl Sz35 rfl rfl rfl rfl ?_;intro aS H;refine s_nil ?_;refine W.ret ?_
  have ax:=(H.bl 2)
  have aj:=M.e_pure hM
  exact ⟨_,(resE_of1 (v:=.agg #[I a,I b,I day,I (((heights.getD (Int.toNat b) 0)-(heights.getD (Int.toNat a) 0))+r3),I r2]) rfl (.cell (v:=.agg #[I a,I b,I day,I (((heights.getD (Int.toNat b) 0)-(heights.getD (Int.toNat a) 0))+r3),I r2]) rfl (run_loadVar_ag (ds:=[I a,I b,I day,I (((heights.getD (Int.toNat b) 0)-(heights.getD (Int.toNat a) 0))+r3),I r2]) Ag35 Sz35 ax rfl rfl)<|.nil)),⟨a,b,day,(((heights.getD (Int.toNat b) 0)-(heights.getD (Int.toNat a) 0))+r3),r2,ah,ai,aj,rfl,(H.pk [0])⟩⟩
 skip
 refine kg 1 ?_
 refine s_nil ⟨(H.pk [2]),?_⟩
 refine t_l rfl ?_;refine kg 1 ?_
 refine s_nil ⟨(H.pk [2]),?_⟩
 obtain ⟨aT,hM⟩:=M.e_gd hM;refine t_q rfl (fun w' H=>x_neg (a:=r2) rfl (by omega))<|t_l rfl ?_;obtain ⟨aU,ay,hM⟩:=M.e_bind hM;refine s_call cf15 [Pq ab,I (-r2),I r2] rfl (zaY s_bytes q1 q2 (-r2) r2 (ae.app _) ag ay _ ((H.pk [1,0,2]).gt 2)) ?_
 rintro vq aV ⟨r3,ah,ai,rfl,hvq,aa⟩
 subst vq;(try dsimp only at hM)
 replace H:=H.pk [1,0,2] |>.bk aa
 clear aa
 refine s_nil ⟨(H.pk [2]),?_⟩
 obtain ⟨aW,hM⟩:=M.e_gd hM;refine kg 2 ?_;refine t_l rfl ?_;refine t_sw 1 3 [I (((heights.getD (Int.toNat b) 0)-(heights.getD (Int.toNat a) 0))+r3)] (I (((heights.getD (Int.toNat b) 0)-(heights.getD (Int.toNat a) 0))+r3)) H rfl rfl Sz3 rfl rfl rfl rfl ?_;intro aX H
 refine s_nil ⟨(H.pk [2]),?_⟩
 refine kg 4 ?_;refine t_sw 2 0 [I a,I b,I day,I (((heights.getD (Int.toNat b) 0)-(heights.getD (Int.toNat a) 0))+r3),I r2] (.agg #[I a,I b,I day,I (((heights.getD (Int.toNat b) 0)-(heights.getD (Int.toNat a) 0))+r3),I r2]) H rfl rfl Sz35 rfl rfl rfl rfl ?_;intro aY H;refine s_nil ?_;refine W.ret ?_
 have az:=(H.bl 2)
 have aj:=M.e_pure hM
 exact ⟨_,(resE_of1 (v:=.agg #[I a,I b,I day,I (((heights.getD (Int.toNat b) 0)-(heights.getD (Int.toNat a) 0))+r3),I r2]) rfl (.cell (v:=.agg #[I a,I b,I day,I (((heights.getD (Int.toNat b) 0)-(heights.getD (Int.toNat a) 0))+r3),I r2]) rfl (run_loadVar_ag (ds:=[I a,I b,I day,I (((heights.getD (Int.toNat b) 0)-(heights.getD (Int.toNat a) 0))+r3),I r2]) Ag35 Sz35 az rfl rfl)<|.nil)),⟨a,b,day,(((heights.getD (Int.toNat b) 0)-(heights.getD (Int.toNat a) 0))+r3),r2,ah,ai,aj,rfl,(H.pk [0])⟩⟩

def za0 (s_bytes:List UInt8) (r2:Int):(Int × Int × (List Int))->M ((Int × Int × (List Int)) ⊕ (Int × Int × (List Int) × (List Int))):=fun (s2,s3,l) =>
  bif decide ((l.length:Int)<r2) then (
  M.bind (zat s_bytes s2 s3 (-300) 300) fun (r3,aa,ab) =>
  M.grd (decide ((l.length+([(r3:Int)]).length)*8<=140737488355328)) <|
  M.pure (.inl (aa,ab,l++([(r3:Int)]))))
  else (
  M.pure (.inr (s2,s3,l,l)))
def zaU (s_bytes:List UInt8) (r2:Int) (l3:List Int) (r4:Int):(Int × Int × Nat × (List Line))->M ((Int × Int × Nat × (List Line)) ⊕ ((List Line) × (List Line) × Int × Int)):=fun (s6,s7,s8,l4) =>
  bif decide ((s8:Int)<r4) then (
  M.bind (zak s_bytes s6 s7 r2) fun (r5,ae,ag) =>
  M.grd (decide ((-9223372036854775808:Int)<=(r5+1))&&decide ((r5+1)<=(9223372036854775807:Int))) <|
  M.grd (decide ((-9223372036854775808:Int)<=(r2-1))&&decide ((r2-1)<=(9223372036854775807:Int))) <|
  M.bind (zak s_bytes ae ag (r2-1)) fun (r6,ah,ai) =>
  M.grd (decide ((-9223372036854775808:Int)<=((r5+1)+r6))&&decide (((r5+1)+r6)<=(9223372036854775807:Int))) <|
  M.grd (decide ((0:Int)<=((r5+1)+r6))&&decide ((0:Int)<r2)) <|
  M.bind (zak s_bytes ah ai 30) fun (r7,aj,am) =>
  M.bind (zbm s_bytes aj am l3 r5 (((r5+1)+r6) % r2) r7) fun (r0,r1,aa,ab,ac,ao,ap) =>
  M.grd (decide ((l4.length+([(⟨(r0:Int),(r1:Int),(aa:Int),(ab:Int),(ac:Int)⟩:Line)]).length)*40<=140737488355328)) <|
  M.grd (decide ((-9223372036854775808:Int)<=((s8:Int)+1))&&decide (((s8:Int)+1)<=(9223372036854775807:Int))) <|
  M.pure (.inl (ao,ap,s8+1,l4++([(⟨(r0:Int),(r1:Int),(aa:Int),(ab:Int),(ac:Int)⟩:Line)]))))
  else (
  M.pure (.inr (l4,l4,s6,s7)))
def za5 (s_bytes:List UInt8) (s_used s_mix most:Int):M (Int × (List Line) × (List Int) × Int × Int) :=
  M.bind (zat s_bytes s_used s_mix 2 most) fun (r2,q1,q2) =>
  M.bind (M.iter (za0 s_bytes r2) (q1,q2,[(0:Int)])) fun (s4,s5,l2,l3) =>
  M.bind (zat s_bytes s4 s5 1 14) fun (r4,aa,ab) =>
  M.bind (M.iter (zaU s_bytes r2 l3 r4) (aa,ab,0,[])) fun (l5,l6,s9,ac) =>
  M.pure (r2,l6,l3,s9,ac)
theorem zcM {R:List Chunk} {ag:Nat} {aL:Cells} {aw:Value} (s_bytes:List UInt8) (s_used:Int) (s_mix:Int) (most:Int) (aj:Reads R aL) (am:Sl aL aw s_bytes) {r:(Int × (List Line) × (List Int) × Int × Int)} (hM:(za5 s_bytes s_used s_mix most).Ends r) (w:World) (H:St w w [cBlk ag [aw,I s_used,I s_mix] 61] R):Ret Try.prog 4 #[Pq ag,I most] w fun v w'=>∃ (y0:Int) (y1:List Line) (y2:List Int) (y3:Int) (y4:Int) (u0:Value) (u1:Value),(y0,y1,y2,y3,y4)=r/\v = .tuple #[.agg #[I y0,u0],u1]/\St w w' [cOwn (α:=Line) 35 u0 y1,cOwn (α:=Int) 3 u1 y2,cBlk ag [aw,I y3,I y4] 61] R:=by
 refine ret_of_W Try.func4 rfl rfl rfl ?_;refine kg 2 ?_;refine t_alloc (cs:=[I 0,.slice none 0 0]) H Al25 rfl ?_;intro aq bC H;refine kg 6 ?_;obtain ⟨bD,aR,hM⟩:=M.e_bind hM;refine s_call cf15 [Pq ag,I 2,I most] rfl (zaY s_bytes s_used s_mix 2 most (aj.app _) am aR _ ((H.pk [1,0]).gt 1)) ?_
 rintro vq bE ⟨r2,q1,q2,rfl,hvq,aa⟩
 subst vq;(try dsimp only at hM)
 replace H:=H.pk [1,0] |>.bk aa
 clear aa;refine s_val (x_bld (ps:=[(0,I r2)]) (zs:=[I 0,.slice none 0 0]) (L':=[I r2,.slice none 0 0]) rfl Try.underlying25 Al25 rfl (Bd25 Try.underlying25) (.cons (cs:=[I r2]) rfl rfl rfl rfl rfl<|.nil)) ?_;refine t_alloc (cs:=[I 0,.slice none 0 0]) H Al25 rfl ?_;intro ax bF H;refine t_sw 0 0 [I r2,.slice none 0 0] (.agg #[I r2,.slice none 0 0]) H rfl rfl Sz25 rfl rfl rfl rfl ?_;intro bG H;refine kg 3 ?_;refine t_bs (α:=Int) T26 [I 0] [(0:Int)] H rfl (.cons rfl (Flat.rep_enc _ (0:Int))<|.nil) rfl rfl rfl ?_;intro aS bH H;refine kg 4 ?_;obtain ⟨aT,aF,aU⟩:=M.e_bind hM
 obtain ⟨aV,aF⟩:=M.e_iter aF
 refine W.loop (fun m σ W=>∃ (s2:Int) (s3:Int) (l:List Int) (ah:Value) (ρ:Env),σ=upds ρ [(0,Pq ag),(4,Pq aq),(6,Pq ax),(7,ah)]/\M.iterN (za0 s_bytes r2) m (s2,s3,l)=some aT/\St w W [cOwn (α:=Int) 3 ah l,cBlk ax [I r2,.slice none 0 0] 25,cBlk ag [aw,I s2,I s3] 61,cBlk aq [I 0,.slice none 0 0] 25] R) ?_ ?_
 ·exact ⟨_,q1,q2,[(0:Int)],aS,_,upds_of _ _ ⟨rfl,rfl,rfl,rfl,trivial⟩,aF,H⟩
 rintro bI σ bJ ⟨s2,s3,l,ah,ρ,rfl,aM,H⟩
 obtain ⟨aW,aX,bK,hM,aN⟩:=M.e_iterN aM
 simp only [za0] at hM
 clear aM
 have bL:=((H.os 0)).len_le
 refine kg 9 ?_
 refine W.cond (decide ((l.length:Int)<r2)) rfl (fun ao=>?_) (fun ao=>?_)
 ·replace hM:=M.e_t hM ao
  replace ao:=dI ao
  refine kg 5 ?_;obtain ⟨bM,aY,hM⟩:=M.e_bind hM;refine s_call cf15 [Pq ag,I (-300),I 300] rfl (zaY s_bytes s2 s3 (-300) 300 (aj.app _) am aY _ ((H.pk [2,0,1,3]).gt 3)) ?_
  rintro vq bN ⟨r3,aZ,a4,rfl,hvq,aa⟩
  subst vq;(try dsimp only at hM)
  replace H:=H.pk [2,0,1,3] |>.bk aa
  clear aa;refine t_bs (α:=Int) T26 [I r3] [(r3:Int)] H rfl (.cons rfl (Flat.rep_enc _ (r3:Int))<|.nil) rfl rfl rfl ?_;intro a5 bO H;obtain ⟨bP,hM⟩:=M.e_gd hM;refine t_app (α:=Int) (k:=2) (l:=l) (l2:=[(r3:Int)]) (l':=l++([(r3:Int)])) (vy:=a5) T26 rfl H rfl rfl rfl (H.os 0) (H.ol 0) (rfl) (by first | omega | (simp only [List.length_nil] at *; omega)) ?_;intro a6 bQ H;replace H:=H.nf;refine kg 2 ?_
  exact ⟨aW,aX,aZ,a4,l++([(r3:Int)]),a6,_,upds_of _ _ ⟨rfl,rfl,rfl,rfl,trivial⟩,M.e_inl hM aN,(H.pk [2,3,1,4])⟩
 replace hM:=M.e_f hM ao
 replace ao:=dI ao
 refine W.exit ?_
 have a7:=M.e_inr hM aN
 subst a7;replace hM:=aU;(try dsimp only at hM);refine kg 4 ?_;obtain ⟨bR,a8,hM⟩:=M.e_bind hM;refine s_call cf15 [Pq ag,I 1,I 14] rfl (zaY s_bytes s2 s3 1 14 (aj.app _) am a8 _ ((H.pk [2,0,1,3]).gt 3)) ?_
 rintro vq bS ⟨r4,a9,ba,rfl,hvq,aa⟩
 subst vq;(try dsimp only at hM)
 replace H:=H.pk [2,0,1,3] |>.bk aa
 clear aa;refine kg 3 ?_
 replace H:=H.nilOwn (α:=Line) 35
 obtain ⟨bb,aG,bc⟩:=M.e_bind hM
 obtain ⟨aV,aG⟩:=M.e_iter aG
 refine W.loop (fun m σ W=>∃ (s6:Int) (s7:Int) (s8:Nat) (l4:List Line) (ai:Value) (ρ:Env),σ=upds ρ [(0,Pq ag),(4,Pq aq),(6,Pq ax),(7,ah),(26,I r4),(27,I (s8:Int))]/\M.iterN (zaU s_bytes r2 l r4) m (s6,s7,s8,l4)=some bb/\St w W [cOwn (α:=Line) 35 ai l4,cBlk ag [aw,I s6,I s7] 61,cOwn (α:=Int) 3 ah l,cBlk ax [I r2,ai] 25,cBlk aq [I 0,.slice none 0 0] 25] R) ?_ ?_
 ·exact ⟨_,a9,ba,0,[],(.slice none 0 0),_,upds_of _ _ ⟨rfl,rfl,rfl,rfl,rfl,rfl,trivial⟩,aG,H⟩
 rintro bT σ bU ⟨s6,s7,s8,l4,ai,ρ,rfl,aO,H⟩
 obtain ⟨aB,aC,bV,hM,ay⟩:=M.e_iterN aO
 simp only [zaU] at hM
 clear aO;refine kg 5 ?_
 refine W.cond (decide ((s8:Int)<r4)) rfl (fun ap=>?_) (fun ap=>?_)
 ·replace hM:=M.e_t hM ap
  replace ap:=dI ap
  refine kg 8 ?_;obtain ⟨bW,bg,hM⟩:=M.e_bind hM;refine s_call cf16 [Pq ag,I r2] rfl (zax s_bytes s6 s7 r2 (aj.app _) am bg _ ((H.pk [1,0,2,3,4]).gt 4)) ?_
  rintro vq bX ⟨r5,bh,bi,rfl,hvq,aa⟩
  subst vq;(try dsimp only at hM)
  replace H:=H.pk [1,0,2,3,4] |>.bk aa
  clear aa;refine kg 3 ?_;refine W.draw (fun W=>St w W [cOwn (α:=Line) 35 ai l4,cOwn (α:=Int) 3 ah l,cBlk ax [I r2,ai] 25,cBlk aq [I 0,.slice none 0 0] 25] R) [(0,true),(1,true),(2,true),(3,true),(4,true),(5,true),(8,true),(9,true),(6,false),(7,true),(10,true),(11,true)] mixed (by decide +kernel) rfl ?_;intro bY az;replace H:=H.ext az;clear az
  refine ⟨(H.pk [1,2,3,4]),?_⟩
  obtain ⟨bZ,hM⟩:=M.e_gd hM;obtain ⟨b7,hM⟩:=M.e_gd hM;refine kg 8 ?_;refine d_l rfl ?_;obtain ⟨b8,bj,hM⟩:=M.e_bind hM;refine s_call cf16 [Pq ag,I (r2-1)] rfl (zax s_bytes bh bi (r2-1) (aj.app _) am bj _ (H.gt 4)) ?_
  rintro vq b9 ⟨r6,aP,aQ,rfl,hvq,aa⟩
  subst vq;(try dsimp only at hM);replace H:=H.bk aa;clear aa
  refine s_nil ⟨(H.pk [1,2,3,4]),?_⟩
  obtain ⟨ca,hM⟩:=M.e_gd hM;obtain ⟨cb,hM⟩:=M.e_gd hM;refine kg 1 ?_;refine d_q rfl (fun w' H=>x_rem' (a:=(r5+1)+r6) (b:=r2) rfl rfl (by omega)) ?_;refine kg 2 ?_;refine W.drawT (fun W=>St w W [cOwn (α:=Int) 3 ah l,cBlk aq [I 0,.slice none 0 0] 25] R) (.q 0 (.q 2 (.q 3 (.q 4 (.q 5 (.q 6 (.l2 1 (.l 7 (.l 8 (.l 9 (.l 10 (.q 11 (.l 12 .nil)))))) 7 (.l2 1 (.l 8 (.l 9 (.l 10 (.q 11 (.l 12 .nil))))) 8 (.l2 1 (.l 9 (.l 10 (.q 11 (.l 12 .nil)))) 9 (.l 1 (.l 10 (.q 11 (.l 12 .nil))))))))))))) mixed (by decide +kernel) rfl ?_;intro cc az;replace H:=H.ext az;clear az
  refine ⟨(H.pk [2,4]),?_⟩
  refine kg 6 ?_;refine t_l2 rfl rfl ?_ ?_
  ·skip
   refine kg 1 ?_
   have cd:=Sl.cells (H.os 1)
   have ce:=Sl.oc (H.os 1)
   refine s_nil ⟨(H.pk [2,4]),?_⟩
   refine t_l rfl ?_;obtain ⟨cf,bm,hM⟩:=M.e_bind hM;refine s_call cf16 [Pq ag,I 30] rfl (zax s_bytes aP aQ 30 (aj.app _) am bm _ (H.gt 4)) ?_
   rintro vq cg ⟨r7,aD,aE,rfl,hvq,aa⟩
   subst vq;(try dsimp only at hM);replace H:=H.bk aa;clear aa
   refine s_nil ⟨(H.pk [2,4]),?_⟩
   refine t_l rfl ?_;obtain ⟨ch,bn,hM⟩:=M.e_bind hM;refine s_call cf17 [Pq ag,ah,I r5,I (((r5+1)+r6) % r2),I r7] rfl (zbT s_bytes aD aE l r5 (((r5+1)+r6) % r2) r7 (aj.app _) am (rdo 1) (H.os 2) bn _ (H.gt 4)) ?_
   rintro vq ci ⟨r0,r1,ab,ac,ae,au,av,rfl,hvq,aa⟩
   subst vq;(try dsimp only at hM);replace H:=H.bk aa;clear aa
   refine s_nil ⟨(H.pk [2,4]),?_⟩
   refine t_l rfl ?_;refine t_bs (α:=Line) T23 [.agg #[I r0,I r1,I ab,I ac,I ae]] [(⟨(r0:Int),(r1:Int),(ab:Int),(ac:Int),(ae:Int)⟩:Line)] H rfl (.cons rfl (Flat.rep_enc _ (⟨(r0:Int),(r1:Int),(ab:Int),(ac:Int),(ae:Int)⟩:Line))<|.nil) rfl rfl rfl ?_;intro bp cj H
   have ck:=Sl.cells (H.os 0)
   have cm:=Sl.oc (H.os 0)
   refine s_nil ⟨(H.pk [3,5]),?_⟩
   refine t_l rfl ?_;obtain ⟨cn,hM⟩:=M.e_gd hM;refine t_app (α:=Line) (k:=2) (l:=l4) (l2:=[(⟨(r0:Int),(r1:Int),(ab:Int),(ac:Int),(ae:Int)⟩:Line)]) (l':=l4++([(⟨(r0:Int),(r1:Int),(ab:Int),(ac:Int),(ae:Int)⟩:Line)])) (vy:=bp) T23 rfl H rfl rfl rfl (H.os 0) (H.ol 0) (rfl) (by first | omega | (simp only [List.length_nil] at *; omega)) ?_;intro aH co H;replace H:=H.nf
   have cp:=Sl.cells (H.os 2)
   have cq:=Sl.oc (H.os 2)
   refine s_nil ⟨(H.pk [3,5]),?_⟩
   refine kg 1 ?_;refine t_l rfl ?_;refine t_sw 4 1 [aH] aH H rfl rfl Sz23 (Sl.cells (H.os 2)) rfl rfl (by simp only [List.all_cons,List.all_nil,Bool.true_and,Bool.and_true,Sl.oc (H.os 2)]; try rfl) ?_;intro cr H
   refine s_nil ⟨(H.pk [3,5]),?_⟩
   obtain ⟨ct,hM⟩:=M.e_gd hM;refine kg 5 ?_
   exact ⟨aB,aC,au,av,s8+1,l4++([(⟨(r0:Int),(r1:Int),(ab:Int),(ac:Int),(ae:Int)⟩:Line)]),aH,_,upds_of _ _ ⟨rfl,rfl,rfl,rfl,rfl,rfl,trivial⟩,M.e_inl hM ay,(H.pk [2,1,3,4,5])⟩
  skip
  obtain ⟨cu,br,hM⟩:=M.e_bind hM;refine s_call cf16 [Pq ag,I 30] rfl (zax s_bytes aP aQ 30 (aj.app _) am br _ (H.gt 4)) ?_
  rintro vq cv ⟨r7,aD,aE,rfl,hvq,aa⟩
  subst vq;(try dsimp only at hM);replace H:=H.bk aa;clear aa
  have cw:=Sl.cells (H.os 1)
  have cx:=Sl.oc (H.os 1)
  refine s_nil ⟨(H.pk [2,4]),?_⟩
  refine t_l2 rfl rfl ?_ ?_
  ·skip
   refine kg 1 ?_
   refine s_nil ⟨(H.pk [2,4]),?_⟩
   refine t_l rfl ?_;obtain ⟨cy,bt,hM⟩:=M.e_bind hM;refine s_call cf17 [Pq ag,ah,I r5,I (((r5+1)+r6) % r2),I r7] rfl (zbT s_bytes aD aE l r5 (((r5+1)+r6) % r2) r7 (aj.app _) am (rdo 1) (H.os 2) bt _ (H.gt 4)) ?_
   rintro vq cz ⟨r0,r1,ab,ac,ae,au,av,rfl,hvq,aa⟩
   subst vq;(try dsimp only at hM);replace H:=H.bk aa;clear aa
   refine s_nil ⟨(H.pk [2,4]),?_⟩
   refine t_l rfl ?_;refine t_bs (α:=Line) T23 [.agg #[I r0,I r1,I ab,I ac,I ae]] [(⟨(r0:Int),(r1:Int),(ab:Int),(ac:Int),(ae:Int)⟩:Line)] H rfl (.cons rfl (Flat.rep_enc _ (⟨(r0:Int),(r1:Int),(ab:Int),(ac:Int),(ae:Int)⟩:Line))<|.nil) rfl rfl rfl ?_;intro bu cA H
   have cB:=Sl.cells (H.os 0)
   have cC:=Sl.oc (H.os 0)
   refine s_nil ⟨(H.pk [3,5]),?_⟩
   refine t_l rfl ?_;obtain ⟨cD,hM⟩:=M.e_gd hM;refine t_app (α:=Line) (k:=2) (l:=l4) (l2:=[(⟨(r0:Int),(r1:Int),(ab:Int),(ac:Int),(ae:Int)⟩:Line)]) (l':=l4++([(⟨(r0:Int),(r1:Int),(ab:Int),(ac:Int),(ae:Int)⟩:Line)])) (vy:=bu) T23 rfl H rfl rfl rfl (H.os 0) (H.ol 0) (rfl) (by first | omega | (simp only [List.length_nil] at *; omega)) ?_;intro aI cE H;replace H:=H.nf
   have cF:=Sl.cells (H.os 2)
   have cG:=Sl.oc (H.os 2)
   refine s_nil ⟨(H.pk [3,5]),?_⟩
   refine kg 1 ?_;refine t_l rfl ?_;refine t_sw 4 1 [aI] aI H rfl rfl Sz23 (Sl.cells (H.os 2)) rfl rfl (by simp only [List.all_cons,List.all_nil,Bool.true_and,Bool.and_true,Sl.oc (H.os 2)]; try rfl) ?_;intro cH H
   refine s_nil ⟨(H.pk [3,5]),?_⟩
   obtain ⟨cI,hM⟩:=M.e_gd hM;refine kg 5 ?_
   exact ⟨aB,aC,au,av,s8+1,l4++([(⟨(r0:Int),(r1:Int),(ab:Int),(ac:Int),(ae:Int)⟩:Line)]),aI,_,upds_of _ _ ⟨rfl,rfl,rfl,rfl,rfl,rfl,trivial⟩,M.e_inl hM ay,(H.pk [2,1,3,4,5])⟩
  skip
  obtain ⟨cJ,bv,hM⟩:=M.e_bind hM;refine s_call cf17 [Pq ag,ah,I r5,I (((r5+1)+r6) % r2),I r7] rfl (zbT s_bytes aD aE l r5 (((r5+1)+r6) % r2) r7 (aj.app _) am (rdo 1) (H.os 2) bv _ (H.gt 4)) ?_
  rintro vq cK ⟨r0,r1,ab,ac,ae,au,av,rfl,hvq,aa⟩
  subst vq;(try dsimp only at hM);replace H:=H.bk aa;clear aa
  refine s_nil ⟨(H.pk [2,4]),?_⟩
  obtain ⟨cL,hM⟩:=M.e_gd hM;refine t_l2 rfl rfl ?_ ?_
  ·skip
   refine kg 1 ?_
   refine s_nil ⟨(H.pk [2,4]),?_⟩
   refine t_l rfl ?_;refine t_bs (α:=Line) T23 [.agg #[I r0,I r1,I ab,I ac,I ae]] [(⟨(r0:Int),(r1:Int),(ab:Int),(ac:Int),(ae:Int)⟩:Line)] H rfl (.cons rfl (Flat.rep_enc _ (⟨(r0:Int),(r1:Int),(ab:Int),(ac:Int),(ae:Int)⟩:Line))<|.nil) rfl rfl rfl ?_;intro bw cM H
   have cN:=Sl.cells (H.os 0)
   have cO:=Sl.oc (H.os 0)
   refine s_nil ⟨(H.pk [3,5]),?_⟩
   refine t_l rfl ?_;refine t_app (α:=Line) (k:=2) (l:=l4) (l2:=[(⟨(r0:Int),(r1:Int),(ab:Int),(ac:Int),(ae:Int)⟩:Line)]) (l':=l4++([(⟨(r0:Int),(r1:Int),(ab:Int),(ac:Int),(ae:Int)⟩:Line)])) (vy:=bw) T23 rfl H rfl rfl rfl (H.os 0) (H.ol 0) (rfl) (by first | omega | (simp only [List.length_nil] at *; omega)) ?_;intro aJ cP H;replace H:=H.nf
   have cQ:=Sl.cells (H.os 2)
   have cR:=Sl.oc (H.os 2)
   refine s_nil ⟨(H.pk [3,5]),?_⟩
   refine kg 1 ?_;refine t_l rfl ?_;refine t_sw 4 1 [aJ] aJ H rfl rfl Sz23 (Sl.cells (H.os 2)) rfl rfl (by simp only [List.all_cons,List.all_nil,Bool.true_and,Bool.and_true,Sl.oc (H.os 2)]; try rfl) ?_;intro cS H
   refine s_nil ⟨(H.pk [3,5]),?_⟩
   obtain ⟨cT,hM⟩:=M.e_gd hM;refine kg 5 ?_
   exact ⟨aB,aC,au,av,s8+1,l4++([(⟨(r0:Int),(r1:Int),(ab:Int),(ac:Int),(ae:Int)⟩:Line)]),aJ,_,upds_of _ _ ⟨rfl,rfl,rfl,rfl,rfl,rfl,trivial⟩,M.e_inl hM ay,(H.pk [2,1,3,4,5])⟩
  skip
  refine t_bs (α:=Line) T23 [.agg #[I r0,I r1,I ab,I ac,I ae]] [(⟨(r0:Int),(r1:Int),(ab:Int),(ac:Int),(ae:Int)⟩:Line)] H rfl (.cons rfl (Flat.rep_enc _ (⟨(r0:Int),(r1:Int),(ab:Int),(ac:Int),(ae:Int)⟩:Line))<|.nil) rfl rfl rfl ?_;intro bx cU H
  have cV:=Sl.cells (H.os 0)
  have cW:=Sl.oc (H.os 0)
  refine s_nil ⟨(H.pk [3,5]),?_⟩
  refine t_l rfl ?_;refine kg 1 ?_
  refine s_nil ⟨(H.pk [3,5]),?_⟩
  refine t_l rfl ?_;refine t_app (α:=Line) (k:=2) (l:=l4) (l2:=[(⟨(r0:Int),(r1:Int),(ab:Int),(ac:Int),(ae:Int)⟩:Line)]) (l':=l4++([(⟨(r0:Int),(r1:Int),(ab:Int),(ac:Int),(ae:Int)⟩:Line)])) (vy:=bx) T23 rfl H rfl rfl rfl (H.os 0) (H.ol 0) (rfl) (by first | omega | (simp only [List.length_nil] at *; omega)) ?_;intro aK cX H;replace H:=H.nf
  have cY:=Sl.cells (H.os 2)
  have cZ:=Sl.oc (H.os 2)
  refine s_nil ⟨(H.pk [3,5]),?_⟩
  refine kg 1 ?_;refine t_l rfl ?_;refine t_sw 4 1 [aK] aK H rfl rfl Sz23 (Sl.cells (H.os 2)) rfl rfl (by simp only [List.all_cons,List.all_nil,Bool.true_and,Bool.and_true,Sl.oc (H.os 2)]; try rfl) ?_;intro c6 H
  refine s_nil ⟨(H.pk [3,5]),?_⟩
  obtain ⟨c7,hM⟩:=M.e_gd hM;refine kg 5 ?_
  exact ⟨aB,aC,au,av,s8+1,l4++([(⟨(r0:Int),(r1:Int),(ab:Int),(ac:Int),(ae:Int)⟩:Line)]),aK,_,upds_of _ _ ⟨rfl,rfl,rfl,rfl,rfl,rfl,trivial⟩,M.e_inl hM ay,(H.pk [2,1,3,4,5])⟩
 replace hM:=M.e_f hM ap
 replace ap:=dI ap
 refine W.exit ?_
 have bz:=M.e_inr hM ay
 subst bz;replace hM:=bc;(try dsimp only at hM);refine kg 4 ?_;refine t_sw 4 0 [I r2,ai] (.agg #[I r2,ai]) H rfl rfl Sz25 rfl rfl rfl (by simp only [List.all_cons,List.all_nil,Bool.true_and,Bool.and_true,Sl.oc (H.os 0)]; try rfl) ?_;intro c8 H;refine kg 2 ?_;refine W.ret ?_
 have bA:=(H.bl 4)
 have bB:=M.e_pure hM
 exact ⟨_,(resE_ofn (vs:=[.agg #[I r2,ai],ah]) rfl rfl (.cell (v:=.agg #[I r2,ai]) rfl (run_loadVar_ag (ds:=[I r2,ai]) Ag25 Sz25 bA rfl rfl)<|.tmp (v:=ah) rfl<|.nil)),⟨r2,l4,l,s6,s7,ai,ah,bB,rfl,(H.pk [0,2,1])⟩⟩

def zaw (l:List Line):M (List Line) :=
  M.grd (decide ((([]:List Line).length+l.length)*40<=140737488355328)) <|
  M.pure l
theorem zby {R:List Chunk} {ab:Cells} {aa:Value} (l:List Line) (ac:Reads R ab) (ae:Sl ab aa l) {r:(List Line)} (hM:(zaw l).Ends r) (w:World) (H:St w w [] R):Ret Try.prog 6 #[aa] w fun v w'=>∃ (y0:List Line) (u0:Value),y0=r/\v=u0/\St w w' [cOwn (α:=Line) 35 u0 y0] R:=by
 refine ret_of_W Try.func6 rfl rfl rfl ?_;refine kg 12 ?_
 replace H:=H.nilOwn (α:=Line) 35
 obtain ⟨ai,hM⟩:=M.e_gd hM;refine t_app (α:=Line) (k:=0) (l:=[]) (l2:=l) (l':=l) (vy:=aa) T23 rfl H rfl rfl rfl ae (ac.at H) (List.nil_append _) (by first | omega | (simp only [List.length_nil] at *; omega)) ?_;intro ag aj H;replace H:=H.nf;refine kg 2 ?_;refine W.ret ?_
 have ah:=M.e_pure hM
 exact ⟨_,resE_tmp rfl,⟨l,ag,ah,rfl,H⟩⟩

def zbH (n_Marks:Int) (n_Lines:List Line):M (Int × (List Line)) :=
  M.bind (zaw n_Lines) fun r2 =>
  M.pure (n_Marks,r2)
theorem zdu {R:List Chunk} {ac:Cells} {ab:Value} (n_Marks:Int) (n_Lines:List Line) (ah:Reads R ac) (ai:Sl ac ab n_Lines) {r:(Int × (List Line))} (hM:(zbH n_Marks n_Lines).Ends r) (w:World) (H:St w w [] R):Ret Try.prog 8 #[.agg #[I n_Marks,ab]] w fun v w'=>∃ (y0:Int) (y1:List Line) (u0:Value),(y0,y1)=r/\v = .agg #[I y0,u0]/\St w w' [cOwn (α:=Line) 35 u0 y1] R:=by
 refine ret_of_W Try.func8 rfl rfl rfl ?_;refine kg 2 ?_;refine t_bx [I n_Marks,ab] H rfl ?_;intro aj au H;refine t_alloc (cs:=[I 0,.slice none 0 0]) H Al25 rfl ?_;intro av aw H;refine kg 2 ?_;refine W.draw (fun W=>St w W [cBlk aj [I n_Marks,ab] 25] R) [(0,true),(1,true),(2,true),(3,true),(4,false),(5,true),(6,false)] mixed (by decide +kernel) rfl ?_;intro ax ae;replace H:=H.ext ae;clear ae
 refine ⟨(H.pk [1]),?_⟩
 refine kg 4 ?_;refine d_l rfl ?_;obtain ⟨ay,am,hM⟩:=M.e_bind hM;refine s_call cf6 [ab] rfl (zby n_Lines (ah.app _) ai am _ (H.gt 2)) ?_
 rintro vq az ⟨r2,aa,rfl,hvq,ag⟩
 subst vq;(try dsimp only at hM);replace H:=H.bk ag;clear ag
 have ao:=Sl.cells (H.os 0)
 have aB:=Sl.oc (H.os 0)
 refine s_nil ⟨(H.pk [2]),?_⟩
 refine d_q rfl (fun w' H=>x_bld (ps:=[(0,I n_Marks),(1,aa)]) (zs:=[I 0,.slice none 0 0]) (L':=[I n_Marks,aa]) rfl Try.underlying25 Al25 rfl (Bd25 Try.underlying25) (.cons (cs:=[I n_Marks]) rfl rfl rfl rfl rfl<|.cons (cs:=[aa]) ao rfl rfl rfl rfl<|.nil))<|d_l rfl ?_;refine t_sw 1 0 [I n_Marks,aa] (.agg #[I n_Marks,aa]) H rfl rfl Sz25 rfl rfl rfl (by simp only [List.all_cons,List.all_nil,Bool.true_and,Bool.and_true,Sl.oc (H.os 0)]; try rfl) ?_;intro aC H
 refine s_nil ⟨(H.pk [2]),?_⟩
 refine d_nil ?_;refine W.ret ?_
 have ap:=(H.bl 1)
 have aq:=M.e_pure hM
 exact ⟨_,(resE_of1 (v:=.agg #[I n_Marks,aa]) rfl (.cell (v:=.agg #[I n_Marks,aa]) rfl (run_loadVar_ag (ds:=[I n_Marks,aa]) Ag25 Sz25 ap rfl rfl)<|.nil)),⟨n_Marks,r2,aa,aq,rfl,(H.pk [0])⟩⟩

end Go.Proofs.Ytigidakpcepdkaa
end
namespace Go.Proofs
open Go.Shelf
def Try.layMul_ren:Go.Shelf.Ren:=⟨fun | 212=>41 | 263=>68 | 264=>69 | n=>n,fun | 46=>105 | 51=>133 | 146=>134 | 53=>136 | 148=>137 | n=>n,fun | n=>n⟩
theorem Try.layMul:Go.Proofs.Lays.n212 Try.prog Try.layMul_ren:={
  mixed:=by kernel_rfl
  f212:=Try.func41.trans (congrArg some (by kernel_rfl))
  f263:=Try.func68.trans (congrArg some (by kernel_rfl))
  f264:=Try.func69.trans (congrArg some (by kernel_rfl))
  t46:=Try.underlying105
  a46:=Try.isAgg105
  z46:=Try.sizeOf105
  v46:=Try.zeroValue105
  t51:=Try.underlying133
  a51:=Try.isAgg133
  z51:=Try.sizeOf133
  v51:=Try.zeroValue133
  t53:=Try.underlying136
  a53:=Try.isAgg136
  z53:=Try.sizeOf136
  v53:=Try.zeroValue136
  t146:=Try.underlying134
  a146:=Try.isAgg134
  z146:=Try.sizeOf134
  v146:=Try.zeroValue134
  t148:=Try.underlying137
  a148:=Try.isAgg137
  z148:=Try.sizeOf137
  v148:=Try.zeroValue137 }
end Go.Proofs
namespace Go.Proofs.Ytigidakpcepdkaa
open Go Go.Nm Go.Proofs
theorem mul_any {n:Int} (h0:0<=n) (h1:n<=9223372036854775807) (w:World):Ret Try.prog 41 #[.int .u64 1,.int .u64 n] w fun v w'=>v = .tuple #[.int .u64 0,.int .u64 n]/\Ext w w':=by
  have h:=Any.bits_Mul Try.layMul 1 n.toNat (by omega) (by omega) w
  have e:((n.toNat:Nat):Int)=n:=Int.toNat_of_nonneg h0
  rw [Nat.one_mul,Nat.div_eq_of_lt (by omega),Nat.mod_eq_of_lt (by omega),e] at h
  refine Calls.mono h ?_
  rintro _ w' ⟨rfl,rfl⟩
  exact ⟨_,rfl,rfl,Ext.refl w'⟩
end Go.Proofs.Ytigidakpcepdkaa
namespace Go.Nm
open Go
theorem rep_step {l:List Int} {x:Int} {k z:Nat} (h:∀ y∈l.take k,y=x) (hk:k<=l.length) :
    ∀ y∈(l.take (Int.toNat k)++(l.take k).take (l.length-Int.toNat k)++l.drop z).take (k+min (l.take k).length (l.length-Int.toNat k)),y=x:=by
  intro y hy
  rw [List.take_append_of_le_length (by simp; omega)] at hy
  have hy:=List.mem_of_mem_take hy
  rw [show Int.toNat (k:Int)=k from by omega] at hy
  rcases List.mem_append.1 hy with h1 | h1
  · exact h y h1
  · exact h y (List.mem_of_mem_take h1)
theorem rep_done {l:List Int} {x:Int} {n k:Nat} (hl:l.length=n) (h:∀ y∈l.take k,y=x) (hk:n<=k):l=List.replicate n x:=by
  rw [List.take_of_length_le (by omega)] at h
  exact List.eq_replicate_iff.2 ⟨hl,h⟩
theorem rep_init {n:Nat} (x:Int) (h:1<=n):(List.replicate n (0:Int)).take 0++[x].take ((List.replicate n (0:Int)).length-0)++(List.replicate n (0:Int)).drop (0+min [x].length ((List.replicate n (0:Int)).length-0))=[x]++List.replicate (n-1) 0:=by
  obtain ⟨m,rfl⟩:∃ m,n=m+1:=⟨n-1,by omega⟩
  simp [show min 1 (m+1)=1 from by omega]
end Go.Nm
namespace Go.Proofs.Ytigidakpcepdkaa
open Go Go.Nm
theorem cf41:CF Try.prog 41:=⟨_,Try.func41,rfl,by decide +kernel⟩
set_option maxRecDepth 100000 in
theorem repeat_int {vx:Value} {x n:Int} (w:World) (hx:Sl w.cell? vx [x]) (h1:1<=n) (h2:n<=1000):Ret Try.prog 23 #[vx,I n] w fun v w'=>OwnF w.heap.size 3 w' v (List.replicate (Int.toNat n) x)/\Ext w w':=by
 refine ret_of_W Try.func23 rfl rfl rfl ?_
 have E:=Ext.refl w
 have K1:=KF.refl 0 w
 have hl_hx:=hx.len_le
 have hx:=hx.par
 refine W.seq ?_
 refine W.region rfl ?_
 refine s_val (x_as (v:=.slice none 0 0) rfl) ?_
 refine s_nil ?_
 refine W.seq ?_
 refine W.seq ?_
 refine W.region rfl ?_
 refine s_val (x_mv (v:=I n) rfl) ?_
 refine s_val (x_cmp (kd:=.i64) (a:=n) (b:=0) (r:=decide ((n:Int)<0)) rfl rfl rfl) ?_
 refine s_nil ?_
 refine W.cond (decide ((n:Int)<0)) rfl (fun c2=>?_) (fun c2=>?_)
 ·simp only [decide_eq_true_eq,decide_eq_false_iff_not,beq_iff_eq,bne_iff_ne,beq_eq_false_iff_ne,bne_eq_false_iff_eq,ne_eq,Decidable.not_not] at c2
  exfalso; omega
 ·simp only [decide_eq_true_eq,decide_eq_false_iff_not,beq_iff_eq,bne_iff_ne,beq_eq_false_iff_ne,bne_eq_false_iff_eq,ne_eq,Decidable.not_not] at c2
  refine W.skip ?_
  refine W.seq ?_
  refine W.region rfl ?_
  refine s_val (x_mv (v:=vx) rfl) ?_
  refine s_val (x_lenS T26.und rfl (hx.to K1)) ?_
  refine s_val (x_convU (kd:=.i64) (a:=([x]).length) Try.underlying3 Try.underlying105 rfl (by omega)) ?_
  refine s_val (x_mv (v:=I n) rfl) ?_
  refine s_val (x_convU (kd:=.i64) (a:=n) Try.underlying3 Try.underlying105 rfl (by omega)) ?_
  refine s_call cf41 [.int .u64 (([x]).length),.int .u64 n] rfl (mul_any (by omega) (by omega) _) ?_
  rintro _ w3 ⟨rfl,x4⟩
  replace E:=E.trans x4
  replace K1:=K1.ext x4
  clear x4
  refine s_val (x_mv (v:=.tuple #[.int .u64 0,.int .u64 n]) rfl) ?_
  refine s_val (x_ext (vs:=[.int .u64 0,.int .u64 n]) (v:=.int .u64 0) rfl rfl) ?_
  refine s_val (x_ext (vs:=[.int .u64 0,.int .u64 n]) (v:=.int .u64 n) rfl rfl) ?_
  refine s_val (x_as (v:=.int .u64 0) rfl) ?_
  refine s_val (x_as (v:=.int .u64 n) rfl) ?_
  refine s_nil ?_
  refine W.seq ?_
  refine W.seq ?_
  refine W.region rfl ?_
  refine s_val (x_mv (v:=.int .u64 0) rfl) ?_
  refine s_val (x_cmp (kd:=.u64) (a:=0) (b:=0) (r:=decide ((0:Int)<0)) rfl rfl rfl) ?_
  refine s_val (x_mv (v:=B (decide ((0:Int)<0))) rfl) ?_
  refine g_val (!(decide ((0:Int)<0))) (gy_f rfl) (fun hg=>x_mv (v:=.int .u64 n) rfl) ?_
  refine g_val (!(decide ((0:Int)<0))) (gy_f rfl) (fun hg=>x_cmp (kd:=.u64) (a:=n) (b:=9223372036854775807) (r:=decide ((9223372036854775807:Int)<n)) (gd_of (c:=!(decide ((0:Int)<0))) hg (.int .u64 n)) rfl rfl) ?_
  refine s_val (x_por (b:=decide ((0:Int)<0)) (r:=decide ((9223372036854775807:Int)<n)) rfl rfl (fun hb=>gd_of (c:=!(decide ((0:Int)<0))) (by simp_all) (B (decide ((9223372036854775807:Int)<n))))) ?_
  refine s_nil ?_
  refine W.cond (((decide ((0:Int)<0))||(decide ((9223372036854775807:Int)<n)))) rfl (fun c5=>?_) (fun c5=>?_)
  ·skip
   exfalso; simp at c5; omega
  ·skip
   refine W.skip ?_
   refine W.seq ?_
   refine W.region rfl ?_
   refine s_val (x_mv (v:=.int .u64 n) rfl) ?_
   refine s_val (x_conv64 (kd:=.u64) (a:=n) Try.underlying105 Try.underlying3 rfl (by omega)) ?_
   refine s_mk (α:=Int) T26 0 rfl (n:=n) rfl rfl (by omega) (by omega) (by omega) ?_
   intro v6 w7 ho8 x9
   have z10:=Nat.le_refl w3.heap.size
   have B_v6:=E.size
   have B_v6_K1:=K1.size
   replace E:=E.trans x9
   replace z10:=Nat.le_trans z10 x9.size
   replace K1:=K1.ext x9
   refine s_val (x_as (v:=v6) rfl) ?_
   refine s_nil ?_
   refine W.seq ?_
   refine W.region rfl ?_
   refine s_val (x_mv (v:=v6) rfl) ?_
   refine s_val (x_mv (v:=vx) rfl) ?_
   refine s_copy (v:=v6) (l:=List.replicate (Int.toNat n) 0) (l2:=[x]) (o:=0) (vy:=vx) T26 ((sufV_zero ho8 1).symm) rfl ho8 (by first | omega | (simp; done) | (simp; omega)) (hx.to K1) (Cells.Le.refl _) (by first | omega | (simp; done) | (simp; omega)) ?_
   intro w11 ho13 g12
   replace E:=E.grow g12 (by omega)
   replace z10:=Nat.le_trans z10 g12.size
   replace K1:=K1.grow g12 (by omega)
   replace ho8:=ho13
   clear g12
   refine s_val (x_as (v:=I ((min ([x]).length ((List.replicate (Int.toNat n) 0).length-0):Nat))) rfl) ?_
   refine s_nil ?_
   refine W.seq ?_
   refine W.block ?_
   refine W.loop (fun m σ W=>∃ (k:Nat) (l:List Int) (vo:Value) (ρ:Env),σ=upds ρ [(7,vo),(8,I k)]/\m=Int.toNat n-k/\Ext w W/\w3.heap.size<=W.heap.size/\OwnF w3.heap.size 3 W vo l/\l.length=Int.toNat n/\1<=k/\k<=Int.toNat n/\(∀ y∈l.take k,y=x)) ?_ ?_
   ·exact ⟨_,1,([x]++List.replicate (Int.toNat n-1) 0),v6,_,upds_of _ _ ⟨rfl,(eqI (by simp; omega)),trivial⟩,rfl,E,z10,(by have hq:=ho8; rw [rep_init (n:=Int.toNat n) x (by omega)] at hq; exact hq),(by simp; omega),(Nat.le_refl _),(by omega),(by simp)⟩
   ·rintro m σ w14 ⟨k,l,vo,ρ,rfl,rfl,E,z10,ho_vo,iv0_0,iv0_1,iv0_2,iv0_3⟩
    refine W.seq ?_
    refine W.seq ?_
    refine W.region rfl ?_
    refine s_val (x_mv (v:=I k) rfl) ?_
    refine s_val (x_mv (v:=vo) rfl) ?_
    refine s_val (x_lenS T26.und rfl (ho_vo.sl.mono (frm_le _ _))) ?_
    refine s_val (x_cmp (kd:=.i64) (a:=k) (b:=l.length) (r:=decide ((k:Int)<l.length)) rfl rfl rfl) ?_
    refine s_nil ?_
    refine W.cond (decide ((k:Int)<l.length)) rfl (fun c15=>?_) (fun c15=>?_)
    ·simp only [decide_eq_true_eq,decide_eq_false_iff_not,beq_iff_eq,bne_iff_ne,beq_eq_false_iff_ne,bne_eq_false_iff_eq,ne_eq,Decidable.not_not] at c15
     refine W.skip ?_
     refine W.block ?_
     refine W.draw (fun W=>Ext w W) [(0,true),(1,true),(2,true),(3,true),(4,true),(5,true),(6,true),(7,false),(8,true),(9,true)] mixed (by decide +kernel) rfl ?_
     intro w16 x17
     replace E:=E.trans x17
     replace z10:=Nat.le_trans z10 x17.size
     replace ho_vo:=ho_vo.ext x17
     clear x17
     refine ⟨E,?_⟩
     refine d_q rfl (fun w' hC=>by have E:=hC; exact x_mv (v:=I k) rfl) ?_
     refine d_q rfl (fun w' hC=>by have E:=hC; exact x_mv (v:=vo) rfl) ?_
     refine d_q rfl (fun w' hC=>by have E:=hC; exact x_mv (v:=I k) rfl) ?_
     refine d_q rfl (fun w' hC=>by have E:=hC; exact x_sl (v:=vo) (u:=sufV 1 vo (Int.toNat k)) (lo':=some (I k)) (hi':=none) (mx':=none) rfl rfl rfl rfl (OwnF.suf (i:=k) T26.und T26.size ho_vo (by omega) (by omega) _)) ?_
     refine d_q rfl (fun w' hC=>by have E:=hC; exact x_mv (v:=vo) rfl) ?_
     refine d_q rfl (fun w' hC=>by have E:=hC; exact x_mv (v:=I k) rfl) ?_
     obtain ⟨u18,hr_u18,hs19⟩:=sl_hi T26.und T26.size ho_vo.sl (j:=k) (by omega) (by omega)
     replace hs19:=hs19.mono (frm_le _ _)
     replace hs19:Sl _ u18 (l.take k):=hs19
     refine d_q rfl (fun w' hC=>by have E:=hC; exact x_sl (v:=vo) (u:=u18) (lo':=none) (hi':=some (I k)) (mx':=none) rfl rfl rfl rfl (hr_u18 _)) ?_
     refine d_l rfl ?_
     refine s_copy (v:=vo) (l:=l) (l2:=l.take k) (o:=(Int.toNat k)) (vy:=u18) T26 rfl rfl ho_vo (by first | omega | (simp; done) | (simp; omega)) hs19 (Cells.Le.refl _) (by first | omega | (simp; done) | (simp; omega)) ?_
     intro w20 ho22 g21
     replace E:=E.grow g21 (by omega)
     replace z10:=Nat.le_trans z10 g21.size
     replace ho_vo:=ho22
     clear g21
     refine s_nil ⟨E,?_⟩
     refine d_q rfl (fun w' hC=>by have E:=hC; exact x_ari (a:=k) (b:=(min (l.take k).length ((l).length-(Int.toNat k)):Nat)) (r:=k+((min (l.take k).length ((l).length-(Int.toNat k)):Nat))) rfl rfl rfl (by omega)) ?_
     refine d_q rfl (fun w' hC=>by have E:=hC; exact x_as (v:=I (k+((min (l.take k).length ((l).length-(Int.toNat k)):Nat)))) rfl) ?_
     refine d_nil ?_
     have hmk:(l.take k).length=k:=by simp; omega
     exact ⟨_,(by omega),(k+min (l.take k).length (l.length-Int.toNat k)),_,vo,_,upds_of _ _ ⟨rfl,(eqI (by omega)),trivial⟩,rfl,E,z10,(by first | exact ho_vo | simpa using ho_vo),(by simp only [List.length_append,List.length_take,List.length_drop]; omega),(by omega),(by omega),(rep_step iv0_3 (by omega))⟩
    ·simp only [decide_eq_true_eq,decide_eq_false_iff_not,beq_iff_eq,bne_iff_ne,beq_eq_false_iff_ne,bne_eq_false_iff_eq,ne_eq,Decidable.not_not] at c15
     refine W.exit ?_
     refine W.seq ?_
     refine W.region rfl ?_
     refine s_val (x_mv (v:=vo) rfl) ?_
     refine s_val (x_as (v:=vo) rfl) ?_
     refine s_nil ?_
     refine W.ret ?_
     exact ⟨_,resE_tmp rfl,((rep_done iv0_0 iv0_3 (by omega)) ▸ ho_vo.dn (by omega)),E⟩

end Go.Proofs.Ytigidakpcepdkaa
