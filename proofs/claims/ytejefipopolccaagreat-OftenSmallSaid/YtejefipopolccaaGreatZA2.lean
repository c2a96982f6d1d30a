/- Part 2 of the texts on which the proof rests. Conditions: none. -/
import Derived.Test.YtejefipopolccaaGreatProg
import Derived.Test.YtejefipopolccaaGreatZA1
set_option linter.unusedVariables false
set_option linter.unusedSimpArgs false
set_option linter.unusedSectionVars false
namespace Go.Nm
open Go
universe u
theorem qy1 {p:Prop} [Decidable p]:(decide p=true)=p:=decide_eq_true_eq
theorem qy2 {p:Prop} [Decidable p]:(decide p=false)↔¬p:=decide_eq_false_iff_not
theorem qy3 {α:Type _} [BEq α] [LawfulBEq α] {a b:α}:(a==b)=true↔a=b:=beq_iff_eq
theorem qy4 {α:Type _} [BEq α] [LawfulBEq α] {a b:α}:(a != b)=true↔a ≠ b:=bne_iff_ne
theorem qy5 {α:Type _} [BEq α] [LawfulBEq α] {a b:α}:(a==b)=false↔a ≠ b:=beq_eq_false_iff_ne
theorem qy6 {α:Type _} [BEq α] [LawfulBEq α] {a b:α}:(a != b)=false↔a=b:=bne_eq_false_iff_eq
theorem qy7 {p:Prop} [Decidable p]:¬¬p↔p:=Decidable.not_not
abbrev Pq (b:Nat):Value:=.pointer (some ⟨b,0,none⟩)
abbrev Oq (b o:Nat):Value:=.pointer (some ⟨b,o,none⟩)
class NthR {α:Type u} (l:List α) (i:Nat) (x:outParam α):Prop where
  is:l[i]?=some x
instance {α:Type u} {l:List α} {x:α}:NthR (x :: l) 0 x:=⟨rfl⟩
instance {α:Type u} {l:List α} {x y:α} {i:Nat} [h:NthR l i x]:NthR (y :: l) (i+1) x:=⟨h.is⟩
instance (priority:=high) {α:Type u} {l:List α} {x a b c d:α} {i:Nat} [h:NthR l i x]:NthR (a :: b :: c :: d :: l) (i+4) x:=⟨h.is⟩
class PickR {α:Type u} (l:List α) (i:List Nat) (o:outParam (List α)):Prop where
  is:i.mapM (fun j=>l[j]?)=some o
instance {α:Type u} {l:List α}:PickR l [] []:=⟨rfl⟩
instance {α:Type u} {l o:List α} {i:Nat} {is:List Nat} {x:α} [h:NthR l i x] [k:PickR l is o]:PickR l (i :: is) (x :: o):=⟨by rw [List.mapM_cons,h.is,k.is]; rfl⟩
class AppR {α:Type u} (a b:List α) (o:outParam (List α)):Prop where
  is:a++b=o
instance {α:Type u} {b:List α}:AppR [] b b:=⟨rfl⟩
instance {α:Type u} {x:α} {a b o:List α} [h:AppR a b o]:AppR (x :: a) b (x :: o):=⟨by rw [List.cons_append,h.is]⟩
class LenR {α:Type u} (l:List α) (n:Nat):Prop where
  is:l.length=n
instance {α:Type u}:LenR ([]:List α) 0:=⟨rfl⟩
instance {α:Type u} {l:List α} {x:α} {n:Nat} [h:LenR l n]:LenR (x :: l) (n+1):=⟨by rw [List.length_cons,h.is]⟩
class EndR {α:Type u} (n:Nat) (l:List α) (a b:outParam (List α)):Prop where
  is:a++b=l
instance (priority:=low) {α:Type u} {x:α} {n:Nat} {l a b:List α} [h:EndR n l a b]:EndR n (x :: l) (x :: a) b:=⟨by rw [List.cons_append,h.is]⟩
instance {α:Type u} {n:Nat} {l:List α} [LenR l n]:EndR n l [] l:=⟨rfl⟩
class SetR {α:Type u} (l:List α) (k:Nat) (x:α) (o:outParam (List α)):Prop where
  is:l.set k x=o
instance {α:Type u} {l:List α} {x y:α}:SetR (y :: l) 0 x (x :: l):=⟨rfl⟩
instance {α:Type u} {l o:List α} {x y:α} {k:Nat} [h:SetR l k x o]:SetR (y :: l) (k+1) x (y :: o):=⟨by rw [List.set_cons_succ,h.is]⟩
class NfR {α:Type u} (l:List α) (o:outParam (List α)):Prop where
  is:l=o
instance {α:Type u}:NfR ([]:List α) []:=⟨rfl⟩
instance {α:Type u} {x:α} {l o:List α} [h:NfR l o]:NfR (x :: l) (x :: o):=⟨by rw [← h.is]⟩
instance {α:Type u} {l o p:List α} {k:Nat} {x:α} [h:NfR l o] [s:SetR o k x p]:NfR (l.set k x) p:=⟨by rw [h.is,s.is]⟩
instance {α:Type u} {a b a' b' o:List α} [h:NfR a a'] [h':NfR b b'] [s:AppR a' b' o]:NfR (a++b) o:=⟨by rw [h.is,h'.is,s.is]⟩
instance {α:Type u} {x:α} {l o:List α} [h:NfR l o]:NfR ((x :: l).eraseIdx 0) o:=⟨by rw [← h.is]; rfl⟩
instance {α:Type u} {x:α} {l o:List α} {k:Nat} [h:NfR (l.eraseIdx k) o]:NfR ((x :: l).eraseIdx (k+1)) (x :: o):=⟨by rw [List.eraseIdx_cons_succ,h.is]⟩
class OverR {α:Type u} (cs:List α) (off:Nat) (vs:List α) (o:outParam (List α)):Prop where
  is:cs.take off++vs++cs.drop (off+vs.length)=o
instance {α:Type u} {cs:List α}:OverR cs 0 [] cs:=⟨by simp⟩
instance {α:Type u} {c v:α} {cs vs o:List α} [h:OverR cs 0 vs o]:OverR (c :: cs) 0 (v :: vs) (v :: o):=⟨by
  have:=h.is
  simp only [List.take_zero,List.nil_append,Nat.zero_add] at this ⊢
  simp [this]⟩
instance {α:Type u} {c:α} {cs vs o:List α} {n:Nat} [h:OverR cs n vs o]:OverR (c :: cs) (n+1) vs (c :: o):=⟨by
  have:=h.is
  rw [List.take_succ_cons,show n+1+vs.length=n+vs.length+1 by omega,List.drop_succ_cons,List.cons_append,List.cons_append,this]⟩
section
variable {w0 w w':World} {L L' L1 R A T:List Chunk}
theorem St.os {α:Type} [Flat α] {e:TypeId} {v:Value} {l:List α} (h:St w0 w L R) (k:Nat) [n:NthR L k (cOwn e v l)]:Sl (rowC v (l.flatMap Flat.enc)) v l:=ownSl (h.get n.is)
theorem St.ol {α:Type} [Flat α] {e:TypeId} {v:Value} {l:List α} (h:St w0 w L R) (k:Nat) [n:NthR L k (cOwn e v l)]:(rowC v (l.flatMap Flat.enc)).Le w.cell?:=ownLe w (h.get n.is)
theorem rdo {α:Type} [Flat α] {e:TypeId} {v:Value} {l:List α} (k:Nat) [n:NthR L k (cOwn e v l)]:Reads (L++R) (rowC v (l.flatMap Flat.enc)):=Reads.of n.is ownLe
theorem St.bl {b:Nat} {cs:List Value} {t:TypeId} (h:St w0 w L R) (k:Nat) [n:NthR L k (cBlk b cs t)]:w.heap[b]?=some (.cells cs.toArray t (0,0)):=h.blk n.is
theorem St.nf (h:St w0 w L R) [n:NfR L L']:St w0 w L' R:=by
  have:=n.is
  subst this
  exact h
theorem St.pk (h:St w0 w L R) (i:List Nat) [n:NfR L L1] [p:PickR L1 i L'] (hn:i.Nodup:=by decide):St w0 w L' R:=h.nf.pick i hn p.is
theorem St.bk (h:St w0 w L R) (h':St w w' A (T++R)) [a:NfR (A++T) L']:St w0 w' L' R:=h.back h' a.is
theorem St.gt (h:St w0 w L R) (k:Nat) [n:NfR L L1] [s:EndR k L1 A T]:St w w A (T++R):=h.nf.give s.is
end
section
variable {P:Program} {all rest:List Oper} {Q:Post} {σ:Env} {w0 w:World} {L L' R:List Chunk} {ty:TypeId} {pos:String} {af:Array Edge}
theorem zM {d:Nat} {x:Operand} (v:Value) (h:ev σ x=v) (k:SL P all Q rest (upd σ d v) w):SL P all Q (⟨some d,.move x,ty,pos,af,none⟩ :: rest) σ w:=s_val (x_mv h) k
theorem zA {d:Nat} {x:Operand} (v:Value) (h:ev σ x=v) (k:SL P all Q rest (upd σ d v) w):SL P all Q (⟨some d,.assign x,ty,pos,af,none⟩ :: rest) σ w:=s_val (x_as h) k
theorem zC {d:Nat} {op:BinOp} {t yt:TypeId} {x y:Operand} (a b:Int) (r:Bool) (hx:ev σ x = .int .i64 a) (hy:ev σ y = .int .i64 b) (hr:cmpV op a b=some r) (k:SL P all Q rest (upd σ d (.bool r)) w):SL P all Q (⟨some d,.binOp op t x y yt,ty,pos,af,none⟩ :: rest) σ w:=s_val (x_cmp hx hy hr) k
theorem zR {d:Nat} {op:BinOp} {t yt:TypeId} {x y:Operand} (a b r:Int) (hx:ev σ x = .int .i64 a) (hy:ev σ y = .int .i64 b) (hr:ariV op a b=some r) (h:-9223372036854775808<=r/\r<=9223372036854775807) (k:SL P all Q rest (upd σ d (.int .i64 r)) w):SL P all Q (⟨some d,.binOp op t x y yt,ty,pos,af,none⟩ :: rest) σ w:=s_val (x_ari hx hy hr h) k
theorem zX {d i:Nat} {x:Operand} (vs:List Value) (v:Value) (h:ev σ x = .tuple vs.toArray) (hv:vs[i]?=some v) (k:SL P all Q rest (upd σ d v) w):SL P all Q (⟨some d,.extract x i,ty,pos,af,none⟩ :: rest) σ w:=s_val (x_ext h hv) k
theorem t_sw {dst:Option Nat} {t:TypeId} {x y:Operand} {b n:Nat} {cs cs':List Value} {et:TypeId} (k off:Nat) (vs:List Value) (v:Value) (H:St w0 w L R) [hk:NthR L k (cBlk b cs et)] [hc:OverR cs off vs cs'] [hL:SetR L k (cBlk b cs' et) L'] (hx:ev σ x = .pointer (some ⟨b,off,none⟩)) (hy:ev σ y=v)
    (hs:(P.info? t).map (·.size)=some n) (hv:v.cells=vs.toArray) (hn:vs.length=n) (hl:Nat.ble (off+n) cs.length=true) (h1:vs.all (·.oneCell')=true)
    (kk:∀ w',St w0 w' L' R->SL P all Q rest (updo σ dst undef) w'):SL P all Q (⟨dst,.store t x y,ty,pos,af,none⟩ :: rest) σ w :=
  t_st H hk.is hx hy hs hv hn hl h1 (by rw [← hn]; exact hc.is) hL.is kk
end
/-- What a test says, as a proposition. -/
class DcB (b c:Bool) (p:outParam Prop):Prop where
  to:b=c->p
instance (priority:=low) {b c:Bool}:DcB b c (b=c):=⟨fun h=>h⟩
instance {p:Prop} [Decidable p]:DcB (decide p) true p:=⟨of_decide_eq_true⟩
instance {p:Prop} [Decidable p]:DcB (decide p) false (¬p):=⟨of_decide_eq_false⟩
instance {α:Type _} [BEq α] [LawfulBEq α] {a b:α}:DcB (a==b) true (a=b):=⟨beq_iff_eq.1⟩
instance {α:Type _} [BEq α] [LawfulBEq α] {a b:α}:DcB (a==b) false (a ≠ b):=⟨beq_eq_false_iff_ne.1⟩
instance {α:Type _} [BEq α] [LawfulBEq α] {a b:α}:DcB (a != b) true (a ≠ b):=⟨bne_iff_ne.1⟩
instance {α:Type _} [BEq α] [LawfulBEq α] {a b:α}:DcB (a != b) false (a=b):=⟨bne_eq_false_iff_eq.1⟩
section
variable {P:Program} {all rest:List Oper} {Q:Post} {σ:Env} {w0 w:World} {L L' R:List Chunk} {ty:TypeId} {pos:String} {af:Array Edge}
end
end Go.Nm
namespace Go.Nm
open Go
universe u
/-- What a test says, as a proposition. -/
class DcQ (b c:Bool) (p:outParam Prop):Prop where
  to:b=c->p
instance (priority:=low) {b c:Bool}:DcQ b c (b=c):=⟨fun h=>h⟩
instance {p:Prop} [Decidable p]:DcQ (decide p) true p:=⟨of_decide_eq_true⟩
instance {p:Prop} [Decidable p]:DcQ (decide p) false (¬p):=⟨of_decide_eq_false⟩
instance {α:Type _} [BEq α] [LawfulBEq α] {a b:α}:DcQ (a==b) true (a=b):=⟨beq_iff_eq.1⟩
instance {α:Type _} [BEq α] [LawfulBEq α] {a b:α}:DcQ (a==b) false (a ≠ b):=⟨beq_eq_false_iff_ne.1⟩
instance {α:Type _} [BEq α] [LawfulBEq α] {a b:α}:DcQ (a != b) true (a ≠ b):=⟨bne_iff_ne.1⟩
instance {α:Type _} [BEq α] [LawfulBEq α] {a b:α}:DcQ (a != b) false (a=b):=⟨bne_eq_false_iff_eq.1⟩
/-- What a guard says, as a proposition. -/
class DeQ (b:Bool) (p:outParam Prop):Prop where
  iff:b=true↔p
instance (priority:=low) {b:Bool}:DeQ b (b=true):=⟨Iff.rfl⟩
instance {p:Prop} [Decidable p]:DeQ (decide p) p:=⟨decide_eq_true_iff⟩
instance {a b:Bool} {p q:Prop} [ha:DeQ a p] [hb:DeQ b q]:DeQ (a&&b) (p/\q):=⟨by rw [Bool.and_eq_true,ha.iff,hb.iff]⟩
/-! ### Facts on types, found by their numbers -/
class FdC (P:Program) (s k:Nat) (off ft:outParam Nat):Prop where
  h:(P.underlying s).bind (fun d=>match d with | .struct fs=>(fs[k]?).map (fun f=>(f.offset,f.type)) | _=>none)=some (off,ft)
class ScC (P:Program) (t:Nat):Prop where
  h:isSc (P.underlying t)=true
class AgC (P:Program) (t:Nat):Prop where
  h:isAg (P.underlying t)=true
class SzC (P:Program) (t:Nat) (n:outParam Nat):Prop where
  h:(P.info? t).map (·.size)=some n
class TlC (P:Program) (t:Nat) (e sz by':outParam Nat) (z:outParam Value):Prop where
  h:SlT P t e sz by' z
class AlC (P:Program) (t:Nat) (z:outParam Value):Prop where
  h:(P.info? t).map (·.zero)=some (some z)
class BdC (P:Program) (t:Nat) (pl:outParam (List (Nat × Nat))):Prop where
  h:∃ fs:Array Field,P.underlying t=some (.struct fs)/\fs.toList.mapM (fun f=>(P.info? f.type).map fun i=>(f.offset,i.size))=some pl
class CfC (P:Program) (f:FuncId):Prop where
  h:CF P f
class AddC (a b:Nat) (c:outParam Nat):Prop where
  h:a+b=c
instance (priority:=low) {a b:Nat}:AddC a b (a+b):=⟨rfl⟩
instance {a:Nat}:AddC a 0 a:=⟨rfl⟩
instance {b:Nat}:AddC 0 b b:=⟨Nat.zero_add b⟩
/-- An index as a number. -/
class IxC (i:Int) (n:outParam Nat):Prop where
  h:i.toNat=n
instance (priority:=low) {i:Int}:IxC i i.toNat:=⟨rfl⟩
instance {n:Nat}:IxC (n:Int) n:=⟨rfl⟩
instance:IxC 0 0:=⟨rfl⟩
instance:IxC 1 1:=⟨rfl⟩
instance:IxC 2 2:=⟨rfl⟩
instance:IxC 3 3:=⟨rfl⟩
instance:IxC 4 4:=⟨rfl⟩
instance:IxC 5 5:=⟨rfl⟩
instance:IxC 6 6:=⟨rfl⟩
instance:IxC 7 7:=⟨rfl⟩
instance:IxC 8 8:=⟨rfl⟩
instance:IxC 9 9:=⟨rfl⟩
/-- What is read beyond a list's end. -/
class DfC (α:Type) (d:outParam α):Prop where
  h:True
instance (priority:=low) {α:Type} [Inhabited α]:DfC α default:=⟨trivial⟩
instance:DfC Int 0:=⟨trivial⟩
instance:DfC Bool false:=⟨trivial⟩
/-- The cells of a thing, written out. -/
class EncL {α:Type} [Flat α] (x:α) (ds:outParam (List Value)):Prop where
  h:Flat.enc x=ds
/-- Some of a list's entries. -/
class SubR {α:Type u} (l:List α) (k n:Nat) (o:outParam (List α)):Prop where
  h:(l.drop k).take n=o
instance {α:Type u} {l:List α}:SubR l 0 0 []:=⟨rfl⟩
instance {α:Type u} {l o:List α} {x:α} {n:Nat} [h:SubR l 0 n o]:SubR (x :: l) 0 (n+1) (x :: o):=⟨by have:=h.h; simp at this; simp [this]⟩
instance {α:Type u} {l o:List α} {x:α} {k n:Nat} [h:SubR l k n o]:SubR (x :: l) (k+1) n o:=⟨by rw [List.drop_succ_cons]; exact h.h⟩
/-- A block among the parts. -/
class BlkR (L:List Chunk) (b:Nat) (cs:outParam (List Value)) (t:outParam TypeId):Prop where
  h:∃ k:Nat,L[k]?=some (cBlk b cs t)
instance {c:Chunk} {L:List Chunk} {b:Nat} {cs:List Value} {t:TypeId} [h:BlkR L b cs t]:BlkR (c :: L) b cs t:=⟨by obtain ⟨k,h⟩:=h.h; exact ⟨k+1,by simpa using h⟩⟩
instance {L:List Chunk} {b:Nat} {cs:List Value} {t:TypeId}:BlkR (cBlk b cs t :: L) b cs t:=⟨⟨0,rfl⟩⟩
/-- A block among the parts that is changed. -/
class BlkW (L:List Chunk) (b:Nat) (cs:List Value) (cs':List Value) (t:TypeId) (o:outParam (List Chunk)):Prop where
  h:∃ k:Nat,L[k]?=some (cBlk b cs t)/\L.set k (cBlk b cs' t)=o
instance {c:Chunk} {L o:List Chunk} {b:Nat} {cs cs':List Value} {t:TypeId} [h:BlkW L b cs cs' t o]:BlkW (c :: L) b cs cs' t (c :: o):=⟨by obtain ⟨k,h1,h2⟩:=h.h; exact ⟨k+1,by simpa using h1,by rw [List.set_cons_succ,h2]⟩⟩
instance {L:List Chunk} {b:Nat} {cs cs':List Value} {t:TypeId}:BlkW (cBlk b cs t :: L) b cs cs' t (cBlk b cs' t :: L):=⟨⟨0,rfl,rfl⟩⟩
/-- A field of an element. -/
class FldC (α:Type) [Elt α] (k:Nat) (e:outParam α) (f:outParam (α->Value)):Prop where
  h:∀ {C:Cells} {v:Value} {l:List α} {n:Nat},Sl C v l->n<l.length->At C (fat (vat v (Elt.sz α) n) k) [f (l.getD n e)]
section
variable {w0 w:World} {L R:List Chunk}
theorem St.bq {b:Nat} {cs:List Value} {t:TypeId} (H:St w0 w L R) [h:BlkR L b cs t]:w.heap[b]?=some (.cells cs.toArray t (0,0)):=by
  obtain ⟨k,hk⟩:=h.h
  exact H.get hk
end
section
variable {P:Program} {w:World} {σ:Env} {d:Nat} {ty:TypeId} {pos:String} {af:Array Edge} {g:Option (Nat × Bool)}
theorem pos_succ {m:Nat} (h:Nat.blt 0 m=true):∃ n,m=n+1:=by
  cases m with
  | zero=>cases h
  | succ n=>exact ⟨n,rfl⟩
theorem y_fab {s k off ft m b o c:Nat} {x:Operand} (hx:ev σ x = .pointer (some ⟨b,o,none⟩)) [f:FdC P s k off ft] [z:SzC P ft m] (a:AddC o off c) (hm:Nat.blt 0 m=true) :
    (execOp (ev σ) ⟨some d,.fieldAddr s x k,ty,pos,af,g⟩).run P w = .ok (.value (.pointer (some ⟨b,c,none⟩))) w:=by
  obtain ⟨n,rfl⟩:=pos_succ hm
  have:=fa_blk (w:=w) (b:=b) (o:=o) f.h z.h
  rw [a.h] at this
  exact x_fa hx this
theorem y_fap {s k off ft m:Nat} {x:Operand} {p:Value} (hx:ev σ x=p) [f:FdC P s k off ft] [z:SzC P ft m] (hm:Nat.blt 0 m=true) (hp:∃ b o,p = .pointer (some ⟨b,o,none⟩)) :
    (execOp (ev σ) ⟨some d,.fieldAddr s x k,ty,pos,af,g⟩).run P w = .ok (.value (fat p off)) w:=by
  obtain ⟨n,rfl⟩:=pos_succ hm
  exact x_fa hx (fa_pl f.h z.h hp)
theorem y_fav {α:Type} {_:Elt α} {s k off ft m sz n:Nat} {x:Operand} {C:Cells} {v:Value} {l:List α} (hx:ev σ x=vat v sz n) [f:FdC P s k off ft] [z:SzC P ft m] (hm:Nat.blt 0 m=true) (hs:Sl C v l) (hz:Elt.sz α=sz) (h1:n<l.length) :
    (execOp (ev σ) ⟨some d,.fieldAddr s x k,ty,pos,af,g⟩).run P w = .ok (.value (fat (vat v sz n) off)) w:=by
  subst hz
  have:=Sl.pl hs (i:=(n:Int)) (by omega) (by omega)
  exact y_fap hx hm (by simpa using this)
theorem y_faw {α:Type} {_:Elt α} {s k off ft m sz n a c:Nat} {x:Operand} {C:Cells} {v:Value} {l:List α} (hx:ev σ x=fat (vat v sz n) a) [f:FdC P s k off ft] [z:SzC P ft m] (ad:AddC a off c) (hm:Nat.blt 0 m=true) (hs:Sl C v l) (hz:Elt.sz α=sz) (h1:n<l.length) :
    (execOp (ev σ) ⟨some d,.fieldAddr s x k,ty,pos,af,g⟩).run P w = .ok (.value (fat (vat v sz n) c)) w:=by
  subst hz
  obtain ⟨b,o,hp⟩:=Sl.pl hs (i:=(n:Int)) (by omega) (by omega)
  have e:vat v (Elt.sz α) n = .pointer (some ⟨b,o,none⟩):=by simpa using hp
  have:=y_fap (P:=P) (w:=w) (d:=d) (ty:=ty) (pos:=pos) (af:=af) (g:=g) hx (f:=f) (z:=z) hm ⟨b,o+a,by rw [e]; simp [fat,add_lit]⟩
  rw [this,e,← ad.h]
  simp [fat,add_lit,Nat.add_assoc]
theorem y_ldb {t:TypeId} {b off:Nat} {cs:List Value} {et:TypeId} {fr:Nat × Nat} {x:Operand} {v:Value} (hx:ev σ x = .pointer (some ⟨b,off,none⟩)) [s:ScC P t] (h:w.heap[b]?=some (.cells cs.toArray et fr)) (hv:(cs.drop off).take 1=[v]) :
    (execOp (ev σ) ⟨some d,.load t x,ty,pos,af,g⟩).run P w = .ok (.value v) w:=x_ld hx (ldb_sc s.h h hv)
theorem y_lda {t:TypeId} {b off n:Nat} {cs ds:List Value} {et:TypeId} {fr:Nat × Nat} {x:Operand} (hx:ev σ x = .pointer (some ⟨b,off,none⟩)) [s:AgC P t] [z:SzC P t n] (h:w.heap[b]?=some (.cells cs.toArray et fr)) (q:SubR cs off n ds) (hn:ds.length=n) :
    (execOp (ev σ) ⟨some d,.load t x,ty,pos,af,g⟩).run P w = .ok (.value (.agg ds.toArray)) w:=x_ld hx (ldb_ag s.h z.h h q.h hn)
theorem At.flat {α:Type} [Flat α] {C:Cells} {v:Value} {l:List α} (hs:Sl C v l) {n:Nat} (h1:n<l.length) (e:α):At C (vat v (Elt.sz α) n) (Flat.enc (l.getD n e)):=by
  obtain ⟨cs,ha,hr⟩:=hs.atI (i:=(n:Int)) (by omega) (by omega) e
  rw [Flat.rep_iff] at hr
  subst hr
  simpa using ha
theorem y_lds {α:Type} {_:Flat α} {t sz n:Nat} {x:Operand} {C:Cells} {v u:Value} {l:List α} {e:α} (hx:ev σ x=vat v sz n) [s:ScC P t] (hs:Sl C v l) {ds:List Value} (de:DfC α e) (en:EncL (l.getD n e) ds) (hz:Elt.sz α=sz) (hu:ds=[u]) (hle:C.Le w.cell?) (h1:n<l.length) :
    (execOp (ev σ) ⟨some d,.load t x,ty,pos,af,g⟩).run P w = .ok (.value u) w:=by
  subst hz
  have:=(At.flat hs h1 e).mono hle
  rw [en.h,hu] at this
  exact x_ld hx (ld_sc s.h this)
theorem y_ldf {α:Type} {_:Flat α} {t sz n k:Nat} {x:Operand} {C:Cells} {v u:Value} {l:List α} {e:α} (hx:ev σ x=fat (vat v sz n) k) [s:ScC P t] (hs:Sl C v l) {ds:List Value} (de:DfC α e) (en:EncL (l.getD n e) ds) (hz:Elt.sz α=sz) (hu:(ds.drop k).take 1=[u]) (hle:C.Le w.cell?) (h1:n<l.length) :
    (execOp (ev σ) ⟨some d,.load t x,ty,pos,af,g⟩).run P w = .ok (.value u) w:=by
  subst hz
  have:=((At.flat hs h1 e).mono hle).fld k 1
  rw [en.h,hu] at this
  exact x_ld hx (ld_sc s.h this)
theorem y_ldA {α:Type} {_:Flat α} {t sz n:Nat} {x:Operand} {C:Cells} {v:Value} {l:List α} {e:α} (hx:ev σ x=vat v sz n) [s:AgC P t] [z:SzC P t sz] (hs:Sl C v l) {ds:List Value} (de:DfC α e) (en:EncL (l.getD n e) ds) (hz:Elt.sz α=sz) (hle:C.Le w.cell?) (h1:n<l.length) :
    (execOp (ev σ) ⟨some d,.load t x,ty,pos,af,g⟩).run P w = .ok (.value (.agg ds.toArray)) w:=by
  subst hz
  have:=(At.flat hs h1 e).mono hle
  rw [en.h] at this
  refine x_ld hx (ld_ag s.h ?_ this)
  rw [z.h,← en.h,Flat.enc_len]
theorem y_ldg {α:Type} {_:Elt α} {t sz n k:Nat} {x:Operand} {C:Cells} {v:Value} {l:List α} {e:α} {f:α->Value} (hx:ev σ x=fat (vat v sz n) k) [s:ScC P t] (hs:Sl C v l) (fc:FldC α k e f) (hz:Elt.sz α=sz) (hle:C.Le w.cell?) (h1:n<l.length) :
    (execOp (ev σ) ⟨some d,.load t x,ty,pos,af,g⟩).run P w = .ok (.value (f (l.getD n e))) w:=by
  subst hz
  exact x_ld hx (ld_sc s.h ((fc.h hs h1).mono hle))
theorem y_ldp {t:TypeId} {x:Operand} {p v:Value} (hx:ev σ x=p) [s:ScC P t] (ha:At w.cell? p [v]) :
    (execOp (ev σ) ⟨some d,.load t x,ty,pos,af,g⟩).run P w = .ok (.value v) w:=x_ld hx (ld_sc s.h ha)
theorem y_len {α:Type} {_:Elt α} {t e sz by':Nat} {z:Value} {x:Operand} {C:Cells} {v:Value} {l:List α} [T:TlC P t e sz by' z] (h:ev σ x=v) (hs:Sl C v l) :
    (execOp (ev σ) ⟨some d,.call ⟨.builtin .len,#[x],#[t]⟩,ty,pos,af,g⟩).run P w = .ok (.value (.int .i64 l.length)) w:=x_lenS T.h.und h hs
theorem y_ix {α:Type} {_:Elt α} {t e sz by' n:Nat} {z:Value} {x y:Operand} {C:Cells} {v:Value} {l:List α} {kd:IntKind} {i:Int} [T:TlC P t e sz by' z] (hx:ev σ x=v) (hy:ev σ y = .int kd i) (ix:IxC i n) (hs:Sl C v l) (hz:Elt.sz α=sz) (h0:0<=i) (h1:i<l.length) :
    (execOp (ev σ) ⟨some d,.indexAddr t x y,ty,pos,af,g⟩).run P w = .ok (.value (vat v sz n)) w:=by
  subst hz
  have:=Sl.ix (w:=w) (kd:=kd) T.h.und T.h.size hs h0 h1
  rw [ix.h] at this
  exact x_ix hx hy this
end
section
variable {P:Program} {all rest:List Oper} {Q:Post} {σ:Env} {w0 w:World} {L L' R:List Chunk} {ty:TypeId} {pos:String} {af:Array Edge}
end
instance {x:Int}:EncL x [I x]:=⟨rfl⟩
instance {x:Bool}:EncL x [B x]:=⟨rfl⟩
/-- A slice that reads as a list. -/
theorem jS {A:Prop} (h:A:=by first | assumption | exact H.os 0 | exact H.os 1 | exact H.os 2 | exact H.os 3 | exact H.os 4 | exact H.os 5 | exact H.os 6 | exact H.os 7 | exact H.os 8 | exact H.os 9 | exact (by assumption:_=true->Sl _ _ _) hg):A:=h
/-- Cells that can be read. -/
theorem jL {A:Prop} (h:A:=by first | exact Reads.at (by assumption) H | exact H.ol 0 | exact H.ol 1 | exact H.ol 2 | exact H.ol 3 | exact H.ol 4 | exact H.ol 5 | exact H.ol 6 | exact H.ol 7 | exact H.ol 8 | exact H.ol 9):A:=h
/-- A bound. -/
theorem jO {A:Prop} (h:A:=by first | omega | (have hx_:=hg; simp at hx_; omega) | (have hx_:=hg; simp at hx_; simp only [hg,Bool.true_eq_false,Bool.false_eq_true,reduceCtorEq,false_or,true_or,Bool.not_true,Bool.not_false] at *; omega) | (simp only [hg,Bool.true_eq_false,Bool.false_eq_true,reduceCtorEq,false_or,true_or,Bool.not_true,Bool.not_false] at *; omega)):A:=h
/-- A guard. -/
theorem jB {A:Prop} (h:A:=by first | exact hb | (rw [hb]; rfl) | simp_all):A:=h
/-- A value under a guard, or none. -/
theorem jG {A:Prop} (h:A:=by first | exact gd_of hg _ | ((conv=>lhs; whnf) <;> rfl)):A:=h
/-- A value. -/
theorem jE {A:Prop} (h:A:=by ((conv=>lhs; whnf) <;> rfl)):A:=h
/-- One operation. -/
theorem jU {A:Prop} (h:A:=by 
    first
      | (apply x_mv; exact jE)
      | (apply x_as; exact jE)
      | (apply y_fab; rfl; exact inferInstance; rfl)
      | (apply y_ldb; rfl; exact H.bq; rfl)
      | (apply x_cmp; rfl; rfl; rfl)
      | (apply y_len; exact jE; exact jS)
      | (apply y_ix; exact jE; rfl; exact inferInstance; exact jS; rfl; exact jO; exact jO)
      | (apply y_fav; rfl; rfl; exact jS; rfl; exact jO)
      | (apply y_faw; rfl; exact inferInstance; rfl; exact jS; rfl; exact jO)
      | (apply y_lds; rfl; exact jS; exact inferInstance; exact inferInstance; rfl; rfl; exact jL; exact jO)
      | (apply y_ldf; rfl; exact jS; exact inferInstance; exact inferInstance; rfl; rfl; exact jL; exact jO)
      | (apply y_ldg; rfl; exact jS; exact inferInstance; rfl; exact jL; exact jO)
      | (apply y_ldA; rfl; exact jS; exact inferInstance; exact inferInstance; rfl; exact jL; exact jO)
      | (apply y_ldp; rfl; exact At.mono (by assumption) jL)
      | (apply x_ari; rfl; rfl; rfl; exact jO)
      | (apply x_ext; rfl; rfl)
      | (apply x_nc; rfl)
      | (apply y_lda; rfl; exact H.bq; exact inferInstance; rfl)
      | (apply y_ldb; rfl; exact (by assumption:Has _ (cBlk _ _ _)).blk H; rfl)
      | (apply x_not; rfl)
      | (apply x_max; rfl; rfl)
      | (apply x_min; rfl; rfl)
      | (apply x_quo; rfl; rfl; exact jO)
      | (apply x_por; rfl; rfl; exact fun hb=>gd_of jB _)
      | (apply x_pand; rfl; exact fun hb=>gd_of jB _; rfl)):A:=h
/-- One operation under a guard. -/
theorem jV {A:Prop} (h:A:=by 
    first
      | (apply x_mv; exact jG)
      | (apply x_as; exact jG)
      | (apply y_fab; exact jG; exact inferInstance; rfl)
      | (apply y_ldb; exact jG; exact H.bq; rfl)
      | (apply x_cmp; exact jG; exact jG; rfl)
      | (apply y_len; exact jG; exact jS)
      | (apply y_ix; exact jG; exact jG; exact inferInstance; exact jS; rfl; exact jO; exact jO)
      | (apply y_fav; exact jG; rfl; exact jS; rfl; exact jO)
      | (apply y_faw; exact jG; exact inferInstance; rfl; exact jS; rfl; exact jO)
      | (apply y_lds; exact jG; exact jS; exact inferInstance; exact inferInstance; rfl; rfl; exact jL; exact jO)
      | (apply y_ldf; exact jG; exact jS; exact inferInstance; exact inferInstance; rfl; rfl; exact jL; exact jO)
      | (apply y_ldg; exact jG; exact jS; exact inferInstance; rfl; exact jL; exact jO)
      | (apply y_ldA; exact jG; exact jS; exact inferInstance; exact inferInstance; rfl; exact jL; exact jO)
      | (apply y_ldp; exact jG; exact At.mono (by assumption) jL)
      | (apply x_ari; exact jG; exact jG; rfl; exact jO)
      | (apply x_ext; exact jG; rfl)
      | (apply x_nc; exact jG)
      | (apply y_lda; exact jG; exact H.bq; exact inferInstance; rfl)
      | (apply y_ldb; exact jG; exact (by assumption:Has _ (cBlk _ _ _)).blk H; rfl)
      | (apply x_not; exact jG)
      | (apply x_max; exact jG; exact jG)
      | (apply x_min; exact jG; exact jG)
      | (apply x_quo; exact jG; exact jG; exact jO)
      | (apply x_por; exact jG; exact jG; exact fun hb=>gd_of jB _)
      | (apply x_pand; exact jG; exact fun hb=>gd_of jB _; exact jG)):A:=h
/-- What is left. -/
structure Left (B:Prop):Prop where
  h:B
/-- How many steps are left. -/
structure Cnt (n:Nat):Prop where
  h:n=n
theorem Cnt.dn {n:Nat} (c:Cnt (n+1)):Cnt n:=⟨rfl⟩
/-- So many plain steps. -/
theorem kg {A B:Prop} (n:Nat) (q:B) (f:Cnt n->Left B->A:=by
    intro cnt q
    (repeat (replace cnt:=Cnt.dn cnt; first
      | (apply s_val; exact jU)
      | refine s_nil ?_
      | refine W.seq ?_
      | refine W.region rfl ?_
      | refine W.skip ?_
      | refine W.block ?_
      | (apply d_q; rfl; (intro w' H; exact jU))
      | (apply t_q; rfl; (intro w' H; exact jU))
      | (apply g_val; (first | exact gy_t rfl | exact gy_f rfl | exact gy_gt rfl rfl | exact gy_gf rfl rfl); (intro hg; exact jV))
      | (apply d_qg; rfl; (first | exact gy_t rfl | exact gy_f rfl | exact gy_gt rfl rfl | exact gy_gf rfl rfl); (intro hg w' H; exact jV))
      | (apply t_qg; rfl; (first | exact gy_t rfl | exact gy_f rfl | exact gy_gt rfl rfl | exact gy_gf rfl rfl); (intro hg w' H; exact jV))
      | refine t_nil ?_
      | refine d_nil ?_))
    exact q.h):A:=f ⟨rfl⟩ ⟨q⟩
end Go.Nm
namespace Go.Nm
open Go
section
variable {P:Program} {w:World} {σ:Env} {d:Nat} {ty:TypeId} {pos:String} {af:Array Edge} {g:Option (Nat × Bool)}
end
end Go.Nm
namespace Go.Nm
open Go
instance {x:Pk}:EncL x [I x.day,I x.stage]:=⟨rfl⟩
instance {x:Yr}:EncL x [I x.year,I x.lo,I x.hi]:=⟨rfl⟩
instance {x:Span}:EncL x [I x.lo,I x.hi]:=⟨rfl⟩
instance {x:Rto}:EncL x [I x.num,I x.den]:=⟨rfl⟩
instance:FldC Old10 0 default (fun x=>I x.src):=⟨fun hs h1=>by have:=Old10_at0 hs (i:=(_:Nat)) (Int.natCast_nonneg _) (Int.ofNat_lt.2 h1); exact this⟩
instance:FldC Old10 1 default (fun x=>I x.dst):=⟨fun hs h1=>by have:=Old10_at1 hs (i:=(_:Nat)) (Int.natCast_nonneg _) (Int.ofNat_lt.2 h1); exact this⟩
instance:FldC Old10 2 default (fun x=>I x.stage):=⟨fun hs h1=>by have:=Old10_at2 hs (i:=(_:Nat)) (Int.natCast_nonneg _) (Int.ofNat_lt.2 h1); exact this⟩
instance {x:FRow}:EncL x [I x.stage,I x.carry]:=⟨rfl⟩
instance:FldC Sect 0 default (fun x=>I x.place):=⟨fun hs h1=>by have:=Sect_at0 hs (i:=(_:Nat)) (Int.natCast_nonneg _) (Int.ofNat_lt.2 h1); exact this⟩
instance {x:Mrk}:EncL x [I x.place,I x.lo,I x.hi]:=⟨rfl⟩
instance {x:Rch}:EncL x [I x.up,I x.down,I x.lo,I x.hi,B x.narrow]:=⟨rfl⟩
instance {x:Cas}:EncL x [I x.up,I x.down,I x.roughup,I x.roughdown]:=⟨rfl⟩
instance {x:Spot}:EncL x [I x.sec,I x.stage]:=⟨rfl⟩
end Go.Nm
namespace Go.Proofs.YtejefipopolccaaGreat
open Go Go.Nm
theorem keyIntSp:KeyL (ν:=Span) Tryz.prog 3 I:=KeyL.int Tryz.underlying3
theorem cf4:CF Tryz.prog 4:=⟨_,Tryz.func4,rfl,by decide +kernel⟩
theorem cf5:CF Tryz.prog 5:=⟨_,Tryz.func5,rfl,by decide +kernel⟩
theorem cf6:CF Tryz.prog 6:=⟨_,Tryz.func6,rfl,by decide +kernel⟩
theorem cf7:CF Tryz.prog 7:=⟨_,Tryz.func7,rfl,by decide +kernel⟩
theorem cf8:CF Tryz.prog 8:=⟨_,Tryz.func8,rfl,by decide +kernel⟩
theorem cf9:CF Tryz.prog 9:=⟨_,Tryz.func9,rfl,by decide +kernel⟩
theorem cf10:CF Tryz.prog 10:=⟨_,Tryz.func10,rfl,by decide +kernel⟩
theorem cf11:CF Tryz.prog 11:=⟨_,Tryz.func11,rfl,by decide +kernel⟩
theorem cf12:CF Tryz.prog 12:=⟨_,Tryz.func12,rfl,by decide +kernel⟩
theorem cf13:CF Tryz.prog 13:=⟨_,Tryz.func13,rfl,by decide +kernel⟩
theorem cf14:CF Tryz.prog 14:=⟨_,Tryz.func14,rfl,by decide +kernel⟩
theorem cf15:CF Tryz.prog 15:=⟨_,Tryz.func15,rfl,by decide +kernel⟩
theorem cf16:CF Tryz.prog 16:=⟨_,Tryz.func16,rfl,by decide +kernel⟩
theorem cf17:CF Tryz.prog 17:=⟨_,Tryz.func17,rfl,by decide +kernel⟩
theorem cf18:CF Tryz.prog 18:=⟨_,Tryz.func18,rfl,by decide +kernel⟩
theorem cf19:CF Tryz.prog 19:=⟨_,Tryz.func19,rfl,by decide +kernel⟩
theorem cf20:CF Tryz.prog 20:=⟨_,Tryz.func20,rfl,by decide +kernel⟩
theorem cf21:CF Tryz.prog 21:=⟨_,Tryz.func21,rfl,by decide +kernel⟩
theorem cf22:CF Tryz.prog 22:=⟨_,Tryz.func22,rfl,by decide +kernel⟩
theorem cf23:CF Tryz.prog 23:=⟨_,Tryz.func23,rfl,by decide +kernel⟩
theorem cf24:CF Tryz.prog 24:=⟨_,Tryz.func24,rfl,by decide +kernel⟩
theorem cf25:CF Tryz.prog 25:=⟨_,Tryz.func25,rfl,by decide +kernel⟩
theorem cf26:CF Tryz.prog 26:=⟨_,Tryz.func26,rfl,by decide +kernel⟩
theorem cf27:CF Tryz.prog 27:=⟨_,Tryz.func27,rfl,by decide +kernel⟩
theorem cf28:CF Tryz.prog 28:=⟨_,Tryz.func28,rfl,by decide +kernel⟩
theorem cf29:CF Tryz.prog 29:=⟨_,Tryz.func29,rfl,by decide +kernel⟩
theorem cf30:CF Tryz.prog 30:=⟨_,Tryz.func30,rfl,by decide +kernel⟩
theorem cf31:CF Tryz.prog 31:=⟨_,Tryz.func31,rfl,by decide +kernel⟩
theorem cf32:CF Tryz.prog 32:=⟨_,Tryz.func32,rfl,by decide +kernel⟩
theorem cf33:CF Tryz.prog 33:=⟨_,Tryz.func33,rfl,by decide +kernel⟩
theorem cf34:CF Tryz.prog 34:=⟨_,Tryz.func34,rfl,by decide +kernel⟩
theorem cf35:CF Tryz.prog 35:=⟨_,Tryz.func35,rfl,by decide +kernel⟩
theorem cf36:CF Tryz.prog 36:=⟨_,Tryz.func36,rfl,by decide +kernel⟩
theorem cf37:CF Tryz.prog 37:=⟨_,Tryz.func37,rfl,by decide +kernel⟩
theorem cf38:CF Tryz.prog 38:=⟨_,Tryz.func38,rfl,by decide +kernel⟩
theorem cf39:CF Tryz.prog 39:=⟨_,Tryz.func39,rfl,by decide +kernel⟩
theorem cf40:CF Tryz.prog 40:=⟨_,Tryz.func40,rfl,by decide +kernel⟩
theorem cf41:CF Tryz.prog 41:=⟨_,Tryz.func41,rfl,by decide +kernel⟩
theorem cf42:CF Tryz.prog 42:=⟨_,Tryz.func42,rfl,by decide +kernel⟩
theorem cf43:CF Tryz.prog 43:=⟨_,Tryz.func43,rfl,by decide +kernel⟩
theorem cf44:CF Tryz.prog 44:=⟨_,Tryz.func44,rfl,by decide +kernel⟩
theorem cf45:CF Tryz.prog 45:=⟨_,Tryz.func45,rfl,by decide +kernel⟩
theorem cf46:CF Tryz.prog 46:=⟨_,Tryz.func46,rfl,by decide +kernel⟩
theorem cf47:CF Tryz.prog 47:=⟨_,Tryz.func47,rfl,by decide +kernel⟩
theorem cf48:CF Tryz.prog 48:=⟨_,Tryz.func48,rfl,by decide +kernel⟩
theorem cf49:CF Tryz.prog 49:=⟨_,Tryz.func49,rfl,by decide +kernel⟩
theorem cf50:CF Tryz.prog 50:=⟨_,Tryz.func50,rfl,by decide +kernel⟩
theorem cf51:CF Tryz.prog 51:=⟨_,Tryz.func51,rfl,by decide +kernel⟩
theorem cf52:CF Tryz.prog 52:=⟨_,Tryz.func52,rfl,by decide +kernel⟩
theorem cf53:CF Tryz.prog 53:=⟨_,Tryz.func53,rfl,by decide +kernel⟩
theorem cf54:CF Tryz.prog 54:=⟨_,Tryz.func54,rfl,by decide +kernel⟩
theorem cf55:CF Tryz.prog 55:=⟨_,Tryz.func55,rfl,by decide +kernel⟩
theorem cf56:CF Tryz.prog 56:=⟨_,Tryz.func56,rfl,by decide +kernel⟩
theorem cf57:CF Tryz.prog 57:=⟨_,Tryz.func57,rfl,by decide +kernel⟩
theorem cf58:CF Tryz.prog 58:=⟨_,Tryz.func58,rfl,by decide +kernel⟩
theorem cf59:CF Tryz.prog 59:=⟨_,Tryz.func59,rfl,by decide +kernel⟩
theorem cf60:CF Tryz.prog 60:=⟨_,Tryz.func60,rfl,by decide +kernel⟩
theorem cf61:CF Tryz.prog 61:=⟨_,Tryz.func61,rfl,by decide +kernel⟩
theorem cf62:CF Tryz.prog 62:=⟨_,Tryz.func62,rfl,by decide +kernel⟩
theorem cf63:CF Tryz.prog 63:=⟨_,Tryz.func63,rfl,by decide +kernel⟩
theorem cf64:CF Tryz.prog 64:=⟨_,Tryz.func64,rfl,by decide +kernel⟩
theorem cf65:CF Tryz.prog 65:=⟨_,Tryz.func65,rfl,by decide +kernel⟩
theorem cf66:CF Tryz.prog 66:=⟨_,Tryz.func66,rfl,by decide +kernel⟩
theorem cf67:CF Tryz.prog 67:=⟨_,Tryz.func67,rfl,by decide +kernel⟩
theorem cf68:CF Tryz.prog 68:=⟨_,Tryz.func68,rfl,by decide +kernel⟩
theorem cf69:CF Tryz.prog 69:=⟨_,Tryz.func69,rfl,by decide +kernel⟩
theorem cf70:CF Tryz.prog 70:=⟨_,Tryz.func70,rfl,by decide +kernel⟩
theorem cf71:CF Tryz.prog 71:=⟨_,Tryz.func71,rfl,by decide +kernel⟩
theorem cf72:CF Tryz.prog 72:=⟨_,Tryz.func72,rfl,by decide +kernel⟩
theorem cf73:CF Tryz.prog 73:=⟨_,Tryz.func73,rfl,by decide +kernel⟩
theorem cf74:CF Tryz.prog 74:=⟨_,Tryz.func74,rfl,by decide +kernel⟩
theorem cf75:CF Tryz.prog 75:=⟨_,Tryz.func75,rfl,by decide +kernel⟩
theorem cf76:CF Tryz.prog 76:=⟨_,Tryz.func76,rfl,by decide +kernel⟩
theorem cf77:CF Tryz.prog 77:=⟨_,Tryz.func77,rfl,by decide +kernel⟩
theorem cf78:CF Tryz.prog 78:=⟨_,Tryz.func78,rfl,by decide +kernel⟩
theorem cf79:CF Tryz.prog 79:=⟨_,Tryz.func79,rfl,by decide +kernel⟩
theorem cf80:CF Tryz.prog 80:=⟨_,Tryz.func80,rfl,by decide +kernel⟩
theorem cf81:CF Tryz.prog 81:=⟨_,Tryz.func81,rfl,by decide +kernel⟩
theorem cf82:CF Tryz.prog 82:=⟨_,Tryz.func82,rfl,by decide +kernel⟩
theorem cf83:CF Tryz.prog 83:=⟨_,Tryz.func83,rfl,by decide +kernel⟩
theorem cf86:CF Tryz.prog 86:=⟨_,Tryz.func86,rfl,by decide +kernel⟩
theorem cf87:CF Tryz.prog 87:=⟨_,Tryz.func87,rfl,by decide +kernel⟩
theorem cf88:CF Tryz.prog 88:=⟨_,Tryz.func88,rfl,by decide +kernel⟩
theorem cf89:CF Tryz.prog 89:=⟨_,Tryz.func89,rfl,by decide +kernel⟩
theorem cf90:CF Tryz.prog 90:=⟨_,Tryz.func90,rfl,by decide +kernel⟩
theorem cf102:CF Tryz.prog 102:=⟨_,Tryz.func102,rfl,by decide +kernel⟩
theorem cf103:CF Tryz.prog 103:=⟨_,Tryz.func103,rfl,by decide +kernel⟩
theorem T22:SlT Tryz.prog 22 3 1 8 (I 0):=⟨Tryz.underlying22,by kernel_rfl,rfl,by decide⟩
theorem T23:SlT Tryz.prog 23 32 2 16 (.agg #[I 0,I 0]):=⟨Tryz.underlying23,by kernel_rfl,rfl,by decide⟩
theorem T25:SlT Tryz.prog 25 36 3 24 (.agg #[I 0,I 0,I 0]):=⟨Tryz.underlying25,by kernel_rfl,rfl,by decide⟩
theorem T26:SlT Tryz.prog 26 38 4 48 (.agg #[I 0,I 0,I 0,.slice none 0 0]):=⟨Tryz.underlying26,by kernel_rfl,rfl,by decide⟩
theorem T39:SlT Tryz.prog 39 30 1 8 (.pointer none):=⟨Tryz.underlying39,by kernel_rfl,rfl,by decide⟩
theorem T57:SlT Tryz.prog 57 109 2 16 (.agg #[I 0,I 0]):=⟨Tryz.underlying57,by kernel_rfl,rfl,by decide⟩
theorem T74:SlT Tryz.prog 74 124 3 24 (.agg #[I 0,I 0,I 0]):=⟨Tryz.underlying74,by kernel_rfl,rfl,by decide⟩
theorem T75:SlT Tryz.prog 75 125 4 48 (.agg #[I 0,I 0,I 0,.slice none 0 0]):=⟨Tryz.underlying75,by kernel_rfl,rfl,by decide⟩
theorem T135:SlT Tryz.prog 135 34 2 16 (.agg #[I 0,I 0]):=⟨Tryz.underlying135,by kernel_rfl,rfl,by decide⟩
theorem Sc3:isSc (Tryz.prog.underlying 3)=true:=by rw [Tryz.underlying3]; rfl
theorem Sc4:isSc (Tryz.prog.underlying 4)=true:=by rw [Tryz.underlying4]; rfl
theorem Sc22:isSc (Tryz.prog.underlying 22)=true:=by rw [Tryz.underlying22]; rfl
theorem Sc23:isSc (Tryz.prog.underlying 23)=true:=by rw [Tryz.underlying23]; rfl
theorem Sc25:isSc (Tryz.prog.underlying 25)=true:=by rw [Tryz.underlying25]; rfl
theorem Sc26:isSc (Tryz.prog.underlying 26)=true:=by rw [Tryz.underlying26]; rfl
theorem Sc30:isSc (Tryz.prog.underlying 30)=true:=by rw [Tryz.underlying30]; rfl
theorem Sc43:isSc (Tryz.prog.underlying 43)=true:=by rw [Tryz.underlying43]; rfl
theorem Sc74:isSc (Tryz.prog.underlying 74)=true:=by rw [Tryz.underlying74]; rfl
theorem Sc75:isSc (Tryz.prog.underlying 75)=true:=by rw [Tryz.underlying75]; rfl
theorem Sc90:isSc (Tryz.prog.underlying 90)=true:=by rw [Tryz.underlying90]; rfl
theorem Sc93:isSc (Tryz.prog.underlying 93)=true:=by rw [Tryz.underlying93]; rfl
theorem Sc96:isSc (Tryz.prog.underlying 96)=true:=by rw [Tryz.underlying96]; rfl
theorem Sc102:isSc (Tryz.prog.underlying 102)=true:=by rw [Tryz.underlying102]; rfl
theorem Sc118:isSc (Tryz.prog.underlying 118)=true:=by rw [Tryz.underlying118]; rfl
theorem Sc130:isSc (Tryz.prog.underlying 130)=true:=by rw [Tryz.underlying130]; rfl
theorem Sz3:(Tryz.prog.info? 3).map (·.size)=some 1:=by kernel_rfl
theorem Sz4:(Tryz.prog.info? 4).map (·.size)=some 1:=by kernel_rfl
theorem Sz22:(Tryz.prog.info? 22).map (·.size)=some 1:=by kernel_rfl
theorem Sz25:(Tryz.prog.info? 25).map (·.size)=some 1:=by kernel_rfl
theorem Sz26:(Tryz.prog.info? 26).map (·.size)=some 1:=by kernel_rfl
theorem Ag28:isAg (Tryz.prog.underlying 28)=true:=by rw [Tryz.underlying28]; rfl
theorem Sz28:(Tryz.prog.info? 28).map (·.size)=some 4:=by kernel_rfl
theorem Ag32:isAg (Tryz.prog.underlying 32)=true:=by rw [Tryz.underlying32]; rfl
theorem Sz32:(Tryz.prog.info? 32).map (·.size)=some 2:=by kernel_rfl
theorem Ag34:isAg (Tryz.prog.underlying 34)=true:=by rw [Tryz.underlying34]; rfl
theorem Sz34:(Tryz.prog.info? 34).map (·.size)=some 2:=by kernel_rfl
theorem Ag36:isAg (Tryz.prog.underlying 36)=true:=by rw [Tryz.underlying36]; rfl
theorem Sz36:(Tryz.prog.info? 36).map (·.size)=some 3:=by kernel_rfl
theorem Ag38:isAg (Tryz.prog.underlying 38)=true:=by rw [Tryz.underlying38]; rfl
theorem Sz38:(Tryz.prog.info? 38).map (·.size)=some 4:=by kernel_rfl
theorem Sz43:(Tryz.prog.info? 43).map (·.size)=some 1:=by kernel_rfl
theorem Ag51:isAg (Tryz.prog.underlying 51)=true:=by rw [Tryz.underlying51]; rfl
theorem Sz51:(Tryz.prog.info? 51).map (·.size)=some 2:=by kernel_rfl
theorem Sz74:(Tryz.prog.info? 74).map (·.size)=some 1:=by kernel_rfl
theorem Sz75:(Tryz.prog.info? 75).map (·.size)=some 1:=by kernel_rfl
theorem Ag77:isAg (Tryz.prog.underlying 77)=true:=by rw [Tryz.underlying77]; rfl
theorem Sz77:(Tryz.prog.info? 77).map (·.size)=some 4:=by kernel_rfl
theorem Sz93:(Tryz.prog.info? 93).map (·.size)=some 1:=by kernel_rfl
theorem Sz96:(Tryz.prog.info? 96).map (·.size)=some 1:=by kernel_rfl
theorem Sz102:(Tryz.prog.info? 102).map (·.size)=some 1:=by kernel_rfl
theorem Ag104:isAg (Tryz.prog.underlying 104)=true:=by rw [Tryz.underlying104]; rfl
theorem Sz104:(Tryz.prog.info? 104).map (·.size)=some 1:=by kernel_rfl
theorem Ag109:isAg (Tryz.prog.underlying 109)=true:=by rw [Tryz.underlying109]; rfl
theorem Sz109:(Tryz.prog.info? 109).map (·.size)=some 2:=by kernel_rfl
theorem Sz118:(Tryz.prog.info? 118).map (·.size)=some 1:=by kernel_rfl
theorem Ag124:isAg (Tryz.prog.underlying 124)=true:=by rw [Tryz.underlying124]; rfl
theorem Sz124:(Tryz.prog.info? 124).map (·.size)=some 3:=by kernel_rfl
theorem Ag125:isAg (Tryz.prog.underlying 125)=true:=by rw [Tryz.underlying125]; rfl
theorem Sz125:(Tryz.prog.info? 125).map (·.size)=some 4:=by kernel_rfl
theorem Sz130:(Tryz.prog.info? 130).map (·.size)=some 1:=by kernel_rfl
theorem Fd28_0:(Tryz.prog.underlying 28).bind (fun d=>match d with | .struct fs=>(fs[0]?).map (fun f=>(f.offset,f.type)) | _=>none)=some (0,25):=by rw [Tryz.underlying28]; rfl
theorem Fd28_1:(Tryz.prog.underlying 28).bind (fun d=>match d with | .struct fs=>(fs[1]?).map (fun f=>(f.offset,f.type)) | _=>none)=some (1,26):=by rw [Tryz.underlying28]; rfl
theorem Fd28_2:(Tryz.prog.underlying 28).bind (fun d=>match d with | .struct fs=>(fs[2]?).map (fun f=>(f.offset,f.type)) | _=>none)=some (2,3):=by rw [Tryz.underlying28]; rfl
theorem Fd28_3:(Tryz.prog.underlying 28).bind (fun d=>match d with | .struct fs=>(fs[3]?).map (fun f=>(f.offset,f.type)) | _=>none)=some (3,3):=by rw [Tryz.underlying28]; rfl
theorem Fd32_0:(Tryz.prog.underlying 32).bind (fun d=>match d with | .struct fs=>(fs[0]?).map (fun f=>(f.offset,f.type)) | _=>none)=some (0,3):=by rw [Tryz.underlying32]; rfl
theorem Fd32_1:(Tryz.prog.underlying 32).bind (fun d=>match d with | .struct fs=>(fs[1]?).map (fun f=>(f.offset,f.type)) | _=>none)=some (1,3):=by rw [Tryz.underlying32]; rfl
theorem Fd34_0:(Tryz.prog.underlying 34).bind (fun d=>match d with | .struct fs=>(fs[0]?).map (fun f=>(f.offset,f.type)) | _=>none)=some (0,3):=by rw [Tryz.underlying34]; rfl
theorem Fd34_1:(Tryz.prog.underlying 34).bind (fun d=>match d with | .struct fs=>(fs[1]?).map (fun f=>(f.offset,f.type)) | _=>none)=some (1,3):=by rw [Tryz.underlying34]; rfl
theorem Fd36_0:(Tryz.prog.underlying 36).bind (fun d=>match d with | .struct fs=>(fs[0]?).map (fun f=>(f.offset,f.type)) | _=>none)=some (0,3):=by rw [Tryz.underlying36]; rfl
theorem Fd36_1:(Tryz.prog.underlying 36).bind (fun d=>match d with | .struct fs=>(fs[1]?).map (fun f=>(f.offset,f.type)) | _=>none)=some (1,34):=by rw [Tryz.underlying36]; rfl
theorem Fd38_0:(Tryz.prog.underlying 38).bind (fun d=>match d with | .struct fs=>(fs[0]?).map (fun f=>(f.offset,f.type)) | _=>none)=some (0,3):=by rw [Tryz.underlying38]; rfl
theorem Fd38_1:(Tryz.prog.underlying 38).bind (fun d=>match d with | .struct fs=>(fs[1]?).map (fun f=>(f.offset,f.type)) | _=>none)=some (1,3):=by rw [Tryz.underlying38]; rfl
theorem Fd38_2:(Tryz.prog.underlying 38).bind (fun d=>match d with | .struct fs=>(fs[2]?).map (fun f=>(f.offset,f.type)) | _=>none)=some (2,3):=by rw [Tryz.underlying38]; rfl
theorem Fd38_3:(Tryz.prog.underlying 38).bind (fun d=>match d with | .struct fs=>(fs[3]?).map (fun f=>(f.offset,f.type)) | _=>none)=some (3,22):=by rw [Tryz.underlying38]; rfl
theorem Fd51_0:(Tryz.prog.underlying 51).bind (fun d=>match d with | .struct fs=>(fs[0]?).map (fun f=>(f.offset,f.type)) | _=>none)=some (0,3):=by rw [Tryz.underlying51]; rfl
theorem Fd51_1:(Tryz.prog.underlying 51).bind (fun d=>match d with | .struct fs=>(fs[1]?).map (fun f=>(f.offset,f.type)) | _=>none)=some (1,3):=by rw [Tryz.underlying51]; rfl
theorem Fd77_0:(Tryz.prog.underlying 77).bind (fun d=>match d with | .struct fs=>(fs[0]?).map (fun f=>(f.offset,f.type)) | _=>none)=some (0,74):=by rw [Tryz.underlying77]; rfl
theorem Fd77_1:(Tryz.prog.underlying 77).bind (fun d=>match d with | .struct fs=>(fs[1]?).map (fun f=>(f.offset,f.type)) | _=>none)=some (1,75):=by rw [Tryz.underlying77]; rfl
theorem Fd77_2:(Tryz.prog.underlying 77).bind (fun d=>match d with | .struct fs=>(fs[2]?).map (fun f=>(f.offset,f.type)) | _=>none)=some (2,3):=by rw [Tryz.underlying77]; rfl
theorem Fd77_3:(Tryz.prog.underlying 77).bind (fun d=>match d with | .struct fs=>(fs[3]?).map (fun f=>(f.offset,f.type)) | _=>none)=some (3,3):=by rw [Tryz.underlying77]; rfl
theorem Fd98_0:(Tryz.prog.underlying 98).bind (fun d=>match d with | .struct fs=>(fs[0]?).map (fun f=>(f.offset,f.type)) | _=>none)=some (0,3):=by rw [Tryz.underlying98]; rfl
theorem Fd104_0:(Tryz.prog.underlying 104).bind (fun d=>match d with | .struct fs=>(fs[0]?).map (fun f=>(f.offset,f.type)) | _=>none)=some (0,102):=by rw [Tryz.underlying104]; rfl
theorem Fd109_0:(Tryz.prog.underlying 109).bind (fun d=>match d with | .struct fs=>(fs[0]?).map (fun f=>(f.offset,f.type)) | _=>none)=some (0,3):=by rw [Tryz.underlying109]; rfl
theorem Fd109_1:(Tryz.prog.underlying 109).bind (fun d=>match d with | .struct fs=>(fs[1]?).map (fun f=>(f.offset,f.type)) | _=>none)=some (1,3):=by rw [Tryz.underlying109]; rfl
theorem Fd124_0:(Tryz.prog.underlying 124).bind (fun d=>match d with | .struct fs=>(fs[0]?).map (fun f=>(f.offset,f.type)) | _=>none)=some (0,3):=by rw [Tryz.underlying124]; rfl
theorem Fd124_1:(Tryz.prog.underlying 124).bind (fun d=>match d with | .struct fs=>(fs[1]?).map (fun f=>(f.offset,f.type)) | _=>none)=some (1,34):=by rw [Tryz.underlying124]; rfl
theorem Fd125_0:(Tryz.prog.underlying 125).bind (fun d=>match d with | .struct fs=>(fs[0]?).map (fun f=>(f.offset,f.type)) | _=>none)=some (0,3):=by rw [Tryz.underlying125]; rfl
theorem Fd125_1:(Tryz.prog.underlying 125).bind (fun d=>match d with | .struct fs=>(fs[1]?).map (fun f=>(f.offset,f.type)) | _=>none)=some (1,3):=by rw [Tryz.underlying125]; rfl
theorem Fd125_2:(Tryz.prog.underlying 125).bind (fun d=>match d with | .struct fs=>(fs[2]?).map (fun f=>(f.offset,f.type)) | _=>none)=some (2,3):=by rw [Tryz.underlying125]; rfl
theorem Fd125_3:(Tryz.prog.underlying 125).bind (fun d=>match d with | .struct fs=>(fs[3]?).map (fun f=>(f.offset,f.type)) | _=>none)=some (3,22):=by rw [Tryz.underlying125]; rfl
theorem Fd132_0:(Tryz.prog.underlying 132).bind (fun d=>match d with | .struct fs=>(fs[0]?).map (fun f=>(f.offset,f.type)) | _=>none)=some (0,28):=by rw [Tryz.underlying132]; rfl
theorem Fd132_1:(Tryz.prog.underlying 132).bind (fun d=>match d with | .struct fs=>(fs[1]?).map (fun f=>(f.offset,f.type)) | _=>none)=some (4,130):=by rw [Tryz.underlying132]; rfl
theorem Al3:(Tryz.prog.info? 3).map (·.zero)=some (some (I 0)):=by kernel_rfl
theorem Al4:(Tryz.prog.info? 4).map (·.zero)=some (some (B false)):=by kernel_rfl
theorem Al22:(Tryz.prog.info? 22).map (·.zero)=some (some (.slice none 0 0)):=by kernel_rfl
theorem Al28:(Tryz.prog.info? 28).map (·.zero)=some (some (.agg #[.slice none 0 0,.slice none 0 0,I 0,I 0])):=by kernel_rfl
theorem Al32:(Tryz.prog.info? 32).map (·.zero)=some (some (.agg #[I 0,I 0])):=by kernel_rfl
theorem Al34:(Tryz.prog.info? 34).map (·.zero)=some (some (.agg #[I 0,I 0])):=by kernel_rfl
theorem Al36:(Tryz.prog.info? 36).map (·.zero)=some (some (.agg #[I 0,I 0,I 0])):=by kernel_rfl
theorem Al38:(Tryz.prog.info? 38).map (·.zero)=some (some (.agg #[I 0,I 0,I 0,.slice none 0 0])):=by kernel_rfl
theorem Al43:(Tryz.prog.info? 43).map (·.zero)=some (some (I 0)):=by kernel_rfl
theorem Al51:(Tryz.prog.info? 51).map (·.zero)=some (some (.agg #[I 0,I 0])):=by kernel_rfl
theorem Al77:(Tryz.prog.info? 77).map (·.zero)=some (some (.agg #[.slice none 0 0,.slice none 0 0,I 0,I 0])):=by kernel_rfl
theorem Al93:(Tryz.prog.info? 93).map (·.zero)=some (some (.pointer none)):=by kernel_rfl
theorem Al96:(Tryz.prog.info? 96).map (·.zero)=some (some (.nilFunc)):=by kernel_rfl
theorem Al98:(Tryz.prog.info? 98).map (·.zero)=some (some (.agg #[I 0])):=by kernel_rfl
theorem Al104:(Tryz.prog.info? 104).map (·.zero)=some (some (.agg #[.nilFunc])):=by kernel_rfl
theorem Al109:(Tryz.prog.info? 109).map (·.zero)=some (some (.agg #[I 0,I 0])):=by kernel_rfl
theorem Al118:(Tryz.prog.info? 118).map (·.zero)=some (some (.nilFunc)):=by kernel_rfl
theorem Al124:(Tryz.prog.info? 124).map (·.zero)=some (some (.agg #[I 0,I 0,I 0])):=by kernel_rfl
theorem Al125:(Tryz.prog.info? 125).map (·.zero)=some (some (.agg #[I 0,I 0,I 0,.slice none 0 0])):=by kernel_rfl
theorem Al132:(Tryz.prog.info? 132).map (·.zero)=some (some (.agg #[.slice none 0 0,.slice none 0 0,I 0,I 0,.map none])):=by kernel_rfl
theorem Bd28 {fs:Array Field} (h:Tryz.prog.underlying 28=some (.struct fs)):fs.toList.mapM (fun f=>(Tryz.prog.info? f.type).map fun i=>(f.offset,i.size))=some [(0,1),(1,1),(2,1),(3,1)]:=by rw [Tryz.underlying28] at h; simp only [Option.some.injEq,TypeDesc.struct.injEq] at h; subst h; kernel_rfl
theorem Bd32 {fs:Array Field} (h:Tryz.prog.underlying 32=some (.struct fs)):fs.toList.mapM (fun f=>(Tryz.prog.info? f.type).map fun i=>(f.offset,i.size))=some [(0,1),(1,1)]:=by rw [Tryz.underlying32] at h; simp only [Option.some.injEq,TypeDesc.struct.injEq] at h; subst h; kernel_rfl
theorem Bd34 {fs:Array Field} (h:Tryz.prog.underlying 34=some (.struct fs)):fs.toList.mapM (fun f=>(Tryz.prog.info? f.type).map fun i=>(f.offset,i.size))=some [(0,1),(1,1)]:=by rw [Tryz.underlying34] at h; simp only [Option.some.injEq,TypeDesc.struct.injEq] at h; subst h; kernel_rfl
theorem Bd36 {fs:Array Field} (h:Tryz.prog.underlying 36=some (.struct fs)):fs.toList.mapM (fun f=>(Tryz.prog.info? f.type).map fun i=>(f.offset,i.size))=some [(0,1),(1,2)]:=by rw [Tryz.underlying36] at h; simp only [Option.some.injEq,TypeDesc.struct.injEq] at h; subst h; kernel_rfl
theorem Bd38 {fs:Array Field} (h:Tryz.prog.underlying 38=some (.struct fs)):fs.toList.mapM (fun f=>(Tryz.prog.info? f.type).map fun i=>(f.offset,i.size))=some [(0,1),(1,1),(2,1),(3,1)]:=by rw [Tryz.underlying38] at h; simp only [Option.some.injEq,TypeDesc.struct.injEq] at h; subst h; kernel_rfl
theorem Bd51 {fs:Array Field} (h:Tryz.prog.underlying 51=some (.struct fs)):fs.toList.mapM (fun f=>(Tryz.prog.info? f.type).map fun i=>(f.offset,i.size))=some [(0,1),(1,1)]:=by rw [Tryz.underlying51] at h; simp only [Option.some.injEq,TypeDesc.struct.injEq] at h; subst h; kernel_rfl
theorem Bd77 {fs:Array Field} (h:Tryz.prog.underlying 77=some (.struct fs)):fs.toList.mapM (fun f=>(Tryz.prog.info? f.type).map fun i=>(f.offset,i.size))=some [(0,1),(1,1),(2,1),(3,1)]:=by rw [Tryz.underlying77] at h; simp only [Option.some.injEq,TypeDesc.struct.injEq] at h; subst h; kernel_rfl
theorem Bd98 {fs:Array Field} (h:Tryz.prog.underlying 98=some (.struct fs)):fs.toList.mapM (fun f=>(Tryz.prog.info? f.type).map fun i=>(f.offset,i.size))=some [(0,1)]:=by rw [Tryz.underlying98] at h; simp only [Option.some.injEq,TypeDesc.struct.injEq] at h; subst h; kernel_rfl
theorem Bd104 {fs:Array Field} (h:Tryz.prog.underlying 104=some (.struct fs)):fs.toList.mapM (fun f=>(Tryz.prog.info? f.type).map fun i=>(f.offset,i.size))=some [(0,1)]:=by rw [Tryz.underlying104] at h; simp only [Option.some.injEq,TypeDesc.struct.injEq] at h; subst h; kernel_rfl
theorem Bd132 {fs:Array Field} (h:Tryz.prog.underlying 132=some (.struct fs)):fs.toList.mapM (fun f=>(Tryz.prog.info? f.type).map fun i=>(f.offset,i.size))=some [(0,4),(4,1)]:=by rw [Tryz.underlying132] at h; simp only [Option.some.injEq,TypeDesc.struct.injEq] at h; subst h; kernel_rfl
theorem mixed:Tryz.prog.follows .mixedOrders=true:=by kernel_rfl
theorem Al113:(Tryz.prog.info? 113).map (·.zero)=some (some (.agg (List.flatten [[],encF (α:=Int) (List.replicate 41 0)]).toArray)):=by kernel_rfl

instance:TlC Tryz.prog 22 3 1 8 (I 0):=⟨T22⟩
instance:TlC Tryz.prog 23 32 2 16 (.agg #[I 0,I 0]):=⟨T23⟩
instance:TlC Tryz.prog 25 36 3 24 (.agg #[I 0,I 0,I 0]):=⟨T25⟩
instance:TlC Tryz.prog 26 38 4 48 (.agg #[I 0,I 0,I 0,.slice none 0 0]):=⟨T26⟩
instance:TlC Tryz.prog 39 30 1 8 (.pointer none):=⟨T39⟩
instance:TlC Tryz.prog 57 109 2 16 (.agg #[I 0,I 0]):=⟨T57⟩
instance:TlC Tryz.prog 74 124 3 24 (.agg #[I 0,I 0,I 0]):=⟨T74⟩
instance:TlC Tryz.prog 75 125 4 48 (.agg #[I 0,I 0,I 0,.slice none 0 0]):=⟨T75⟩
instance:TlC Tryz.prog 135 34 2 16 (.agg #[I 0,I 0]):=⟨T135⟩
instance:ScC Tryz.prog 3:=⟨Sc3⟩
instance:ScC Tryz.prog 4:=⟨Sc4⟩
instance:ScC Tryz.prog 22:=⟨Sc22⟩
instance:ScC Tryz.prog 23:=⟨Sc23⟩
instance:ScC Tryz.prog 25:=⟨Sc25⟩
instance:ScC Tryz.prog 26:=⟨Sc26⟩
instance:ScC Tryz.prog 30:=⟨Sc30⟩
instance:ScC Tryz.prog 43:=⟨Sc43⟩
instance:ScC Tryz.prog 74:=⟨Sc74⟩
instance:ScC Tryz.prog 75:=⟨Sc75⟩
instance:ScC Tryz.prog 90:=⟨Sc90⟩
instance:ScC Tryz.prog 93:=⟨Sc93⟩
instance:ScC Tryz.prog 96:=⟨Sc96⟩
instance:ScC Tryz.prog 102:=⟨Sc102⟩
instance:ScC Tryz.prog 118:=⟨Sc118⟩
instance:ScC Tryz.prog 130:=⟨Sc130⟩
instance:SzC Tryz.prog 3 1:=⟨Sz3⟩
instance:SzC Tryz.prog 4 1:=⟨Sz4⟩
instance:SzC Tryz.prog 22 1:=⟨Sz22⟩
instance:SzC Tryz.prog 25 1:=⟨Sz25⟩
instance:SzC Tryz.prog 26 1:=⟨Sz26⟩
instance:AgC Tryz.prog 28:=⟨Ag28⟩
instance:SzC Tryz.prog 28 4:=⟨Sz28⟩
instance:AgC Tryz.prog 32:=⟨Ag32⟩
instance:SzC Tryz.prog 32 2:=⟨Sz32⟩
instance:AgC Tryz.prog 34:=⟨Ag34⟩
instance:SzC Tryz.prog 34 2:=⟨Sz34⟩
instance:AgC Tryz.prog 36:=⟨Ag36⟩
instance:SzC Tryz.prog 36 3:=⟨Sz36⟩
instance:AgC Tryz.prog 38:=⟨Ag38⟩
instance:SzC Tryz.prog 38 4:=⟨Sz38⟩
instance:SzC Tryz.prog 43 1:=⟨Sz43⟩
instance:AgC Tryz.prog 51:=⟨Ag51⟩
instance:SzC Tryz.prog 51 2:=⟨Sz51⟩
instance:SzC Tryz.prog 74 1:=⟨Sz74⟩
instance:SzC Tryz.prog 75 1:=⟨Sz75⟩
instance:AgC Tryz.prog 77:=⟨Ag77⟩
instance:SzC Tryz.prog 77 4:=⟨Sz77⟩
instance:SzC Tryz.prog 93 1:=⟨Sz93⟩
instance:SzC Tryz.prog 96 1:=⟨Sz96⟩
instance:SzC Tryz.prog 102 1:=⟨Sz102⟩
instance:AgC Tryz.prog 104:=⟨Ag104⟩
instance:SzC Tryz.prog 104 1:=⟨Sz104⟩
instance:AgC Tryz.prog 109:=⟨Ag109⟩
instance:SzC Tryz.prog 109 2:=⟨Sz109⟩
instance:SzC Tryz.prog 118 1:=⟨Sz118⟩
instance:AgC Tryz.prog 124:=⟨Ag124⟩
instance:SzC Tryz.prog 124 3:=⟨Sz124⟩
instance:AgC Tryz.prog 125:=⟨Ag125⟩
instance:SzC Tryz.prog 125 4:=⟨Sz125⟩
instance:SzC Tryz.prog 130 1:=⟨Sz130⟩
instance:FdC Tryz.prog 28 0 0 25:=⟨Fd28_0⟩
instance:FdC Tryz.prog 28 1 1 26:=⟨Fd28_1⟩
instance:FdC Tryz.prog 28 2 2 3:=⟨Fd28_2⟩
instance:FdC Tryz.prog 28 3 3 3:=⟨Fd28_3⟩
instance:FdC Tryz.prog 32 0 0 3:=⟨Fd32_0⟩
instance:FdC Tryz.prog 32 1 1 3:=⟨Fd32_1⟩
instance:FdC Tryz.prog 34 0 0 3:=⟨Fd34_0⟩
instance:FdC Tryz.prog 34 1 1 3:=⟨Fd34_1⟩
instance:FdC Tryz.prog 36 0 0 3:=⟨Fd36_0⟩
instance:FdC Tryz.prog 36 1 1 34:=⟨Fd36_1⟩
instance:FdC Tryz.prog 38 0 0 3:=⟨Fd38_0⟩
instance:FdC Tryz.prog 38 1 1 3:=⟨Fd38_1⟩
instance:FdC Tryz.prog 38 2 2 3:=⟨Fd38_2⟩
instance:FdC Tryz.prog 38 3 3 22:=⟨Fd38_3⟩
instance:FdC Tryz.prog 51 0 0 3:=⟨Fd51_0⟩
instance:FdC Tryz.prog 51 1 1 3:=⟨Fd51_1⟩
instance:FdC Tryz.prog 77 0 0 74:=⟨Fd77_0⟩
instance:FdC Tryz.prog 77 1 1 75:=⟨Fd77_1⟩
instance:FdC Tryz.prog 77 2 2 3:=⟨Fd77_2⟩
instance:FdC Tryz.prog 77 3 3 3:=⟨Fd77_3⟩
instance:FdC Tryz.prog 98 0 0 3:=⟨Fd98_0⟩
instance:FdC Tryz.prog 104 0 0 102:=⟨Fd104_0⟩
instance:FdC Tryz.prog 109 0 0 3:=⟨Fd109_0⟩
instance:FdC Tryz.prog 109 1 1 3:=⟨Fd109_1⟩
instance:FdC Tryz.prog 124 0 0 3:=⟨Fd124_0⟩
instance:FdC Tryz.prog 124 1 1 34:=⟨Fd124_1⟩
instance:FdC Tryz.prog 125 0 0 3:=⟨Fd125_0⟩
instance:FdC Tryz.prog 125 1 1 3:=⟨Fd125_1⟩
instance:FdC Tryz.prog 125 2 2 3:=⟨Fd125_2⟩
instance:FdC Tryz.prog 125 3 3 22:=⟨Fd125_3⟩
instance:FdC Tryz.prog 132 0 0 28:=⟨Fd132_0⟩
instance:FdC Tryz.prog 132 1 4 130:=⟨Fd132_1⟩
instance:AlC Tryz.prog 3 (I 0):=⟨Al3⟩
instance:AlC Tryz.prog 4 (B false):=⟨Al4⟩
instance:AlC Tryz.prog 22 (.slice none 0 0):=⟨Al22⟩
instance:AlC Tryz.prog 28 (.agg #[.slice none 0 0,.slice none 0 0,I 0,I 0]):=⟨Al28⟩
instance:AlC Tryz.prog 32 (.agg #[I 0,I 0]):=⟨Al32⟩
instance:AlC Tryz.prog 34 (.agg #[I 0,I 0]):=⟨Al34⟩
instance:AlC Tryz.prog 36 (.agg #[I 0,I 0,I 0]):=⟨Al36⟩
instance:AlC Tryz.prog 38 (.agg #[I 0,I 0,I 0,.slice none 0 0]):=⟨Al38⟩
instance:AlC Tryz.prog 43 (I 0):=⟨Al43⟩
instance:AlC Tryz.prog 51 (.agg #[I 0,I 0]):=⟨Al51⟩
instance:AlC Tryz.prog 77 (.agg #[.slice none 0 0,.slice none 0 0,I 0,I 0]):=⟨Al77⟩
instance:AlC Tryz.prog 93 (.pointer none):=⟨Al93⟩
instance:AlC Tryz.prog 96 (.nilFunc):=⟨Al96⟩
instance:AlC Tryz.prog 98 (.agg #[I 0]):=⟨Al98⟩
instance:AlC Tryz.prog 104 (.agg #[.nilFunc]):=⟨Al104⟩
instance:AlC Tryz.prog 109 (.agg #[I 0,I 0]):=⟨Al109⟩
instance:AlC Tryz.prog 118 (.nilFunc):=⟨Al118⟩
instance:AlC Tryz.prog 124 (.agg #[I 0,I 0,I 0]):=⟨Al124⟩
instance:AlC Tryz.prog 125 (.agg #[I 0,I 0,I 0,.slice none 0 0]):=⟨Al125⟩
instance:AlC Tryz.prog 132 (.agg #[.slice none 0 0,.slice none 0 0,I 0,I 0,.map none]):=⟨Al132⟩
instance:BdC Tryz.prog 28 [(0,1),(1,1),(2,1),(3,1)]:=⟨_,Tryz.underlying28,Bd28 Tryz.underlying28⟩
instance:BdC Tryz.prog 32 [(0,1),(1,1)]:=⟨_,Tryz.underlying32,Bd32 Tryz.underlying32⟩
instance:BdC Tryz.prog 34 [(0,1),(1,1)]:=⟨_,Tryz.underlying34,Bd34 Tryz.underlying34⟩
instance:BdC Tryz.prog 36 [(0,1),(1,2)]:=⟨_,Tryz.underlying36,Bd36 Tryz.underlying36⟩
instance:BdC Tryz.prog 38 [(0,1),(1,1),(2,1),(3,1)]:=⟨_,Tryz.underlying38,Bd38 Tryz.underlying38⟩
instance:BdC Tryz.prog 51 [(0,1),(1,1)]:=⟨_,Tryz.underlying51,Bd51 Tryz.underlying51⟩
instance:BdC Tryz.prog 77 [(0,1),(1,1),(2,1),(3,1)]:=⟨_,Tryz.underlying77,Bd77 Tryz.underlying77⟩
instance:BdC Tryz.prog 98 [(0,1)]:=⟨_,Tryz.underlying98,Bd98 Tryz.underlying98⟩
instance:BdC Tryz.prog 104 [(0,1)]:=⟨_,Tryz.underlying104,Bd104 Tryz.underlying104⟩
instance:BdC Tryz.prog 132 [(0,4),(4,1)]:=⟨_,Tryz.underlying132,Bd132 Tryz.underlying132⟩
instance:AlC Tryz.prog 113 (.agg (List.flatten [[],encF (α:=Int) (List.replicate 41 0)]).toArray):=⟨Al113⟩
end Go.Proofs.YtejefipopolccaaGreat
section
set_option maxRecDepth 100000
set_option maxHeartbeats 16000000
namespace Go.Proofs.YtejefipopolccaaGreat
open Go Go.Nm
attribute [local irreducible] gd execOp SL SLD SLT WR
def zaF:M (List Pk) :=
  M.pure ([(⟨(10:Int),(300:Int)⟩:Pk),(⟨(14:Int),(350:Int)⟩:Pk),(⟨(19:Int),(320:Int)⟩:Pk),(⟨(40:Int),(280:Int)⟩:Pk)])
theorem zcj {R:List Chunk}    {r:(List Pk)} (hM:(zaF).Ends r) (w:World) (H:St w w [] R):Ret Tryz.prog 4 #[] w fun v w'=>∃ (y0:List Pk) (u0:Value),y0=r/\v=u0/\St w w' [cOwn (α:=Pk) 32 u0 y0] R:=by
 refine ret_of_W Tryz.func4 rfl rfl rfl ?_
 refine kg 6 ?_
 refine s_val (x_bld (ps:=[(0,I 10),(1,I 300)]) (zs:=[I 0,I 0]) (L':=[I 10,I 300]) rfl Tryz.underlying32 Al32 rfl (Bd32 Tryz.underlying32) (.cons (cs:=[I 10]) rfl rfl rfl rfl rfl<|.cons (cs:=[I 300]) rfl rfl rfl rfl rfl<|.nil)) ?_
 refine s_val (x_bld (ps:=[(0,I 14),(1,I 350)]) (zs:=[I 0,I 0]) (L':=[I 14,I 350]) rfl Tryz.underlying32 Al32 rfl (Bd32 Tryz.underlying32) (.cons (cs:=[I 14]) rfl rfl rfl rfl rfl<|.cons (cs:=[I 350]) rfl rfl rfl rfl rfl<|.nil)) ?_
 refine s_val (x_bld (ps:=[(0,I 19),(1,I 320)]) (zs:=[I 0,I 0]) (L':=[I 19,I 320]) rfl Tryz.underlying32 Al32 rfl (Bd32 Tryz.underlying32) (.cons (cs:=[I 19]) rfl rfl rfl rfl rfl<|.cons (cs:=[I 320]) rfl rfl rfl rfl rfl<|.nil)) ?_
 refine s_val (x_bld (ps:=[(0,I 40),(1,I 280)]) (zs:=[I 0,I 0]) (L':=[I 40,I 280]) rfl Tryz.underlying32 Al32 rfl (Bd32 Tryz.underlying32) (.cons (cs:=[I 40]) rfl rfl rfl rfl rfl<|.cons (cs:=[I 280]) rfl rfl rfl rfl rfl<|.nil)) ?_
 refine t_bs (α:=Pk) T23 [.agg #[I 10,I 300],.agg #[I 14,I 350],.agg #[I 19,I 320],.agg #[I 40,I 280]] [(⟨(10:Int),(300:Int)⟩:Pk),(⟨(14:Int),(350:Int)⟩:Pk),(⟨(19:Int),(320:Int)⟩:Pk),(⟨(40:Int),(280:Int)⟩:Pk)] H rfl (.cons rfl (Flat.rep_enc _ (⟨(10:Int),(300:Int)⟩:Pk))<|.cons rfl (Flat.rep_enc _ (⟨(14:Int),(350:Int)⟩:Pk))<|.cons rfl (Flat.rep_enc _ (⟨(19:Int),(320:Int)⟩:Pk))<|.cons rfl (Flat.rep_enc _ (⟨(40:Int),(280:Int)⟩:Pk))<|.nil) rfl rfl rfl ?_
 intro v1z w2z H
 refine kg 2 ?_
 refine W.ret ?_
 have hr_:=M.e_pure hM
 exact ⟨_,resE_tmp rfl,⟨([(⟨(10:Int),(300:Int)⟩:Pk),(⟨(14:Int),(350:Int)⟩:Pk),(⟨(19:Int),(320:Int)⟩:Pk),(⟨(40:Int),(280:Int)⟩:Pk)]),v1z,hr_,rfl,H⟩⟩

def zab (n:Int) (least:Int) (greatest:Int):M Bool :=
  M.pure ((decide (least<=n))&&(decide (n<=greatest)))
theorem zad {R:List Chunk}  (n:Int) (least:Int) (greatest:Int)  {r:Bool} (hM:(zab n least greatest).Ends r) (w:World) (H:St w w [] R):Ret Tryz.prog 45 #[I n,I least,I greatest] w fun v w'=>∃ (y0:Bool),y0=r/\v=B y0/\St w w' [] R:=by
 refine ret_of_W Tryz.func45 rfl rfl rfl ?_
 refine kg 16 ?_
 refine W.ret ?_
 have hr_:=M.e_pure hM
 exact ⟨_,resE_tmp rfl,⟨((decide (least<=n))&&(decide (n<=greatest))),hr_,rfl,H⟩⟩

def zcT (b_Years:List Yr) (b_Olds:List Old10) (b_First:Int) (b_Last:Int) (x2:Pk):M Bool :=
  M.bind (zab x2.day 0 4000) fun r2 =>
  M.bind (M.opt r2 (zab x2.stage 0 2000) false) fun r3 =>
  M.pure (r2&&r3)
theorem zdU {R:List Chunk} {C_b_Years:Cells} {v_b_Years:Value} {C_b_Olds:Cells} {v_b_Olds:Value} (b_Years:List Yr) (b_Olds:List Old10) (b_First:Int) (b_Last:Int) (x2:Pk) (hC_b_Years:Reads R C_b_Years) (hs_b_Years:Sl C_b_Years v_b_Years b_Years) (hC_b_Olds:Reads R C_b_Olds) (hs_b_Olds:Sl C_b_Olds v_b_Olds b_Olds) {r:Bool} (hM:(zcT b_Years b_Olds b_First b_Last x2).Ends r) (w:World) (H:St w w [] R):Ret Tryz.prog 43 #[.agg #[v_b_Years,v_b_Olds,I b_First,I b_Last],.iface 32 (.agg #[I x2.day,I x2.stage])] w fun v w'=>∃ (y0:Bool),y0=r/\v=B y0/\St w w' [] R:=by
 refine ret_of_W Tryz.func43 rfl rfl rfl ?_
 refine kg 2 ?_
 refine t_box (v:=.agg #[v_b_Years,v_b_Olds,I b_First,I b_Last]) (cs:=[v_b_Years,v_b_Olds,I b_First,I b_Last]) H rfl rfl ?_
 intro b_1 w1z H
 refine kg 10 ?_
 refine s_val (x_ta1 (v:=.agg #[I x2.day,I x2.stage]) Tryz.underlying32 (by intro m h_; cases h_) rfl) ?_
 refine kg 3 ?_
 refine W.cond true rfl (fun c2z=>?_) (fun c2z=>?_)
 ·skip
  refine kg 2 ?_
  refine t_alloc (cs:=[I 0,I 0]) H Al32 rfl ?_
  intro b_2 w3z H
  refine t_sw 0 0 [I x2.day,I x2.stage] (.agg #[I x2.day,I x2.stage]) H rfl rfl Sz32 rfl rfl rfl rfl ?_
  intro w4z H
  refine kg 5 ?_
  obtain ⟨r6z,hx5z,hM⟩:=M.e_bind hM
  refine s_call cf45 [I x2.day,I 0,I 4000] rfl (zad x2.day 0 4000 hx5z _ (H.gt 2)) ?_
  rintro vq w7z ⟨r2,hr8z,hvq,H2_⟩
  subst hr8z
  subst vq
  try dsimp only at hM
  replace H:=H.bk H2_
  clear H2_
  refine kg 3 ?_
  obtain ⟨r3,hx9z,hM⟩:=M.e_bind hM
  refine t_gcall r2 (gy_t rfl) cf45 (B r3) (fun _=>[I x2.stage,I 0,I 2000]) (fun hg=>lst3 (gd_of (c:=r2) hg (I x2.stage)) rfl rfl) H (fun hg=>(zad x2.stage 0 2000 (M.e_opt hx9z hg) _ (H.give (A:=[]) rfl)).mono fun v_ w_ ⟨y_,hr_,hv_,H_⟩=>by subst hr_; exact ⟨hv_,H.via H_⟩) ?_
  intro w10z H
  refine kg 3 ?_
  refine W.ret ?_
  have hr_:=M.e_pure hM
  exact ⟨_,resE_tmp rfl,⟨(r2&&r3),hr_,rfl,(H.pk [])⟩⟩
 skip
 exact absurd c2z (by decide)

def zaV (l:List Pk):Nat->M (Nat ⊕ (Int ⊕ Unit)):=fun s =>
  bif decide ((s:Int)<(l.length:Int)) then (
  M.grd (decide ((s:Int)<(l.length:Int))) <|
  M.bind (zcT ([]:List Yr) ([]:List Old10) 0 0 (l.getD s default)) fun r2 =>
  bif !r2 then (
  M.pure (.inr (.inl 110)))
  else (
  M.grd ((!(decide (0<(s:Int)))||(decide ((-9223372036854775808:Int)<=((s:Int)-1))&&decide (((s:Int)-1)<=(9223372036854775807:Int))))) <|
  M.grd ((!(decide (0<(s:Int)))||(decide ((0:Int)<=((s:Int)-1))&&decide (((s:Int)-1)<(l.length:Int))))) <|
  bif ((decide (0<(s:Int)))&&(decide (((l.getD s default).day)<=((l.getD (Int.toNat ((s:Int)-1)) default).day)))) then (
  M.pure (.inr (.inl 9)))
  else (
  M.pure (.inl (s+1)))))
  else (
  M.pure (.inr (.inr ())))
def zaY (l:List Pk):M Int :=
  bif decide (40<(l.length:Int)) then (
  M.pure 3)
  else (
  M.bind (M.iter (zaV l) 0) fun x_=>match x_ with
  | (.inl s2)=>(
  M.pure s2)
  | (.inr (_:Unit))=>(
  M.pure 0))
theorem zdn {R:List Chunk} {C_l:Cells} {v_l:Value} (l:List Pk) (hC_l:Reads R C_l) (hs_l:Sl C_l v_l l) {r:Int} (hM:(zaY l).Ends r) (w:World) (H:St w w [] R):Ret Tryz.prog 9 #[v_l] w fun v w'=>∃ (y0:Int),y0=r/\v=I y0/\St w w' [] R:=by
 refine ret_of_W Tryz.func9 rfl rfl rfl ?_
 have hl1z:=(hs_l).len_le
 refine kg 11 ?_
 refine W.cond (decide (40<(l.length:Int))) rfl (fun c2z=>?_) (fun c2z=>?_)
 ·replace hM:=M.e_t hM c2z
  simp only [qy1,qy2,qy3,qy4,qy5,qy6,ne_eq,qy7] at c2z
  refine kg 4 ?_
  refine W.ret ?_
  have hr_:=M.e_pure hM
  exact ⟨_,resE_tmp rfl,⟨3,hr_,rfl,H⟩⟩
 replace hM:=M.e_f hM c2z
 simp only [qy1,qy2,qy3,qy4,qy5,qy6,ne_eq,qy7] at c2z
 have hl3z:=(hs_l).len_le
 refine kg 9 ?_
 obtain ⟨ex4z,hi5z,hk6z⟩:=M.e_bind hM
 obtain ⟨m0_,hi5z⟩:=M.e_iter hi5z
 refine W.loop (fun m σ W=>∃ (s:Nat) (ρ:Env),σ=upds ρ [(0,v_l),(8,v_l),(9,I (l.length:Int)),(10,I (s:Int))]/\M.iterN (zaV l) m s=some ex4z/\St w W [] R) ?_ ?_
 ·exact ⟨_,0,_,upds_of _ _ ⟨rfl,rfl,rfl,rfl,trivial⟩,hi5z,H⟩
 rintro m9z σ w7z ⟨s,ρ,rfl,hI8z,H⟩
 obtain ⟨m10z,lt11z,x12z,hM,hN13z⟩:=M.e_iterN hI8z
 simp only [zaV] at hM
 clear hI8z
 refine kg 5 ?_
 refine W.cond (decide ((s:Int)<(l.length:Int))) rfl (fun c14z=>?_) (fun c14z=>?_)
 ·replace hM:=M.e_t hM c14z
  simp only [qy1,qy2,qy3,qy4,qy5,qy6,ne_eq,qy7] at c14z
  obtain ⟨sd15z,hM⟩:=M.e_grd hM
  simp only [Bool.and_eq_true,decide_eq_true_eq] at sd15z
  refine kg 8 ?_
  refine t_alloc (cs:=[I 0,I 0]) H Al32 rfl ?_
  intro b_1 w16z H
  refine kg 1 ?_
  refine t_sw 0 0 [I ((l.getD s default).day),I ((l.getD s default).stage)] (.agg #[I ((l.getD s default).day),I ((l.getD s default).stage)]) H rfl rfl Sz32 rfl rfl rfl rfl ?_
  intro w17z H
  refine kg 4 ?_
  refine s_val (x_bld (ps:=[]) (zs:=[.slice none 0 0,.slice none 0 0,I 0,I 0]) (L':=[.slice none 0 0,.slice none 0 0,I 0,I 0]) rfl Tryz.underlying28 Al28 rfl (Bd28 Tryz.underlying28) (.nil)) ?_
  refine kg 1 ?_
  refine s_val (x_mi (v:=.agg #[I ((l.getD s default).day),I ((l.getD s default).stage)]) Tryz.underlying32 (by intro m h_; cases h_) rfl) ?_
  obtain ⟨r19z,hx18z,hM⟩:=M.e_bind hM
  refine s_call cf43 [.agg #[.slice none 0 0,.slice none 0 0,I 0,I 0],.iface 32 (.agg #[I ((l.getD s default).day),I ((l.getD s default).stage)])] rfl (zdU ([]:List Yr) ([]:List Old10) 0 0 (l.getD s default) Reads.none (Sl.nil (fun _=>none)) Reads.none (Sl.nil (fun _=>none)) hx18z _ (H.gt 1)) ?_
  rintro vq w20z ⟨r2,hr21z,hvq,H2_⟩
  subst hr21z
  subst vq
  try dsimp only at hM
  replace H:=H.bk H2_
  clear H2_
  refine kg 3 ?_
  refine W.cond (!r2) rfl (fun c22z=>?_) (fun c22z=>?_)
  ·replace hM:=M.e_t hM c22z
   refine kg 4 ?_
   refine W.ret ?_
   have hX23z:=M.e_inr hM hN13z
   subst hX23z
   replace hM:=hk6z
   try dsimp only at hM
   have hr_:=M.e_pure hM
   exact ⟨_,resE_tmp rfl,⟨110,hr_,rfl,(H.pk [])⟩⟩
  replace hM:=M.e_f hM c22z
  refine W.seq ?_
  refine W.draw (fun W=>St w W [cBlk b_1 [I ((l.getD s default).day),I ((l.getD s default).stage)] 32] R) [(0,true),(1,true),(2,true),(3,true),(4,true),(5,true),(6,true),(7,true),(8,true),(9,true),(10,true),(11,true),(12,true),(13,true)] mixed (by decide +kernel) rfl ?_
  intro w24z hx_
  replace H:=H.ext hx_
  clear hx_
  refine ⟨(H.pk [0]),?_⟩
  obtain ⟨sd25z,hM⟩:=M.e_grd hM
  replace sd25z:=M.imp_of sd25z
  simp only [Bool.and_eq_true,decide_eq_true_eq] at sd25z
  obtain ⟨sd26z,hM⟩:=M.e_grd hM
  replace sd26z:=M.imp_of sd26z
  simp only [Bool.and_eq_true,decide_eq_true_eq] at sd26z
  refine kg 15 ?_
  refine W.cond ((decide (0<(s:Int)))&&(decide (((l.getD s default).day)<=((l.getD (Int.toNat ((s:Int)-1)) default).day)))) rfl (fun c27z=>?_) (fun c27z=>?_)
  ·replace hM:=M.e_t hM c27z
   refine kg 4 ?_
   refine W.ret ?_
   have hX28z:=M.e_inr hM hN13z
   subst hX28z
   replace hM:=hk6z
   try dsimp only at hM
   have hr_:=M.e_pure hM
   exact ⟨_,resE_tmp rfl,⟨9,hr_,rfl,(H.pk [])⟩⟩
  replace hM:=M.e_f hM c27z
  refine kg 5 ?_
  exact ⟨m10z,lt11z,s+1,_,upds_of _ _ ⟨rfl,rfl,rfl,rfl,trivial⟩,M.e_inl hM hN13z,(H.pk [])⟩
 replace hM:=M.e_f hM c14z
 simp only [qy1,qy2,qy3,qy4,qy5,qy6,ne_eq,qy7] at c14z
 refine W.exit ?_
 have hX29z:=M.e_inr hM hN13z
 subst hX29z
 replace hM:=hk6z
 try dsimp only at hM
 refine kg 4 ?_
 refine W.ret ?_
 have hr_:=M.e_pure hM
 exact ⟨_,resE_tmp rfl,⟨0,hr_,rfl,H⟩⟩

def zaN (l:List Pk) (apart:Int) (threshold:Int):M Int :=
  M.bind (zaY l) fun r2 =>
  M.bind (M.opt (r2==0) (zab apart 1 60) false) fun r3 =>
  M.bind (M.opt ((r2==0)&&!(!r3)) (zab threshold 0 2000) false) fun r4 =>
  bif ((r2==0)&&((!r3)||(!r4))) then (
  M.pure 4)
  else (
  M.pure r2)
theorem zcG {R:List Chunk} {C_l:Cells} {v_l:Value} (l:List Pk) (apart:Int) (threshold:Int) (hC_l:Reads R C_l) (hs_l:Sl C_l v_l l) {r:Int} (hM:(zaN l apart threshold).Ends r) (w:World) (H:St w w [] R):Ret Tryz.prog 57 #[v_l,I apart,I threshold] w fun v w'=>∃ (y0:Int),y0=r/\v=I y0/\St w w' [] R:=by
 refine ret_of_W Tryz.func57 rfl rfl rfl ?_
 refine kg 7 ?_
 obtain ⟨r2z,hx1z,hM⟩:=M.e_bind hM
 refine s_call cf9 [v_l] rfl (zdn l (hC_l.app _) hs_l hx1z _ (H.gt 0)) ?_
 rintro vq w3z ⟨r2,hr4z,hvq,H2_⟩
 subst hr4z
 subst vq
 try dsimp only at hM
 replace H:=H.bk H2_
 clear H2_
 refine kg 9 ?_
 obtain ⟨r3,hx5z,hM⟩:=M.e_bind hM
 refine t_gcall (r2==0) (gy_t rfl) cf45 (B r3) (fun _=>[I apart,I 1,I 60]) (fun hg=>lst3 (gd_of (c:=r2==0) hg (I apart)) rfl rfl) H (fun hg=>(zad apart 1 60 (M.e_opt hx5z hg) _ (H.give (A:=[]) rfl)).mono fun v_ w_ ⟨y_,hr_,hv_,H_⟩=>by subst hr_; exact ⟨hv_,H.via H_⟩) ?_
 intro w6z H
 refine kg 3 ?_
 obtain ⟨r4,hx7z,hM⟩:=M.e_bind hM
 refine t_gcall ((r2==0)&&!(!r3)) (gy_gf rfl rfl) cf45 (B r4) (fun _=>[I threshold,I 0,I 2000]) (fun hg=>lst3 (gd_of (c:=((r2==0)&&!(!r3))) hg (I threshold)) rfl rfl) H (fun hg=>(zad threshold 0 2000 (M.e_opt hx7z hg) _ (H.give (A:=[]) rfl)).mono fun v_ w_ ⟨y_,hr_,hv_,H_⟩=>by subst hr_; exact ⟨hv_,H.via H_⟩) ?_
 intro w8z H
 refine kg 4 ?_
 refine W.cond ((r2==0)&&((!r3)||(!r4))) rfl (fun c9z=>?_) (fun c9z=>?_)
 ·replace hM:=M.e_t hM c9z
  refine kg 8 ?_
  refine W.ret ?_
  have hr_:=M.e_pure hM
  exact ⟨_,resE_tmp rfl,⟨4,hr_,rfl,H⟩⟩
 replace hM:=M.e_f hM c9z
 refine kg 6 ?_
 refine W.ret ?_
 have hr_:=M.e_pure hM
 exact ⟨_,resE_tmp rfl,⟨r2,hr_,rfl,H⟩⟩

def m_cmp_isNaN_int (x:Int):M Bool :=
  M.pure (x != x)
theorem cmp_isNaN_int_ok {R:List Chunk}  (x:Int)  {r:Bool} (hM:(m_cmp_isNaN_int x).Ends r) (w:World) (H:St w w [] R):Ret Tryz.prog 86 #[I x] w fun v w'=>∃ (y0:Bool),y0=r/\v=B y0/\St w w' [] R:=by
 refine ret_of_W Tryz.func86 rfl rfl rfl ?_
 refine kg 11 ?_
 refine W.ret ?_
 have hr_:=M.e_pure hM
 exact ⟨_,resE_tmp rfl,⟨(x != x),hr_,rfl,H⟩⟩

def m_cmp_Compare_int (x:Int) (y:Int):M Int :=
  M.bind (m_cmp_isNaN_int x) fun r2 =>
  M.bind (m_cmp_isNaN_int y) fun r3 =>
  bif r2 then (
  bif r3 then (
  M.pure 0)
  else (
  M.pure (-1)))
  else (
  bif r3 then (
  M.pure 1)
  else (
  bif decide (x<y) then (
  M.pure (-1))
  else (
  bif decide (y<x) then (
  M.pure 1)
  else (
  M.pure 0))))
theorem cmp_Compare_int_ok {R:List Chunk}  (x:Int) (y:Int)  {r:Int} (hM:(m_cmp_Compare_int x y).Ends r) (w:World) (H:St w w [] R):Ret Tryz.prog 63 #[I x,I y] w fun v w'=>∃ (y0:Int),y0=r/\v=I y0/\St w w' [] R:=by
 refine ret_of_W Tryz.func63 rfl rfl rfl ?_
 refine kg 7 ?_
 obtain ⟨r2z,hx1z,hM⟩:=M.e_bind hM
 refine s_call cf86 [I x] rfl (cmp_isNaN_int_ok x hx1z _ (H.gt 0)) ?_
 rintro vq w3z ⟨r2,hr4z,hvq,H2_⟩
 subst hr4z
 subst vq
 try dsimp only at hM
 replace H:=H.bk H2_
 clear H2_
 refine kg 5 ?_
 obtain ⟨r6z,hx5z,hM⟩:=M.e_bind hM
 refine s_call cf86 [I y] rfl (cmp_isNaN_int_ok y hx5z _ (H.gt 0)) ?_
 rintro vq w7z ⟨r3,hr8z,hvq,H2_⟩
 subst hr8z
 subst vq
 try dsimp only at hM
 replace H:=H.bk H2_
 clear H2_
 refine kg 7 ?_
 refine W.cond r2 rfl (fun c9z=>?_) (fun c9z=>?_)
 ·replace hM:=M.e_t hM c9z
  refine kg 5 ?_
  refine W.cond r3 rfl (fun c10z=>?_) (fun c10z=>?_)
  ·replace hM:=M.e_t hM c10z
   refine kg 4 ?_
   refine W.ret ?_
   have hr_:=M.e_pure hM
   exact ⟨_,resE_tmp rfl,⟨0,hr_,rfl,H⟩⟩
  replace hM:=M.e_f hM c10z
  refine kg 5 ?_
  refine W.ret ?_
  have hr_:=M.e_pure hM
  exact ⟨_,resE_tmp rfl,⟨(-1),hr_,rfl,H⟩⟩
 replace hM:=M.e_f hM c9z
 refine kg 6 ?_
 refine W.cond r3 rfl (fun c11z=>?_) (fun c11z=>?_)
 ·replace hM:=M.e_t hM c11z
  refine kg 4 ?_
  refine W.ret ?_
  have hr_:=M.e_pure hM
  exact ⟨_,resE_tmp rfl,⟨1,hr_,rfl,H⟩⟩
 replace hM:=M.e_f hM c11z
 refine kg 8 ?_
 refine W.cond (decide (x<y)) rfl (fun c12z=>?_) (fun c12z=>?_)
 ·replace hM:=M.e_t hM c12z
  simp only [qy1,qy2,qy3,qy4,qy5,qy6,ne_eq,qy7] at c12z
  refine kg 4 ?_
  refine W.ret ?_
  have hr_:=M.e_pure hM
  exact ⟨_,resE_tmp rfl,⟨(-1),hr_,rfl,H⟩⟩
 replace hM:=M.e_f hM c12z
 simp only [qy1,qy2,qy3,qy4,qy5,qy6,ne_eq,qy7] at c12z
 refine kg 8 ?_
 refine W.cond (decide (y<x)) rfl (fun c13z=>?_) (fun c13z=>?_)
 ·replace hM:=M.e_t hM c13z
  simp only [qy1,qy2,qy3,qy4,qy5,qy6,ne_eq,qy7] at c13z
  refine kg 4 ?_
  refine W.ret ?_
  have hr_:=M.e_pure hM
  exact ⟨_,resE_tmp rfl,⟨1,hr_,rfl,H⟩⟩
 replace hM:=M.e_f hM c13z
 simp only [qy1,qy2,qy3,qy4,qy5,qy6,ne_eq,qy7] at c13z
 refine kg 5 ?_
 refine W.ret ?_
 have hr_:=M.e_pure hM
 exact ⟨_,resE_tmp rfl,⟨0,hr_,rfl,H⟩⟩

def zbC (p:Pk) (day:Int):M Int :=
  M.bind (m_cmp_Compare_int p.day day) fun r2 =>
  M.pure r2
theorem zds {R:List Chunk}  (p:Pk) (day:Int)  {r:Int} (hM:(zbC p day).Ends r) (w:World) (H:St w w [] R):Ret Tryz.prog 62 #[.agg #[I p.day,I p.stage],I day] w fun v w'=>∃ (y0:Int),y0=r/\v=I y0/\St w w' [] R:=by
 refine ret_of_W Tryz.func62 rfl rfl rfl ?_
 refine kg 2 ?_
 refine t_box (v:=.agg #[I p.day,I p.stage]) (cs:=[I p.day,I p.stage]) H rfl rfl ?_
 intro b_1 w1z H
 refine kg 7 ?_
 obtain ⟨r3z,hx2z,hM⟩:=M.e_bind hM
 refine s_call cf63 [I p.day,I day] rfl (cmp_Compare_int_ok p.day day hx2z _ (H.gt 1)) ?_
 rintro vq w4z ⟨r2,hr5z,hvq,H2_⟩
 subst hr5z
 subst vq
 try dsimp only at hM
 replace H:=H.bk H2_
 clear H2_
 refine kg 2 ?_
 refine W.ret ?_
 have hr_:=M.e_pure hM
 exact ⟨_,resE_tmp rfl,⟨r2,hr_,rfl,(H.pk [])⟩⟩

def zcJ (x:List Pk) (target:Int):(Int × Int)->M ((Int × Int) ⊕ Int):=fun (i,j) =>
  bif decide (i<j) then (
  M.grd (decide ((-9223372036854775808:Int)<=(i+j))&&decide ((i+j)<=(9223372036854775807:Int))) <|
  M.grd (decide ((0:Int)<=(i+j))&&decide ((i+j)<=(9223372036854775807:Int))) <|
  M.grd (decide ((0:Int)<=((i+j) / 2))&&decide (((i+j) / 2)<=(9223372036854775807:Int))) <|
  M.grd (decide ((0:Int)<=((i+j) / 2))&&decide (((i+j) / 2)<(x.length:Int))) <|
  M.bind (zbC (x.getD (Int.toNat ((i+j) / 2)) default) target) fun r2 =>
  bif decide (r2<0) then (
  M.pure (.inl (((i+j) / 2)+1,j)))
  else (
  M.pure (.inl (i,(i+j) / 2))))
  else (
  M.pure (.inr i))
def zcV (x:List Pk) (target:Int):M (Int × Bool) :=
  M.bind (M.iter (zcJ x target) (0,(x.length:Int))) fun i2 =>
  M.grd ((!(decide (i2<(x.length:Int)))||(decide ((0:Int)<=i2)&&decide (i2<(x.length:Int))))) <|
  M.bind (M.opt (decide (i2<(x.length:Int))) (zbC (x.getD (Int.toNat i2) default) target) 0) fun r3 =>
  M.pure (i2,((decide (i2<(x.length:Int)))&&(r3==0)))
theorem zec {R:List Chunk} {C_x:Cells} {v_x:Value} (x:List Pk) (target:Int) (hC_x:Reads R C_x) (hs_x:Sl C_x v_x x) {r:(Int × Bool)} (hM:(zcV x target).Ends r) (w:World) (H:St w w [] R):Ret Tryz.prog 61 #[v_x,I target,.func (.func 62) #[] #[]] w fun v w'=>∃ (y0:Int) (y1:Bool),(y0,y1)=r/\v = .tuple #[I y0,B y1]/\St w w' [] R:=by
 refine ret_of_W Tryz.func61 rfl rfl rfl ?_
 have hl1z:=(hs_x).len_le
 refine kg 19 ?_
 obtain ⟨ex2z,hi3z,hk4z⟩:=M.e_bind hM
 obtain ⟨m0_,hi3z⟩:=M.e_iter hi3z
 refine W.loop (fun m σ W=>∃ (i:Int) (j:Int) (ρ:Env),σ=upds ρ [(0,v_x),(1,I target),(2,.func (.func 62) #[] #[]),(8,I (x.length:Int)),(9,I i),(10,I j)]/\M.iterN (zcJ x target) m (i,j)=some ex2z/\St w W [] R) ?_ ?_
 ·exact ⟨_,0,(x.length:Int),_,upds_of _ _ ⟨rfl,rfl,rfl,rfl,rfl,rfl,trivial⟩,hi3z,H⟩
 rintro m7z σ w5z ⟨i,j,ρ,rfl,hI6z,H⟩
 obtain ⟨m8z,lt9z,x10z,hM,hN11z⟩:=M.e_iterN hI6z
 simp only [zcJ] at hM
 clear hI6z
 refine kg 7 ?_
 refine W.cond (decide (i<j)) rfl (fun c12z=>?_) (fun c12z=>?_)
 ·replace hM:=M.e_t hM c12z
  simp only [qy1,qy2,qy3,qy4,qy5,qy6,ne_eq,qy7] at c12z
  obtain ⟨sd13z,hM⟩:=M.e_grd hM
  simp only [Bool.and_eq_true,decide_eq_true_eq] at sd13z
  obtain ⟨sd14z,hM⟩:=M.e_grd hM
  simp only [Bool.and_eq_true,decide_eq_true_eq] at sd14z
  refine kg 7 ?_
  refine s_val (x_convU (kd:=.i64) (a:=i+j) Tryz.underlying3 Tryz.underlying139 rfl (by omega)) ?_
  refine s_val (x_ushr1 (a:=i+j) rfl rfl) ?_
  obtain ⟨sd15z,hM⟩:=M.e_grd hM
  simp only [Bool.and_eq_true,decide_eq_true_eq] at sd15z
  refine s_val (x_conv64 (kd:=.u64) (a:=(i+j) / 2) Tryz.underlying139 Tryz.underlying3 rfl (by omega)) ?_
  obtain ⟨sd16z,hM⟩:=M.e_grd hM
  simp only [Bool.and_eq_true,decide_eq_true_eq] at sd16z
  refine kg 10 ?_
  obtain ⟨r18z,hx17z,hM⟩:=M.e_bind hM
  refine s_callv (f:=62) rfl cf62 [.agg #[I ((x.getD (Int.toNat ((i+j) / 2)) default).day),I ((x.getD (Int.toNat ((i+j) / 2)) default).stage)],I target] rfl (zds (x.getD (Int.toNat ((i+j) / 2)) default) target hx17z _ (H.gt 0)) ?_
  rintro vq w19z ⟨r2,hr20z,hvq,H2_⟩
  subst hr20z
  subst vq
  try dsimp only at hM
  replace H:=H.bk H2_
  clear H2_
  refine kg 2 ?_
  refine W.cond (decide (r2<0)) rfl (fun c21z=>?_) (fun c21z=>?_)
  ·replace hM:=M.e_t hM c21z
   simp only [qy1,qy2,qy3,qy4,qy5,qy6,ne_eq,qy7] at c21z
   refine kg 5 ?_
   exact ⟨m8z,lt9z,((i+j) / 2)+1,j,_,upds_of _ _ ⟨rfl,rfl,rfl,rfl,rfl,rfl,trivial⟩,M.e_inl hM hN11z,H⟩
  replace hM:=M.e_f hM c21z
  simp only [qy1,qy2,qy3,qy4,qy5,qy6,ne_eq,qy7] at c21z
  refine kg 4 ?_
  exact ⟨m8z,lt9z,i,(i+j) / 2,_,upds_of _ _ ⟨rfl,rfl,rfl,rfl,rfl,rfl,trivial⟩,M.e_inl hM hN11z,H⟩
 replace hM:=M.e_f hM c12z
 simp only [qy1,qy2,qy3,qy4,qy5,qy6,ne_eq,qy7] at c12z
 refine W.exit ?_
 have hX22z:=M.e_inr hM hN11z
 subst hX22z
 replace hM:=hk4z
 try dsimp only at hM
 obtain ⟨sd23z,hM⟩:=M.e_grd hM
 replace sd23z:=M.imp_of sd23z
 simp only [Bool.and_eq_true,decide_eq_true_eq] at sd23z
 refine kg 13 ?_
 obtain ⟨r3,hx24z,hM⟩:=M.e_bind hM
 refine t_gcallv (cap:=[]) (decide (i<(x.length:Int))) (gy_t rfl) cf62 (fun hg=>(gd_of (c:=decide (i<(x.length:Int))) hg (.func (.func 62) #[] #[]))) (I r3) (fun _=>[.agg #[I ((x.getD (Int.toNat i) default).day),I ((x.getD (Int.toNat i) default).stage)],I target]) (fun hg=>lst2 (gd_of (c:=decide (i<(x.length:Int))) hg (.agg #[I ((x.getD (Int.toNat i) default).day),I ((x.getD (Int.toNat i) default).stage)])) (gd_of (c:=decide (i<(x.length:Int))) hg (I target))) H (fun hg=>(zds (x.getD (Int.toNat i) default) target (M.e_opt hx24z hg) _ (H.give (A:=[]) rfl)).mono fun v_ w_ ⟨y_,hr_,hv_,H_⟩=>by subst hr_; exact ⟨hv_,H.via H_⟩) ?_
 intro w25z H
 refine kg 5 ?_
 refine W.ret ?_
 have hr_:=M.e_pure hM
 exact ⟨_,resE_tmp2 rfl,⟨i,((decide (i<(x.length:Int)))&&(r3==0)),hr_,rfl,H⟩⟩

def zaZ (i:Int) (k02:List Pk) (k12:Int):M Int :=
  M.grd (decide ((0:Int)<=i)&&decide (i<(k02.length:Int))) <|
  M.grd (decide ((-9223372036854775808:Int)<=(((k02.getD (Int.toNat i) default).day)+k12))&&decide ((((k02.getD (Int.toNat i) default).day)+k12)<=(9223372036854775807:Int))) <|
  M.bind (zcV k02 (((k02.getD (Int.toNat i) default).day)+k12)) fun (r0,r1) =>
  M.pure r0
theorem zdy {R:List Chunk} {b_k0:Nat} {C_k02:Cells} {v_k02:Value} {b_k1:Nat} (i:Int) (k02:List Pk) (k12:Int) (hC_k02:Reads R C_k02) (hs_k02:Sl C_k02 v_k02 k02) (h_b_k0:Has R (cBlk b_k0 [v_k02] 23)) (h_b_k1:Has R (cBlk b_k1 [I k12] 3)) {r:Int} (hM:(zaZ i k02 k12).Ends r) (w:World) (H:St w w [] R):Ret Tryz.prog 60 #[I i,Pq b_k0,Pq b_k1] w fun v w'=>∃ (y0:Int),y0=r/\v=I y0/\St w w' [] R:=by
 refine ret_of_W Tryz.func60 rfl rfl rfl ?_
 refine kg 5 ?_
 refine W.draw (fun W=>St w W [] R) [(0,true),(1,true),(2,true),(3,true),(4,true),(5,true),(6,true),(7,true),(8,false),(9,true),(10,true),(11,true),(12,true),(13,true)] mixed (by decide +kernel) rfl ?_
 intro w1z hx_
 replace H:=H.ext hx_
 clear hx_
 refine ⟨(H.pk []),?_⟩
 obtain ⟨sd2z,hM⟩:=M.e_grd hM
 simp only [Bool.and_eq_true,decide_eq_true_eq] at sd2z
 obtain ⟨sd3z,hM⟩:=M.e_grd hM
 simp only [Bool.and_eq_true,decide_eq_true_eq] at sd3z
 refine kg 8 ?_
 refine d_l rfl ?_
 obtain ⟨r5z,hx4z,hM⟩:=M.e_bind hM
 refine s_call cf61 [v_k02,I (((k02.getD (Int.toNat i) default).day)+k12),.func (.func 62) #[] #[]] rfl (zec k02 (((k02.getD (Int.toNat i) default).day)+k12) (hC_k02.app _) hs_k02 hx4z _ (H.gt 0)) ?_
 rintro vq w6z ⟨r0,r1,hr7z,hvq,H2_⟩
 subst hr7z
 subst vq
 try dsimp only at hM
 replace H:=H.bk H2_
 clear H2_
 refine s_nil ⟨(H.pk []),?_⟩
 refine kg 11 ?_
 refine W.ret ?_
 have hr_:=M.e_pure hM
 exact ⟨_,resE_tmp rfl,⟨r0,hr_,rfl,H⟩⟩

def zcv (i:Int) (k02:List Pk) (k12:Int) (k20:List Int) (k3202:List Pk) (k3212:Int):M Int :=
  M.grd (decide ((0:Int)<=i)&&decide (i<(k02.length:Int))) <|
  M.grd (decide ((-9223372036854775808:Int)<=(((k02.getD (Int.toNat i) default).stage)-k12))&&decide ((((k02.getD (Int.toNat i) default).stage)-k12)<=(9223372036854775807:Int))) <|
  M.bind (zaZ i k3202 k3212) fun r2 =>
  M.grd (decide ((0:Int)<=r2)&&decide (r2<(41:Int))) <|
  M.grd (decide ((-9223372036854775808:Int)<=((((k02.getD (Int.toNat i) default).stage)-k12)+(k20.getD (Int.toNat r2) 0)))&&decide (((((k02.getD (Int.toNat i) default).stage)-k12)+(k20.getD (Int.toNat r2) 0))<=(9223372036854775807:Int))) <|
  M.pure ((((k02.getD (Int.toNat i) default).stage)-k12)+(k20.getD (Int.toNat r2) 0))
theorem zdg {R:List Chunk} {b_k0:Nat} {C_k02:Cells} {v_k02:Value} {b_k1:Nat} {b_k2:Nat} {b_k3:Nat} {b_k320:Nat} {C_k3202:Cells} {v_k3202:Value} {b_k321:Nat} (i:Int) (k02:List Pk) (k12:Int) (k20:List Int) (k3202:List Pk) (k3212:Int) (hC_k02:Reads R C_k02) (hs_k02:Sl C_k02 v_k02 k02) (h_b_k0:Has R (cBlk b_k0 [v_k02] 23)) (h_b_k1:Has R (cBlk b_k1 [I k12] 3)) (hl_k20:k20.length=41) (h_b_k2:Has R (cBlk b_k2 (List.flatten [[],encF (α:=Int) k20]) 113)) (hC_k3202:Reads R C_k3202) (hs_k3202:Sl C_k3202 v_k3202 k3202) (h_b_k320:Has R (cBlk b_k320 [v_k3202] 23)) (h_b_k321:Has R (cBlk b_k321 [I k3212] 3)) (h_b_k3:Has R (cBlk b_k3 [.func (.func 60) #[] #[Pq b_k320,Pq b_k321]] 118)) {r:Int} (hM:(zcv i k02 k12 k20 k3202 k3212).Ends r) (w:World) (H:St w w [] R):Ret Tryz.prog 64 #[I i,Pq b_k0,Pq b_k1,Pq b_k2,Pq b_k3] w fun v w'=>∃ (y0:Int),y0=r/\v=I y0/\St w w' [] R:=by
 refine ret_of_W Tryz.func64 rfl rfl rfl ?_
 refine kg 5 ?_
 refine W.draw (fun W=>St w W [] R) [(0,true),(1,true),(2,true),(3,true),(4,true),(5,true),(6,true),(7,true),(8,true),(9,false),(10,true),(11,true),(12,true),(13,true)] mixed (by decide +kernel) rfl ?_
 intro w1z hx_
 replace H:=H.ext hx_
 clear hx_
 refine ⟨(H.pk []),?_⟩
 obtain ⟨sd2z,hM⟩:=M.e_grd hM
 simp only [Bool.and_eq_true,decide_eq_true_eq] at sd2z
 obtain ⟨sd3z,hM⟩:=M.e_grd hM
 simp only [Bool.and_eq_true,decide_eq_true_eq] at sd3z
 refine kg 9 ?_
 refine d_l rfl ?_
 obtain ⟨r5z,hx4z,hM⟩:=M.e_bind hM
 refine s_callv (f:=60) rfl cf60 [I i] rfl (zdy i k3202 k3212 (hC_k3202.app _) hs_k3202 (h_b_k320.app _) (h_b_k321.app _) hx4z _ (H.gt 0)) ?_
 rintro vq w6z ⟨r2,hr7z,hvq,H2_⟩
 subst hr7z
 subst vq
 try dsimp only at hM
 replace H:=H.bk H2_
 clear H2_
 refine s_nil ⟨(H.pk []),?_⟩
 obtain ⟨sd8z,hM⟩:=M.e_grd hM
 simp only [Bool.and_eq_true,decide_eq_true_eq] at sd8z
 refine d_q rfl (fun w' H=>x_ix (a:=Pq b_k2) (b:=I r2) (v:=.pointer (some ⟨b_k2,0+Int.toNat r2*1,none⟩)) rfl rfl (run_indexS Tryz.underlying113 Sz3 (by omega) (by omega))) ?_
 refine d_q rfl (fun w' H=>x_ld (p:=.pointer (some ⟨b_k2,0+Int.toNat r2*1,none⟩)) (v:=I (k20.getD (Int.toNat r2) 0)) rfl (ldS (α:=Int) (k:=1) (off:=0) (i:=(Int.toNat r2)) (f:=0) (sz:=1) 0 Sc3 (h_b_k2.blk H) rfl (sgo1 rfl) rfl (by decide) (by have hl_:=hl_k20; omega) (by omega) rfl)) ?_
 obtain ⟨sd9z,hM⟩:=M.e_grd hM
 simp only [Bool.and_eq_true,decide_eq_true_eq] at sd9z
 refine kg 3 ?_
 refine W.ret ?_
 have hr_:=M.e_pure hM
 exact ⟨_,resE_tmp rfl,⟨((((k02.getD (Int.toNat i) default).stage)-k12)+(k20.getD (Int.toNat r2) 0)),hr_,rfl,H⟩⟩

def zas (l:List Int):(Int × Nat)->M ((Int × Nat) ⊕ Int):=fun (out,s) =>
  bif decide ((s:Int)<(l.length:Int)) then (
  M.grd (decide ((s:Int)<(l.length:Int))) <|
  M.pure (.inl (max out (l.getD s 0),s+1)))
  else (
  M.pure (.inr out))
def zaG (l:List Int):M Int :=
  M.bind (M.iter (zas l) (0,0)) fun out2 =>
  M.pure out2
theorem zdj {R:List Chunk} {C_l:Cells} {v_l:Value} (l:List Int) (hC_l:Reads R C_l) (hs_l:Sl C_l v_l l) {r:Int} (hM:(zaG l).Ends r) (w:World) (H:St w w [] R):Ret Tryz.prog 65 #[v_l] w fun v w'=>∃ (y0:Int),y0=r/\v=I y0/\St w w' [] R:=by
 refine ret_of_W Tryz.func65 rfl rfl rfl ?_
 have hl1z:=(hs_l).len_le
 refine kg 16 ?_
 obtain ⟨ex2z,hi3z,hk4z⟩:=M.e_bind hM
 obtain ⟨m0_,hi3z⟩:=M.e_iter hi3z
 refine W.loop (fun m σ W=>∃ (out:Int) (s:Nat) (ρ:Env),σ=upds ρ [(3,I out),(6,v_l),(7,I (l.length:Int)),(8,I (s:Int))]/\M.iterN (zas l) m (out,s)=some ex2z/\St w W [] R) ?_ ?_
 ·exact ⟨_,0,0,_,upds_of _ _ ⟨rfl,rfl,rfl,rfl,trivial⟩,hi3z,H⟩
 rintro m7z σ w5z ⟨out,s,ρ,rfl,hI6z,H⟩
 obtain ⟨m8z,lt9z,x10z,hM,hN11z⟩:=M.e_iterN hI6z
 simp only [zas] at hM
 clear hI6z
 refine kg 5 ?_
 refine W.cond (decide ((s:Int)<(l.length:Int))) rfl (fun c12z=>?_) (fun c12z=>?_)
 ·replace hM:=M.e_t hM c12z
  simp only [qy1,qy2,qy3,qy4,qy5,qy6,ne_eq,qy7] at c12z
  obtain ⟨sd13z,hM⟩:=M.e_grd hM
  simp only [Bool.and_eq_true,decide_eq_true_eq] at sd13z
  refine kg 19 ?_
  exact ⟨m8z,lt9z,max out (l.getD s 0),s+1,_,upds_of _ _ ⟨rfl,rfl,rfl,rfl,trivial⟩,M.e_inl hM hN11z,H⟩
 replace hM:=M.e_f hM c12z
 simp only [qy1,qy2,qy3,qy4,qy5,qy6,ne_eq,qy7] at c12z
 refine W.exit ?_
 have hX14z:=M.e_inr hM hN11z
 subst hX14z
 replace hM:=hk4z
 try dsimp only at hM
 refine kg 5 ?_
 refine W.ret ?_
 have hr_:=M.e_pure hM
 exact ⟨_,resE_tmp rfl,⟨out,hr_,rfl,H⟩⟩

def zbZ (l:List Pk) (apart:Int) (threshold:Int):((List Int) × Int)->M (((List Int) × Int) ⊕ (List Int)):=fun (s,i) =>
  bif decide (0<=i) then (
  M.grd (decide ((-9223372036854775808:Int)<=(i+1))&&decide ((i+1)<=(9223372036854775807:Int))) <|
  M.grd (decide ((0:Int)<=(i+1))&&decide ((i+1)<(41:Int))) <|
  M.bind (zcv i l threshold s l apart) fun r3 =>
  M.bind (zaG ([(s.getD (Int.toNat (i+1)) 0:Int),(r3:Int)])) fun r4 =>
  M.grd (decide ((0:Int)<=i)&&decide (i<(41:Int))) <|
  M.grd (decide ((-9223372036854775808:Int)<=(i-1))&&decide ((i-1)<=(9223372036854775807:Int))) <|
  M.pure (.inl (s.set (Int.toNat i) r4,i-1)))
  else (
  M.pure (.inr s))
def zc1 (l:List Pk) (apart:Int) (threshold:Int) (l2:List Int):(Int × (List Int))->M ((Int × (List Int)) ⊕ ((List Int) × (List Int))):=fun (i2,l3) =>
  bif decide (i2<(l.length:Int)) then (
  M.grd (decide ((0:Int)<=i2)&&decide (i2<(l.length:Int))) <|
  M.grd ((!(!(decide (((l.getD (Int.toNat i2) default).stage)<=threshold)))||(decide ((0:Int)<=i2)&&decide (i2<(41:Int))))) <|
  M.bind (M.opt (!(decide (((l.getD (Int.toNat i2) default).stage)<=threshold))) (zcv i2 l threshold l2 l apart) 0) fun r5 =>
  bif ((decide (((l.getD (Int.toNat i2) default).stage)<=threshold))||(decide (r5<(l2.getD (Int.toNat i2) 0)))) then (
  M.pure (.inl (i2+1,l3)))
  else (
  M.grd (decide ((l3.length+([(i2:Int)]).length)*8<=140737488355328)) <|
  M.bind (zaZ i2 l apart) fun r6 =>
  M.pure (.inl (r6,l3++([(i2:Int)])))))
  else (
  M.pure (.inr (l3,l3)))
def zcx (l:List Pk) (apart:Int) (threshold:Int):M ((List Int) × Int × Int) :=
  M.bind (zaN l apart threshold) fun r2 =>
  bif r2 != 0 then (
  M.pure (([]),0,r2))
  else (
  M.bind (M.iter (zbZ l apart threshold) (List.replicate 41 0,(l.length:Int)-1)) fun l2 =>
  M.bind (M.iter (zc1 l apart threshold l2) (0,[])) fun (l4,l5) =>
  M.grd (decide ((0:Int)<=0)&&decide (0<(41:Int))) <|
  M.pure (l5,(l2.getD 0 0),0))
theorem zdF {R:List Chunk} {C_l:Cells} {v_l:Value} (l:List Pk) (apart:Int) (threshold:Int) (hC_l:Reads R C_l) (hs_l:Sl C_l v_l l) {r:((List Int) × Int × Int)} (hM:(zcx l apart threshold).Ends r) (w:World) (H:St w w [] R):Ret Tryz.prog 22 #[v_l,I apart,I threshold] w fun v w'=>∃ (y0:List Int) (y1:Int) (y2:Int) (u0:Value),(y0,y1,y2)=r/\v = .tuple #[u0,I y1,I y2]/\St w w' [cOwn (α:=Int) 3 u0 y0] R:=by
 refine ret_of_W Tryz.func22 rfl rfl rfl ?_
 refine kg 2 ?_
 refine t_box (v:=v_l) (cs:=[v_l]) H rfl (Sl.cells hs_l) ?_
 intro b_1 w1z H
 refine t_box (v:=I apart) (cs:=[I apart]) H rfl rfl ?_
 intro b_2 w2z H
 refine t_box (v:=I threshold) (cs:=[I threshold]) H rfl rfl ?_
 intro b_3 w3z H
 refine kg 10 ?_
 obtain ⟨r5z,hx4z,hM⟩:=M.e_bind hM
 refine s_call cf57 [v_l,I apart,I threshold] rfl (zcG l apart threshold (hC_l.app _) hs_l hx4z _ (H.gt 3)) ?_
 rintro vq w6z ⟨r2,hr7z,hvq,H2_⟩
 subst hr7z
 subst vq
 try dsimp only at hM
 replace H:=H.bk H2_
 clear H2_
 refine kg 7 ?_
 refine W.cond (r2 != 0) rfl (fun c8z=>?_) (fun c8z=>?_)
 ·replace hM:=M.e_t hM c8z
  simp only [qy1,qy2,qy3,qy4,qy5,qy6,ne_eq,qy7] at c8z
  refine kg 7 ?_
  refine W.ret ?_
  have hr_:=M.e_pure hM
  replace H:=H.nilOwn (α:=Int) 3
  exact ⟨_,resE_tmp3 rfl,⟨([]),0,r2,(.slice none 0 0),hr_,rfl,(H.pk [0])⟩⟩
 replace hM:=M.e_f hM c8z
 simp only [qy1,qy2,qy3,qy4,qy5,qy6,ne_eq,qy7] at c8z
 refine kg 3 ?_
 refine t_alloc (cs:=(List.flatten [[],encF (α:=Int) (List.replicate 41 0)])) H Al113 (by kernel_rfl) ?_
 intro b_4 w9z H
 refine kg 3 ?_
 refine s_val (x_mf (fs:=[]) (cs:=[Pq b_1,Pq b_2]) rfl rfl) ?_
 refine t_alloc (cs:=[.nilFunc]) H Al118 rfl ?_
 intro b_5 w10z H
 refine t_sw 0 0 [.func (.func 60) #[] #[Pq b_1,Pq b_2]] (.func (.func 60) #[] #[Pq b_1,Pq b_2]) H rfl rfl Sz118 rfl rfl rfl rfl ?_
 intro w11z H
 refine kg 3 ?_
 refine s_val (x_mf (fs:=[]) (cs:=[Pq b_1,Pq b_3,Pq b_4,Pq b_5]) rfl rfl) ?_
 have hl12z:=(hs_l).len_le
 refine kg 11 ?_
 obtain ⟨ex13z,hi14z,hk15z⟩:=M.e_bind hM
 obtain ⟨m0_,hi14z⟩:=M.e_iter hi14z
 refine W.loop (fun m σ W=>∃ (s:List Int) (i:Int) (ρ:Env),σ=upds ρ [(3,Pq b_1),(5,Pq b_3),(10,Pq b_4),(11,Pq b_5),(12,.func (.func 64) #[] #[Pq b_1,Pq b_3,Pq b_4,Pq b_5]),(13,I i)]/\M.iterN (zbZ l apart threshold) m (s,i)=some ex13z/\St w W [cBlk b_5 [.func (.func 60) #[] #[Pq b_1,Pq b_2]] 118,cBlk b_4 (List.flatten [[],encF (α:=Int) s]) 113,cBlk b_3 [I threshold] 3,cBlk b_2 [I apart] 3,cBlk b_1 [v_l] 23] R/\s.length=41) ?_ ?_
 ·exact ⟨_,List.replicate 41 0,(l.length:Int)-1,_,upds_of _ _ ⟨rfl,rfl,rfl,rfl,rfl,rfl,trivial⟩,hi14z,H,List.length_replicate⟩
 rintro m18z σ w16z ⟨s,i,ρ,rfl,hI17z,H,hl_s⟩
 obtain ⟨m19z,lt20z,x21z,hM,hN22z⟩:=M.e_iterN hI17z
 simp only [zbZ] at hM
 clear hI17z
 refine kg 6 ?_
 refine W.cond (decide (0<=i)) rfl (fun c23z=>?_) (fun c23z=>?_)
 ·replace hM:=M.e_t hM c23z
  simp only [qy1,qy2,qy3,qy4,qy5,qy6,ne_eq,qy7] at c23z
  refine kg 3 ?_
  refine W.drawT (fun W=>St w W [cBlk b_5 [.func (.func 60) #[] #[Pq b_1,Pq b_2]] 118,cBlk b_3 [I threshold] 3,cBlk b_2 [I apart] 3,cBlk b_1 [v_l] 23] R) (.q 0 (.q 1 (.q 2 (.q 3 (.q 5 (.q 6 (.l2 4 (.l 7 (.l 8 (.l 9 (.q 10 (.l 11 .nil))))) 7 (.l 4 (.l 8 (.l 9 (.q 10 (.l 11 .nil)))))))))))) mixed (by decide +kernel) rfl ?_
  intro w24z hx_
  replace H:=H.ext hx_
  clear hx_
  refine ⟨(H.pk [0,2,3,4]),?_⟩
  obtain ⟨sd25z,hM⟩:=M.e_grd hM
  simp only [Bool.and_eq_true,decide_eq_true_eq] at sd25z
  obtain ⟨sd26z,hM⟩:=M.e_grd hM
  simp only [Bool.and_eq_true,decide_eq_true_eq] at sd26z
  refine kg 3 ?_
  refine t_q rfl (fun w' H=>x_ix (a:=Pq b_4) (b:=I (i+1)) (v:=.pointer (some ⟨b_4,0+Int.toNat (i+1)*1,none⟩)) rfl rfl (run_indexS Tryz.underlying113 Sz3 (by omega) (by omega))) ?_
  refine kg 2 ?_
  refine t_l2 rfl rfl ?_ ?_
  ·skip
   refine s_val (x_ld (p:=.pointer (some ⟨b_4,0+Int.toNat (i+1)*1,none⟩)) (v:=I (s.getD (Int.toNat (i+1)) 0)) rfl (ldS (α:=Int) (k:=1) (off:=0) (i:=(Int.toNat (i+1))) (f:=0) (sz:=1) 0 Sc3 (H.bl 1) rfl (sgo1 rfl) rfl (by decide) (by have hl_:=hl_s; omega) (by omega) rfl)) ?_
   refine s_nil ⟨(H.pk [0,2,3,4]),?_⟩
   refine t_l rfl ?_
   obtain ⟨r41z,hx40z,hM⟩:=M.e_bind hM
   refine s_callv (f:=64) rfl cf64 [I i] rfl (zdg i l threshold s l apart (hC_l.app _) hs_l (Has.here (k:=4) rfl) (Has.here (k:=2) rfl) hl_s (Has.here (k:=1) rfl) (hC_l.app _) hs_l (Has.here (k:=4) rfl) (Has.here (k:=3) rfl) (Has.here (k:=0) rfl) hx40z _ (H.gt 5)) ?_
   rintro vq w42z ⟨r3,hr43z,hvq,H2_⟩
   subst hr43z
   subst vq
   try dsimp only at hM
   replace H:=H.bk H2_
   clear H2_
   refine s_nil ⟨(H.pk [0,2,3,4]),?_⟩
   refine t_l rfl ?_
   refine t_bs (α:=Int) T22 [I (s.getD (Int.toNat (i+1)) 0),I r3] [(s.getD (Int.toNat (i+1)) 0:Int),(r3:Int)] H rfl (.cons rfl (Flat.rep_enc _ (s.getD (Int.toNat (i+1)) 0:Int))<|.cons rfl (Flat.rep_enc _ (r3:Int))<|.nil) rfl rfl rfl ?_
   intro v44z w45z H
   have hvc_q46z:=Sl.cells (H.os 0)
   have hvo_q46z:=Sl.oc (H.os 0)
   refine s_nil ⟨(H.pk [1,3,4,5]),?_⟩
   refine t_l rfl ?_
   obtain ⟨r48z,hx47z,hM⟩:=M.e_bind hM
   refine s_call cf65 [v44z] rfl (zdj ([(s.getD (Int.toNat (i+1)) 0:Int),(r3:Int)]) (rdo 0) (H.os 0) hx47z _ (H.gt 6)) ?_
   rintro vq w49z ⟨r4,hr50z,hvq,H2_⟩
   subst hr50z
   subst vq
   try dsimp only at hM
   replace H:=H.bk H2_
   clear H2_
   refine s_nil ⟨(H.pk [1,3,4,5]),?_⟩
   obtain ⟨sd51z,hM⟩:=M.e_grd hM
   simp only [Bool.and_eq_true,decide_eq_true_eq] at sd51z
   refine t_q rfl (fun w' H=>x_ix (a:=Pq b_4) (b:=I i) (v:=.pointer (some ⟨b_4,0+Int.toNat i*1,none⟩)) rfl rfl (run_indexS Tryz.underlying113 Sz3 (by omega) (by omega))) ?_
   refine t_l rfl ?_
   refine t_stS (α:=Int) (kc:=2) (b:=b_4) (k:=1) (off:=0) (i:=(Int.toNat i)) (f:=0) (sz:=1) (segs:=[[],encF (α:=Int) s]) (segs':=[[],encF (α:=Int) (s.set (Int.toNat i) r4)]) (l:=s) (l':=s.set (Int.toNat i) r4) (vs:=[I r4]) (L':=[cOwn (α:=Int) 3 v44z ([(s.getD (Int.toNat (i+1)) 0:Int),(r3:Int)]),cBlk b_5 [.func (.func 60) #[] #[Pq b_1,Pq b_2]] 118,cBlk b_4 (List.flatten [[],encF (α:=Int) (s.set (Int.toNat i) r4)]) 113,cBlk b_3 [I threshold] 3,cBlk b_2 [I apart] 3,cBlk b_1 [v_l] 23]) H rfl rfl rfl Sz3 rfl rfl rfl rfl (sgo1 rfl) rfl rfl (by have hl_:=hl_s; omega) (by omega) 0 r4 rfl rfl rfl rfl ?_
   intro w52z H
   have hl53z:(s.set (Int.toNat i) r4).length=41:=List.length_set.trans hl_s
   refine s_nil ⟨(H.pk [1,3,4,5]),?_⟩
   obtain ⟨sd54z,hM⟩:=M.e_grd hM
   simp only [Bool.and_eq_true,decide_eq_true_eq] at sd54z
   refine kg 6 ?_
   exact ⟨m19z,lt20z,s.set (Int.toNat i) r4,i-1,_,upds_of _ _ ⟨rfl,rfl,rfl,rfl,rfl,rfl,trivial⟩,M.e_inl hM hN22z,(H.pk [1,2,3,4,5]),hl53z⟩
  skip
  obtain ⟨r56z,hx55z,hM⟩:=M.e_bind hM
  refine s_callv (f:=64) rfl cf64 [I i] rfl (zdg i l threshold s l apart (hC_l.app _) hs_l (Has.here (k:=4) rfl) (Has.here (k:=2) rfl) hl_s (Has.here (k:=1) rfl) (hC_l.app _) hs_l (Has.here (k:=4) rfl) (Has.here (k:=3) rfl) (Has.here (k:=0) rfl) hx55z _ (H.gt 5)) ?_
  rintro vq w57z ⟨r3,hr58z,hvq,H2_⟩
  subst hr58z
  subst vq
  try dsimp only at hM
  replace H:=H.bk H2_
  clear H2_
  refine s_nil ⟨(H.pk [0,2,3,4]),?_⟩
  refine t_l rfl ?_
  refine s_val (x_ld (p:=.pointer (some ⟨b_4,0+Int.toNat (i+1)*1,none⟩)) (v:=I (s.getD (Int.toNat (i+1)) 0)) rfl (ldS (α:=Int) (k:=1) (off:=0) (i:=(Int.toNat (i+1))) (f:=0) (sz:=1) 0 Sc3 (H.bl 1) rfl (sgo1 rfl) rfl (by decide) (by have hl_:=hl_s; omega) (by omega) rfl)) ?_
  refine s_nil ⟨(H.pk [0,2,3,4]),?_⟩
  refine t_l rfl ?_
  refine t_bs (α:=Int) T22 [I (s.getD (Int.toNat (i+1)) 0),I r3] [(s.getD (Int.toNat (i+1)) 0:Int),(r3:Int)] H rfl (.cons rfl (Flat.rep_enc _ (s.getD (Int.toNat (i+1)) 0:Int))<|.cons rfl (Flat.rep_enc _ (r3:Int))<|.nil) rfl rfl rfl ?_
  intro v59z w60z H
  have hvc_q61z:=Sl.cells (H.os 0)
  have hvo_q61z:=Sl.oc (H.os 0)
  refine s_nil ⟨(H.pk [1,3,4,5]),?_⟩
  refine t_l rfl ?_
  obtain ⟨r63z,hx62z,hM⟩:=M.e_bind hM
  refine s_call cf65 [v59z] rfl (zdj ([(s.getD (Int.toNat (i+1)) 0:Int),(r3:Int)]) (rdo 0) (H.os 0) hx62z _ (H.gt 6)) ?_
  rintro vq w64z ⟨r4,hr65z,hvq,H2_⟩
  subst hr65z
  subst vq
  try dsimp only at hM
  replace H:=H.bk H2_
  clear H2_
  refine s_nil ⟨(H.pk [1,3,4,5]),?_⟩
  obtain ⟨sd66z,hM⟩:=M.e_grd hM
  simp only [Bool.and_eq_true,decide_eq_true_eq] at sd66z
  refine t_q rfl (fun w' H=>x_ix (a:=Pq b_4) (b:=I i) (v:=.pointer (some ⟨b_4,0+Int.toNat i*1,none⟩)) rfl rfl (run_indexS Tryz.underlying113 Sz3 (by omega) (by omega))) ?_
  refine t_l rfl ?_
  refine t_stS (α:=Int) (kc:=2) (b:=b_4) (k:=1) (off:=0) (i:=(Int.toNat i)) (f:=0) (sz:=1) (segs:=[[],encF (α:=Int) s]) (segs':=[[],encF (α:=Int) (s.set (Int.toNat i) r4)]) (l:=s) (l':=s.set (Int.toNat i) r4) (vs:=[I r4]) (L':=[cOwn (α:=Int) 3 v59z ([(s.getD (Int.toNat (i+1)) 0:Int),(r3:Int)]),cBlk b_5 [.func (.func 60) #[] #[Pq b_1,Pq b_2]] 118,cBlk b_4 (List.flatten [[],encF (α:=Int) (s.set (Int.toNat i) r4)]) 113,cBlk b_3 [I threshold] 3,cBlk b_2 [I apart] 3,cBlk b_1 [v_l] 23]) H rfl rfl rfl Sz3 rfl rfl rfl rfl (sgo1 rfl) rfl rfl (by have hl_:=hl_s; omega) (by omega) 0 r4 rfl rfl rfl rfl ?_
  intro w67z H
  have hl68z:(s.set (Int.toNat i) r4).length=41:=List.length_set.trans hl_s
  refine s_nil ⟨(H.pk [1,3,4,5]),?_⟩
  obtain ⟨sd69z,hM⟩:=M.e_grd hM
  simp only [Bool.and_eq_true,decide_eq_true_eq] at sd69z
  refine kg 6 ?_
  exact ⟨m19z,lt20z,s.set (Int.toNat i) r4,i-1,_,upds_of _ _ ⟨rfl,rfl,rfl,rfl,rfl,rfl,trivial⟩,M.e_inl hM hN22z,(H.pk [1,2,3,4,5]),hl68z⟩
 replace hM:=M.e_f hM c23z
 simp only [qy1,qy2,qy3,qy4,qy5,qy6,ne_eq,qy7] at c23z
 refine W.exit ?_
 have hX70z:=M.e_inr hM hN22z
 subst hX70z
 replace hM:=hk15z
 try dsimp only at hM
 refine kg 10 ?_
 replace H:=H.nilOwn (α:=Int) 3
 obtain ⟨ex71z,hi72z,hk73z⟩:=M.e_bind hM
 obtain ⟨m0_,hi72z⟩:=M.e_iter hi72z
 refine W.loop (fun m σ W=>∃ (i2:Int) (l3:List Int) (v_l3:Value) (ρ:Env),σ=upds ρ [(3,Pq b_1),(5,Pq b_3),(10,Pq b_4),(11,Pq b_5),(12,.func (.func 64) #[] #[Pq b_1,Pq b_3,Pq b_4,Pq b_5]),(14,v_l3),(15,I i2)]/\M.iterN (zc1 l apart threshold s) m (i2,l3)=some ex71z/\St w W [cOwn (α:=Int) 3 v_l3 l3,cBlk b_5 [.func (.func 60) #[] #[Pq b_1,Pq b_2]] 118,cBlk b_4 (List.flatten [[],encF (α:=Int) s]) 113,cBlk b_3 [I threshold] 3,cBlk b_2 [I apart] 3,cBlk b_1 [v_l] 23] R) ?_ ?_
 ·exact ⟨_,0,[],(.slice none 0 0),_,upds_of _ _ ⟨rfl,rfl,rfl,rfl,rfl,rfl,rfl,trivial⟩,hi72z,H⟩
 rintro m76z σ w74z ⟨i2,l3,v_l3,ρ,rfl,hI75z,H⟩
 obtain ⟨m77z,lt78z,x79z,hM,hN80z⟩:=M.e_iterN hI75z
 simp only [zc1] at hM
 clear hI75z
 have hl81z:=(hs_l).len_le
 refine kg 8 ?_
 refine W.cond (decide (i2<(l.length:Int))) rfl (fun c82z=>?_) (fun c82z=>?_)
 ·replace hM:=M.e_t hM c82z
  simp only [qy1,qy2,qy3,qy4,qy5,qy6,ne_eq,qy7] at c82z
  refine kg 4 ?_
  refine W.draw (fun W=>St w W [cOwn (α:=Int) 3 v_l3 l3,cBlk b_5 [.func (.func 60) #[] #[Pq b_1,Pq b_2]] 118,cBlk b_4 (List.flatten [[],encF (α:=Int) s]) 113,cBlk b_3 [I threshold] 3,cBlk b_2 [I apart] 3,cBlk b_1 [v_l] 23] R) [(0,true),(1,true),(2,true),(3,true),(4,true),(5,true),(6,true),(7,true),(8,true),(9,true),(11,true),(12,true),(13,true),(10,false),(14,true),(15,true)] mixed (by decide +kernel) rfl ?_
  intro w83z hx_
  replace H:=H.ext hx_
  clear hx_
  refine ⟨(H.pk [0,1,2,3,4,5]),?_⟩
  obtain ⟨sd84z,hM⟩:=M.e_grd hM
  simp only [Bool.and_eq_true,decide_eq_true_eq] at sd84z
  obtain ⟨sd85z,hM⟩:=M.e_grd hM
  replace sd85z:=M.imp_of sd85z
  simp only [Bool.and_eq_true,decide_eq_true_eq] at sd85z
  refine kg 11 ?_
  refine d_qg (!(decide (((l.getD (Int.toNat i2) default).stage)<=threshold))) rfl (gy_f rfl) (fun hg=>(fun w' H=>x_ix (a:=Pq b_4) (b:=I i2) (v:=.pointer (some ⟨b_4,0+Int.toNat i2*1,none⟩)) rfl (gd_of (c:=!(decide (((l.getD (Int.toNat i2) default).stage)<=threshold))) hg (I i2)) (run_indexS Tryz.underlying113 Sz3 (by have h1_:=sd85z.resolve_left (by rw [hg]; decide); first | exact h1_ | exact h1_.1 | exact h1_.2 | omega | (have hx_:=hg; simp at hx_; omega)) (by have h1_:=sd85z.resolve_left (by rw [hg]; decide); first | exact h1_ | exact h1_.1 | exact h1_.2 | omega | (have hx_:=hg; simp at hx_; omega))))) ?_
  refine d_qg (!(decide (((l.getD (Int.toNat i2) default).stage)<=threshold))) rfl (gy_f rfl) (fun hg=>(fun w' H=>x_ld (p:=.pointer (some ⟨b_4,0+Int.toNat i2*1,none⟩)) (v:=I (s.getD (Int.toNat i2) 0)) (gd_of (c:=!(decide (((l.getD (Int.toNat i2) default).stage)<=threshold))) hg (.pointer (some ⟨b_4,0+Int.toNat i2*1,none⟩))) (ldS (α:=Int) (k:=1) (off:=0) (i:=(Int.toNat i2)) (f:=0) (sz:=1) 0 Sc3 (H.bl 2) rfl (sgo1 rfl) rfl (by decide) (by have hu_:=hl_s; have h1_:=sd85z.resolve_left (by rw [hg]; decide); first | exact h1_ | exact h1_.1 | exact h1_.2 | omega | (have hx_:=hg; simp at hx_; omega)) (by omega) rfl))) ?_
  refine d_l rfl ?_
  obtain ⟨r5,hx86z,hM⟩:=M.e_bind hM
  refine t_gcallv (cap:=[Pq b_1,Pq b_3,Pq b_4,Pq b_5]) (!(decide (((l.getD (Int.toNat i2) default).stage)<=threshold))) (gy_f rfl) cf64 (fun hg=>(gd_of (c:=!(decide (((l.getD (Int.toNat i2) default).stage)<=threshold))) hg (.func (.func 64) #[] #[Pq b_1,Pq b_3,Pq b_4,Pq b_5]))) (I r5) (fun _=>[I i2]) (fun hg=>lst1 (gd_of (c:=!(decide (((l.getD (Int.toNat i2) default).stage)<=threshold))) hg (I i2))) H (fun hg=>(zdg i2 l threshold s l apart (hC_l.app _) hs_l (Has.here (k:=5) rfl) (Has.here (k:=3) rfl) hl_s (Has.here (k:=2) rfl) (hC_l.app _) hs_l (Has.here (k:=5) rfl) (Has.here (k:=4) rfl) (Has.here (k:=1) rfl) (M.e_opt hx86z hg) _ (H.give (A:=[]) rfl)).mono fun v_ w_ ⟨y_,hr_,hv_,H_⟩=>by subst hr_; exact ⟨hv_,H.via H_⟩) ?_
  intro w87z H
  refine s_nil ⟨(H.pk [0,1,2,3,4,5]),?_⟩
  refine kg 3 ?_
  refine W.cond ((decide (((l.getD (Int.toNat i2) default).stage)<=threshold))||(decide (r5<(s.getD (Int.toNat i2) 0)))) rfl (fun c88z=>?_) (fun c88z=>?_)
  ·replace hM:=M.e_t hM c88z
   refine kg 6 ?_
   refine W.exit ?_
   exact ⟨m77z,lt78z,i2+1,l3,v_l3,_,upds_of _ _ ⟨rfl,rfl,rfl,rfl,rfl,rfl,rfl,trivial⟩,M.e_inl hM hN80z,H⟩
  replace hM:=M.e_f hM c88z
  refine kg 5 ?_
  refine t_bs (α:=Int) T22 [I i2] [(i2:Int)] H rfl (.cons rfl (Flat.rep_enc _ (i2:Int))<|.nil) rfl rfl rfl ?_
  intro v89z w90z H
  obtain ⟨sd91z,hM⟩:=M.e_grd hM
  simp only [Bool.and_eq_true,decide_eq_true_eq] at sd91z
  refine t_app (α:=Int) (k:=1) (l:=l3) (l2:=[(i2:Int)]) (l':=l3++([(i2:Int)])) (vy:=v89z) T22 rfl H rfl rfl rfl (H.os 0) (H.ol 0) (rfl) (by first | omega | (simp only [List.length_nil] at *; omega)) ?_
  intro v92z w93z H
  replace H:=H.nf
  refine kg 5 ?_
  obtain ⟨r95z,hx94z,hM⟩:=M.e_bind hM
  refine s_callv (f:=60) rfl cf60 [I i2] rfl (zdy i2 l apart (hC_l.app _) hs_l (Has.here (k:=6) rfl) (Has.here (k:=5) rfl) hx94z _ (H.gt 7)) ?_
  rintro vq w96z ⟨r6,hr97z,hvq,H2_⟩
  subst hr97z
  subst vq
  try dsimp only at hM
  replace H:=H.bk H2_
  clear H2_
  refine kg 2 ?_
  exact ⟨m77z,lt78z,r6,l3++([(i2:Int)]),v92z,_,upds_of _ _ ⟨rfl,rfl,rfl,rfl,rfl,rfl,rfl,trivial⟩,M.e_inl hM hN80z,(H.pk [1,2,3,4,5,6])⟩
 replace hM:=M.e_f hM c82z
 simp only [qy1,qy2,qy3,qy4,qy5,qy6,ne_eq,qy7] at c82z
 refine W.exit ?_
 have hX98z:=M.e_inr hM hN80z
 subst hX98z
 replace hM:=hk73z
 try dsimp only at hM
 refine W.seq ?_
 refine W.draw (fun W=>St w W [cOwn (α:=Int) 3 v_l3 l3,cBlk b_5 [.func (.func 60) #[] #[Pq b_1,Pq b_2]] 118,cBlk b_4 (List.flatten [[],encF (α:=Int) s]) 113,cBlk b_3 [I threshold] 3,cBlk b_2 [I apart] 3,cBlk b_1 [v_l] 23] R) [(0,true),(1,true),(2,true),(3,true),(4,true),(5,true)] mixed (by decide +kernel) rfl ?_
 intro w99z hx_
 replace H:=H.ext hx_
 clear hx_
 refine ⟨(H.pk [0,1,2,3,4,5]),?_⟩
 obtain ⟨sd100z,hM⟩:=M.e_grd hM
 simp only [Bool.and_eq_true,decide_eq_true_eq] at sd100z
 refine kg 1 ?_
 refine d_q rfl (fun w' H=>x_ix (a:=Pq b_4) (b:=I 0) (v:=.pointer (some ⟨b_4,0+Int.toNat 0*1,none⟩)) rfl rfl (run_indexS Tryz.underlying113 Sz3 (by omega) (by omega))) ?_
 refine d_q rfl (fun w' H=>x_ld (p:=.pointer (some ⟨b_4,0+Int.toNat 0*1,none⟩)) (v:=I (s.getD 0 0)) rfl (ldS (α:=Int) (k:=1) (off:=0) (i:=0) (f:=0) (sz:=1) 0 Sc3 (H.bl 2) rfl (sgo1 rfl) rfl (by decide) (by have hl_:=hl_s; omega) (by omega) rfl)) ?_
 refine kg 4 ?_
 refine W.ret ?_
 have hr_:=M.e_pure hM
 exact ⟨_,resE_tmp3 rfl,⟨l3,(s.getD 0 0),0,v_l3,hr_,rfl,(H.pk [0])⟩⟩

def zaC (l:List Int) (last:Int):(Int × Nat)->M ((Int × Nat) ⊕ (Unit ⊕ Unit)):=fun (first2,s) =>
  bif decide ((s:Int)<(l.length:Int)) then (
  M.grd (decide ((s:Int)<(l.length:Int))) <|
  M.bind (zab (l.getD s 0) first2 last) fun r2 =>
  bif !r2 then (
  M.pure (.inr (.inl ())))
  else (
  M.grd (decide ((-9223372036854775808:Int)<=((l.getD s 0)+1))&&decide (((l.getD s 0)+1)<=(9223372036854775807:Int))) <|
  M.pure (.inl ((l.getD s 0)+1,s+1))))
  else (
  M.pure (.inr (.inr ())))
def zau (l:List Int) (first:Int) (last:Int):M Bool :=
  M.bind (M.iter (zaC l last) (first,0)) fun x_=>match x_ with
  | (.inl (_:Unit))=>(
  M.pure false)
  | (.inr (_:Unit))=>(
  M.pure true)
theorem zdN {R:List Chunk} {C_l:Cells} {v_l:Value} (l:List Int) (first:Int) (last:Int) (hC_l:Reads R C_l) (hs_l:Sl C_l v_l l) {r:Bool} (hM:(zau l first last).Ends r) (w:World) (H:St w w [] R):Ret Tryz.prog 58 #[v_l,I first,I last] w fun v w'=>∃ (y0:Bool),y0=r/\v=B y0/\St w w' [] R:=by
 refine ret_of_W Tryz.func58 rfl rfl rfl ?_
 have hl1z:=(hs_l).len_le
 refine kg 12 ?_
 obtain ⟨ex2z,hi3z,hk4z⟩:=M.e_bind hM
 obtain ⟨m0_,hi3z⟩:=M.e_iter hi3z
 refine W.loop (fun m σ W=>∃ (first2:Int) (s:Nat) (ρ:Env),σ=upds ρ [(1,I first2),(2,I last),(9,v_l),(10,I (l.length:Int)),(11,I (s:Int))]/\M.iterN (zaC l last) m (first2,s)=some ex2z/\St w W [] R) ?_ ?_
 ·exact ⟨_,first,0,_,upds_of _ _ ⟨rfl,rfl,rfl,rfl,rfl,trivial⟩,hi3z,H⟩
 rintro m7z σ w5z ⟨first2,s,ρ,rfl,hI6z,H⟩
 obtain ⟨m8z,lt9z,x10z,hM,hN11z⟩:=M.e_iterN hI6z
 simp only [zaC] at hM
 clear hI6z
 refine kg 5 ?_
 refine W.cond (decide ((s:Int)<(l.length:Int))) rfl (fun c12z=>?_) (fun c12z=>?_)
 ·replace hM:=M.e_t hM c12z
  simp only [qy1,qy2,qy3,qy4,qy5,qy6,ne_eq,qy7] at c12z
  obtain ⟨sd13z,hM⟩:=M.e_grd hM
  simp only [Bool.and_eq_true,decide_eq_true_eq] at sd13z
  refine kg 15 ?_
  obtain ⟨r15z,hx14z,hM⟩:=M.e_bind hM
  refine s_call cf45 [I (l.getD s 0),I first2,I last] rfl (zad (l.getD s 0) first2 last hx14z _ (H.gt 0)) ?_
  rintro vq w16z ⟨r2,hr17z,hvq,H2_⟩
  subst hr17z
  subst vq
  try dsimp only at hM
  replace H:=H.bk H2_
  clear H2_
  refine kg 2 ?_
  refine W.cond (!r2) rfl (fun c18z=>?_) (fun c18z=>?_)
  ·replace hM:=M.e_t hM c18z
   refine kg 4 ?_
   refine W.ret ?_
   have hX19z:=M.e_inr hM hN11z
   subst hX19z
   replace hM:=hk4z
   try dsimp only at hM
   have hr_:=M.e_pure hM
   exact ⟨_,resE_tmp rfl,⟨false,hr_,rfl,H⟩⟩
  replace hM:=M.e_f hM c18z
  obtain ⟨sd20z,hM⟩:=M.e_grd hM
  simp only [Bool.and_eq_true,decide_eq_true_eq] at sd20z
  refine kg 10 ?_
  exact ⟨m8z,lt9z,(l.getD s 0)+1,s+1,_,upds_of _ _ ⟨rfl,rfl,rfl,rfl,rfl,trivial⟩,M.e_inl hM hN11z,H⟩
 replace hM:=M.e_f hM c12z
 simp only [qy1,qy2,qy3,qy4,qy5,qy6,ne_eq,qy7] at c12z
 refine W.exit ?_
 have hX21z:=M.e_inr hM hN11z
 subst hX21z
 replace hM:=hk4z
 try dsimp only at hM
 refine kg 4 ?_
 refine W.ret ?_
 have hr_:=M.e_pure hM
 exact ⟨_,resE_tmp rfl,⟨true,hr_,rfl,H⟩⟩

def zcu (l:List Pk) (apart:Int) (threshold:Int) (choice:List Int):(Int × Nat)->M ((Int × Nat) ⊕ (Unit ⊕ Int)):=fun (worth,s) =>
  bif decide ((s:Int)<(choice.length:Int)) then (
  M.grd (decide ((s:Int)<(choice.length:Int))) <|
  M.grd (decide ((0:Int)<=(choice.getD s 0))&&decide ((choice.getD s 0)<(l.length:Int))) <|
  M.grd ((!((!(decide (((l.getD (Int.toNat (choice.getD s 0)) default).stage)<=threshold)))&&(decide (0<(s:Int))))||(decide ((-9223372036854775808:Int)<=((s:Int)-1))&&decide (((s:Int)-1)<=(9223372036854775807:Int))))) <|
  M.grd ((!((!(decide (((l.getD (Int.toNat (choice.getD s 0)) default).stage)<=threshold)))&&(decide (0<(s:Int))))||(decide ((0:Int)<=((s:Int)-1))&&decide (((s:Int)-1)<(choice.length:Int))))) <|
  M.grd ((!((!(decide (((l.getD (Int.toNat (choice.getD s 0)) default).stage)<=threshold)))&&(decide (0<(s:Int))))||(decide ((0:Int)<=(choice.getD (Int.toNat ((s:Int)-1)) 0))&&decide ((choice.getD (Int.toNat ((s:Int)-1)) 0)<(l.length:Int))))) <|
  M.grd ((!((!(decide (((l.getD (Int.toNat (choice.getD s 0)) default).stage)<=threshold)))&&(decide (0<(s:Int))))||(decide ((-9223372036854775808:Int)<=(((l.getD (Int.toNat (choice.getD s 0)) default).day)-((l.getD (Int.toNat (choice.getD (Int.toNat ((s:Int)-1)) 0)) default).day)))&&decide ((((l.getD (Int.toNat (choice.getD s 0)) default).day)-((l.getD (Int.toNat (choice.getD (Int.toNat ((s:Int)-1)) 0)) default).day))<=(9223372036854775807:Int))))) <|
  bif ((decide (((l.getD (Int.toNat (choice.getD s 0)) default).stage)<=threshold))||((decide (0<(s:Int)))&&(decide ((((l.getD (Int.toNat (choice.getD s 0)) default).day)-((l.getD (Int.toNat (choice.getD (Int.toNat ((s:Int)-1)) 0)) default).day))<apart)))) then (
  M.pure (.inr (.inl ())))
  else (
  M.grd (decide ((-9223372036854775808:Int)<=(((l.getD (Int.toNat (choice.getD s 0)) default).stage)-threshold))&&decide ((((l.getD (Int.toNat (choice.getD s 0)) default).stage)-threshold)<=(9223372036854775807:Int))) <|
  M.grd (decide ((-9223372036854775808:Int)<=(worth+(((l.getD (Int.toNat (choice.getD s 0)) default).stage)-threshold)))&&decide ((worth+(((l.getD (Int.toNat (choice.getD s 0)) default).stage)-threshold))<=(9223372036854775807:Int))) <|
  M.pure (.inl (worth+(((l.getD (Int.toNat (choice.getD s 0)) default).stage)-threshold),s+1))))
  else (
  M.pure (.inr (.inr worth)))
def zbJ (l:List Pk) (apart:Int) (threshold:Int) (choice:List Int):M (Int × Int) :=
  M.bind (zaN l apart threshold) fun r2 =>
  bif r2 != 0 then (
  M.pure (0,r2))
  else (
  M.bind (zau choice 0 ((l.length:Int)-1)) fun r3 =>
  bif !r3 then (
  M.pure (0,2))
  else (
  M.bind (M.iter (zcu l apart threshold choice) (0,0)) fun x_=>match x_ with
  | (.inl (_:Unit))=>(
  M.pure (0,7))
  | (.inr worth2)=>(
  M.pure (worth2,0))))
theorem zdE {R:List Chunk} {C_l:Cells} {v_l:Value} {C_choice:Cells} {v_choice:Value} (l:List Pk) (apart:Int) (threshold:Int) (choice:List Int) (hC_l:Reads R C_l) (hs_l:Sl C_l v_l l) (hC_choice:Reads R C_choice) (hs_choice:Sl C_choice v_choice choice) {r:(Int × Int)} (hM:(zbJ l apart threshold choice).Ends r) (w:World) (H:St w w [] R):Ret Tryz.prog 20 #[v_l,I apart,I threshold,v_choice] w fun v w'=>∃ (y0:Int) (y1:Int),(y0,y1)=r/\v = .tuple #[I y0,I y1]/\St w w' [] R:=by
 refine ret_of_W Tryz.func20 rfl rfl rfl ?_
 refine kg 11 ?_
 obtain ⟨r2z,hx1z,hM⟩:=M.e_bind hM
 refine s_call cf57 [v_l,I apart,I threshold] rfl (zcG l apart threshold (hC_l.app _) hs_l hx1z _ (H.gt 0)) ?_
 rintro vq w3z ⟨r2,hr4z,hvq,H2_⟩
 subst hr4z
 subst vq
 try dsimp only at hM
 replace H:=H.bk H2_
 clear H2_
 refine kg 7 ?_
 refine W.cond (r2 != 0) rfl (fun c5z=>?_) (fun c5z=>?_)
 ·replace hM:=M.e_t hM c5z
  simp only [qy1,qy2,qy3,qy4,qy5,qy6,ne_eq,qy7] at c5z
  refine kg 6 ?_
  refine W.ret ?_
  have hr_:=M.e_pure hM
  exact ⟨_,resE_tmp2 rfl,⟨0,r2,hr_,rfl,H⟩⟩
 replace hM:=M.e_f hM c5z
 simp only [qy1,qy2,qy3,qy4,qy5,qy6,ne_eq,qy7] at c5z
 have hl6z:=(hs_l).len_le
 refine kg 8 ?_
 obtain ⟨r8z,hx7z,hM⟩:=M.e_bind hM
 refine s_call cf58 [v_choice,I 0,I ((l.length:Int)-1)] rfl (zdN choice 0 ((l.length:Int)-1) (hC_choice.app _) hs_choice hx7z _ (H.gt 0)) ?_
 rintro vq w9z ⟨r3,hr10z,hvq,H2_⟩
 subst hr10z
 subst vq
 try dsimp only at hM
 replace H:=H.bk H2_
 clear H2_
 refine kg 2 ?_
 refine W.cond (!r3) rfl (fun c11z=>?_) (fun c11z=>?_)
 ·replace hM:=M.e_t hM c11z
  refine kg 5 ?_
  refine W.ret ?_
  have hr_:=M.e_pure hM
  exact ⟨_,resE_tmp2 rfl,⟨0,2,hr_,rfl,H⟩⟩
 replace hM:=M.e_f hM c11z
 have hl12z:=(hs_choice).len_le
 refine kg 13 ?_
 obtain ⟨ex13z,hi14z,hk15z⟩:=M.e_bind hM
 obtain ⟨m0_,hi14z⟩:=M.e_iter hi14z
 refine W.loop (fun m σ W=>∃ (worth:Int) (s:Nat) (ρ:Env),σ=upds ρ [(0,v_l),(1,I apart),(2,I threshold),(3,v_choice),(11,I worth),(27,v_choice),(28,I (choice.length:Int)),(29,I (s:Int))]/\M.iterN (zcu l apart threshold choice) m (worth,s)=some ex13z/\St w W [] R) ?_ ?_
 ·exact ⟨_,0,0,_,upds_of _ _ ⟨rfl,rfl,rfl,rfl,rfl,rfl,rfl,rfl,trivial⟩,hi14z,H⟩
 rintro m18z σ w16z ⟨worth,s,ρ,rfl,hI17z,H⟩
 obtain ⟨m19z,lt20z,x21z,hM,hN22z⟩:=M.e_iterN hI17z
 simp only [zcu] at hM
 clear hI17z
 refine kg 5 ?_
 refine W.cond (decide ((s:Int)<(choice.length:Int))) rfl (fun c23z=>?_) (fun c23z=>?_)
 ·replace hM:=M.e_t hM c23z
  simp only [qy1,qy2,qy3,qy4,qy5,qy6,ne_eq,qy7] at c23z
  obtain ⟨sd24z,hM⟩:=M.e_grd hM
  simp only [Bool.and_eq_true,decide_eq_true_eq] at sd24z
  refine kg 13 ?_
  refine W.draw (fun W=>St w W [] R) [(0,true),(1,true),(2,true),(3,true),(4,true),(5,true),(6,true),(7,true),(8,true),(9,true),(10,true),(11,true),(12,true),(13,true),(14,true),(15,true),(16,true),(17,true),(18,true),(19,true),(20,true),(21,true),(22,true),(23,true),(24,true),(25,true),(26,true),(27,true),(28,true),(29,true)] mixed (by decide +kernel) rfl ?_
  intro w25z hx_
  replace H:=H.ext hx_
  clear hx_
  refine ⟨(H.pk []),?_⟩
  obtain ⟨sd26z,hM⟩:=M.e_grd hM
  simp only [Bool.and_eq_true,decide_eq_true_eq] at sd26z
  obtain ⟨sd27z,hM⟩:=M.e_grd hM
  replace sd27z:=M.imp_of sd27z
  simp only [Bool.and_eq_true,decide_eq_true_eq] at sd27z
  obtain ⟨sd28z,hM⟩:=M.e_grd hM
  replace sd28z:=M.imp_of sd28z
  simp only [Bool.and_eq_true,decide_eq_true_eq] at sd28z
  obtain ⟨sd29z,hM⟩:=M.e_grd hM
  replace sd29z:=M.imp_of sd29z
  simp only [Bool.and_eq_true,decide_eq_true_eq] at sd29z
  obtain ⟨sd30z,hM⟩:=M.e_grd hM
  replace sd30z:=M.imp_of sd30z
  simp only [Bool.and_eq_true,decide_eq_true_eq] at sd30z
  refine kg 31 ?_
  refine W.cond ((decide (((l.getD (Int.toNat (choice.getD s 0)) default).stage)<=threshold))||((decide (0<(s:Int)))&&(decide ((((l.getD (Int.toNat (choice.getD s 0)) default).day)-((l.getD (Int.toNat (choice.getD (Int.toNat ((s:Int)-1)) 0)) default).day))<apart)))) rfl (fun c31z=>?_) (fun c31z=>?_)
  ·replace hM:=M.e_t hM c31z
   refine kg 5 ?_
   refine W.ret ?_
   have hX32z:=M.e_inr hM hN22z
   subst hX32z
   replace hM:=hk15z
   try dsimp only at hM
   have hr_:=M.e_pure hM
   exact ⟨_,resE_tmp2 rfl,⟨0,7,hr_,rfl,H⟩⟩
  replace hM:=M.e_f hM c31z
  obtain ⟨sd33z,hM⟩:=M.e_grd hM
  simp only [Bool.and_eq_true,decide_eq_true_eq] at sd33z
  obtain ⟨sd34z,hM⟩:=M.e_grd hM
  simp only [Bool.and_eq_true,decide_eq_true_eq] at sd34z
  refine kg 17 ?_
  exact ⟨m19z,lt20z,worth+(((l.getD (Int.toNat (choice.getD s 0)) default).stage)-threshold),s+1,_,upds_of _ _ ⟨rfl,rfl,rfl,rfl,rfl,rfl,rfl,rfl,trivial⟩,M.e_inl hM hN22z,H⟩
 replace hM:=M.e_f hM c23z
 simp only [qy1,qy2,qy3,qy4,qy5,qy6,ne_eq,qy7] at c23z
 refine W.exit ?_
 have hX35z:=M.e_inr hM hN22z
 subst hX35z
 replace hM:=hk15z
 try dsimp only at hM
 refine kg 6 ?_
 refine W.ret ?_
 have hr_:=M.e_pure hM
 exact ⟨_,resE_tmp2 rfl,⟨worth,0,hr_,rfl,H⟩⟩

def zbW (s:List Int) (f:Int->M Bool):Nat->M (Nat ⊕ (Int ⊕ Unit)):=fun s2 =>
  bif decide ((s2:Int)<(s.length:Int)) then (
  M.grd (decide ((s2:Int)<(s.length:Int))) <|
  M.bind (f (s.getD s2 0)) fun r2 =>
  bif r2 then (
  M.pure (.inr (.inl (s2:Int))))
  else (
  M.pure (.inl (s2+1))))
  else (
  M.pure (.inr (.inr ())))
def zbN (s:List Int) (f:Int->M Bool):M Int :=
  M.bind (M.iter (zbW s f) 0) fun x_=>match x_ with
  | (.inl s3)=>(
  M.pure s3)
  | (.inr (_:Unit))=>(
  M.pure (-1))
theorem zd9 {R:List Chunk} {C_s:Cells} {v_s:Value} {v_f:Value} (s:List Int) (f:Int->M Bool) (hC_s:Reads R C_s) (hs_s:Sl C_s v_s s) (hf_f:FnM Tryz.prog R v_f f) {r:Int} (hM:(zbN s f).Ends r) (w:World) (H:St w w [] R):Ret Tryz.prog 102 #[v_s,v_f] w fun v w'=>∃ (y0:Int),y0=r/\v=I y0/\St w w' [] R:=by
 refine ret_of_W Tryz.func102 rfl rfl rfl ?_
 have hl1z:=(hs_s).len_le
 refine kg 12 ?_
 obtain ⟨ex2z,hi3z,hk4z⟩:=M.e_bind hM
 obtain ⟨m0_,hi3z⟩:=M.e_iter hi3z
 refine W.loop (fun m σ W=>∃ (s2:Nat) (ρ:Env),σ=upds ρ [(0,v_s),(1,v_f),(7,I (s.length:Int)),(8,I (s2:Int))]/\M.iterN (zbW s f) m s2=some ex2z/\St w W [] R) ?_ ?_
 ·exact ⟨_,0,_,upds_of _ _ ⟨rfl,rfl,rfl,rfl,trivial⟩,hi3z,H⟩
 rintro m7z σ w5z ⟨s2,ρ,rfl,hI6z,H⟩
 obtain ⟨m8z,lt9z,x10z,hM,hN11z⟩:=M.e_iterN hI6z
 simp only [zbW] at hM
 clear hI6z
 refine kg 5 ?_
 refine W.cond (decide ((s2:Int)<(s.length:Int))) rfl (fun c12z=>?_) (fun c12z=>?_)
 ·replace hM:=M.e_t hM c12z
  simp only [qy1,qy2,qy3,qy4,qy5,qy6,ne_eq,qy7] at c12z
  obtain ⟨sd13z,hM⟩:=M.e_grd hM
  simp only [Bool.and_eq_true,decide_eq_true_eq] at sd13z
  refine kg 15 ?_
  obtain ⟨r2,hx15z,hM⟩:=M.e_bind hM
  refine t_callM H hf_f rfl rfl (s.getD s2 0) Reads.none (Arg.mkI (fun _=>none) _) hx15z ?_
  intro w14z H
  refine s_nil ?_
  refine W.cond r2 rfl (fun c16z=>?_) (fun c16z=>?_)
  ·replace hM:=M.e_t hM c16z
   refine kg 5 ?_
   refine W.ret ?_
   have hX17z:=M.e_inr hM hN11z
   subst hX17z
   replace hM:=hk4z
   try dsimp only at hM
   have hr_:=M.e_pure hM
   exact ⟨_,resE_tmp rfl,⟨(s2:Int),hr_,rfl,H⟩⟩
  replace hM:=M.e_f hM c16z
  refine kg 5 ?_
  exact ⟨m8z,lt9z,s2+1,_,upds_of _ _ ⟨rfl,rfl,rfl,rfl,trivial⟩,M.e_inl hM hN11z,H⟩
 replace hM:=M.e_f hM c12z
 simp only [qy1,qy2,qy3,qy4,qy5,qy6,ne_eq,qy7] at c12z
 refine W.exit ?_
 have hX18z:=M.e_inr hM hN11z
 subst hX18z
 replace hM:=hk4z
 try dsimp only at hM
 refine kg 4 ?_
 refine W.ret ?_
 have hr_:=M.e_pure hM
 exact ⟨_,resE_tmp rfl,⟨(-1),hr_,rfl,H⟩⟩

def zdc (s:List Int) (f:Int->M Bool):M Bool :=
  M.bind (zbN s f) fun r2 =>
  M.pure (decide (0<=r2))
theorem zdS {R:List Chunk} {C_s:Cells} {v_s:Value} {v_f:Value} (s:List Int) (f:Int->M Bool) (hC_s:Reads R C_s) (hs_s:Sl C_s v_s s) (hf_f:FnM Tryz.prog R v_f f) {r:Bool} (hM:(zdc s f).Ends r) (w:World) (H:St w w [] R):Ret Tryz.prog 87 #[v_s,v_f] w fun v w'=>∃ (y0:Bool),y0=r/\v=B y0/\St w w' [] R:=by
 refine ret_of_W Tryz.func87 rfl rfl rfl ?_
 refine kg 8 ?_
 obtain ⟨r2z,hx1z,hM⟩:=M.e_bind hM
 refine s_call cf102 [v_s,v_f] rfl (zd9 s f (hC_s.app _) hs_s (hf_f.app _) hx1z _ (H.gt 0)) ?_
 rintro vq w3z ⟨r2,hr4z,hvq,H2_⟩
 subst hr4z
 subst vq
 try dsimp only at hM
 replace H:=H.bk H2_
 clear H2_
 refine kg 3 ?_
 refine W.ret ?_
 have hr_:=M.e_pure hM
 exact ⟨_,resE_tmp rfl,⟨(decide (0<=r2)),hr_,rfl,H⟩⟩

def zch (x:Int) (k02:Int->M Bool):M Bool :=
  M.bind (k02 x) fun r2 =>
  M.pure (!r2)
theorem zeb {R:List Chunk} {b_k0:Nat} {v_k02:Value} (x:Int) (k02:Int->M Bool) (hf_k02:FnM Tryz.prog R v_k02 k02) (h_b_k0:Has R (cBlk b_k0 [v_k02] 96)) {r:Bool} (hM:(zch x k02).Ends r) (w:World) (H:St w w [] R):Ret Tryz.prog 88 #[I x,Pq b_k0] w fun v w'=>∃ (y0:Bool),y0=r/\v=B y0/\St w w' [] R:=by
 refine ret_of_W Tryz.func88 rfl rfl rfl ?_
 refine kg 8 ?_
 obtain ⟨r2,hx2z,hM⟩:=M.e_bind hM
 refine t_callM H hf_k02 rfl rfl x Reads.none (Arg.mkI (fun _=>none) _) hx2z ?_
 intro w1z H
 refine kg 3 ?_
 refine W.ret ?_
 have hr_:=M.e_pure hM
 exact ⟨_,resE_tmp rfl,⟨(!r2),hr_,rfl,H⟩⟩

def zcq (l:List Int) (so:Int->M Bool):M Bool :=
  M.bind (zdc l (fun xqz=>zch xqz so)) fun r2 =>
  M.pure (!r2)
theorem zdB {R:List Chunk} {C_l:Cells} {v_l:Value} {v_so:Value} (l:List Int) (so:Int->M Bool) (hC_l:Reads R C_l) (hs_l:Sl C_l v_l l) (hf_so:FnM Tryz.prog R v_so so) {r:Bool} (hM:(zcq l so).Ends r) (w:World) (H:St w w [] R):Ret Tryz.prog 68 #[v_l,v_so] w fun v w'=>∃ (y0:Bool),y0=r/\v=B y0/\St w w' [] R:=by
 refine ret_of_W Tryz.func68 rfl rfl rfl ?_
 refine kg 2 ?_
 refine t_box (v:=v_so) (cs:=[v_so]) H rfl (FnM.cells hf_so) ?_
 intro b_1 w1z H
 refine kg 5 ?_
 refine s_val (x_mf (fs:=[]) (cs:=[Pq b_1]) rfl rfl) ?_
 obtain ⟨r3z,hx2z,hM⟩:=M.e_bind hM
 refine s_call cf87 [v_l,.func (.func 88) #[] #[Pq b_1]] rfl (zdS l (fun xqz=>zch xqz so) (hC_l.app _) hs_l ⟨88,[Pq b_1],rfl,cf88,fun wqz Lqz Cqz vqz xqz bqz hsqz hCqz hAqz hpqz=>by obtain rfl:=Arg.int hAqz; exact (zeb xqz so (FnM.app (hf_so.app _) _) (Has.app (Has.here (k:=0) rfl) _) hpqz wqz (St.refl hsqz)).mono fun vqz wqz ⟨yqz,hrqz,hvqz,Hqz⟩=>by subst hrqz; exact ⟨hvqz,Hqz⟩⟩ hx2z _ (H.gt 1)) ?_
 rintro vq w4z ⟨r2,hr5z,hvq,H2_⟩
 subst hr5z
 subst vq
 try dsimp only at hM
 replace H:=H.bk H2_
 clear H2_
 refine kg 3 ?_
 refine W.ret ?_
 have hr_:=M.e_pure hM
 exact ⟨_,resE_tmp rfl,⟨(!r2),hr_,rfl,(H.pk [])⟩⟩

def zcB (n:Int):M Bool :=
  M.bind (zab n 0 2000) fun r2 =>
  M.pure r2
theorem zed {R:List Chunk}  (n:Int)  {r:Bool} (hM:(zcB n).Ends r) (w:World) (H:St w w [] R):Ret Tryz.prog 69 #[I n] w fun v w'=>∃ (y0:Bool),y0=r/\v=B y0/\St w w' [] R:=by
 refine ret_of_W Tryz.func69 rfl rfl rfl ?_
 refine kg 7 ?_
 obtain ⟨r2z,hx1z,hM⟩:=M.e_bind hM
 refine s_call cf45 [I n,I 0,I 2000] rfl (zad n 0 2000 hx1z _ (H.gt 0)) ?_
 rintro vq w3z ⟨r2,hr4z,hvq,H2_⟩
 subst hr4z
 subst vq
 try dsimp only at hM
 replace H:=H.bk H2_
 clear H2_
 refine kg 2 ?_
 refine W.ret ?_
 have hr_:=M.e_pure hM
 exact ⟨_,resE_tmp rfl,⟨r2,hr_,rfl,H⟩⟩

def zcC (l:List Pk) (i:Int) (apart:Int):Int->M (Int ⊕ Int):=fun s =>
  M.grd ((!(decide (s<(l.length:Int)))||(decide ((0:Int)<=s)&&decide (s<(l.length:Int))))) <|
  M.grd ((!(decide (s<(l.length:Int)))||(decide ((0:Int)<=i)&&decide (i<(l.length:Int))))) <|
  M.grd ((!(decide (s<(l.length:Int)))||(decide ((-9223372036854775808:Int)<=(((l.getD (Int.toNat i) default).day)+apart))&&decide ((((l.getD (Int.toNat i) default).day)+apart)<=(9223372036854775807:Int))))) <|
  bif ((decide (s<(l.length:Int)))&&(decide (((l.getD (Int.toNat s) default).day)<(((l.getD (Int.toNat i) default).day)+apart)))) then (
  M.grd (decide ((-9223372036854775808:Int)<=(s+1))&&decide ((s+1)<=(9223372036854775807:Int))) <|
  M.pure (.inl (s+1)))
  else (
  M.pure (.inr s))
def zbj (l:List Pk) (i:Int) (apart:Int):M Int :=
  M.bind (M.iter (zcC l i apart) i) fun s2 =>
  M.pure s2
theorem zdx {R:List Chunk} {C_l:Cells} {v_l:Value} (l:List Pk) (i:Int) (apart:Int) (hC_l:Reads R C_l) (hs_l:Sl C_l v_l l) {r:Int} (hM:(zbj l i apart).Ends r) (w:World) (H:St w w [] R):Ret Tryz.prog 67 #[v_l,I i,I apart] w fun v w'=>∃ (y0:Int),y0=r/\v=I y0/\St w w' [] R:=by
 refine ret_of_W Tryz.func67 rfl rfl rfl ?_
 refine kg 11 ?_
 obtain ⟨ex1z,hi2z,hk3z⟩:=M.e_bind hM
 obtain ⟨m0_,hi2z⟩:=M.e_iter hi2z
 refine W.loop (fun m σ W=>∃ (s:Int) (ρ:Env),σ=upds ρ [(0,v_l),(1,I i),(2,I apart),(7,I s)]/\M.iterN (zcC l i apart) m s=some ex1z/\St w W [] R) ?_ ?_
 ·exact ⟨_,i,_,upds_of _ _ ⟨rfl,rfl,rfl,rfl,trivial⟩,hi2z,H⟩
 rintro m6z σ w4z ⟨s,ρ,rfl,hI5z,H⟩
 obtain ⟨m7z,lt8z,x9z,hM,hN10z⟩:=M.e_iterN hI5z
 simp only [zcC] at hM
 clear hI5z
 refine kg 2 ?_
 refine W.draw (fun W=>St w W [] R) [(0,true),(1,true),(2,true),(3,true),(4,true),(5,true),(6,true),(7,true),(8,true),(9,true),(10,true),(11,true),(12,true),(13,true),(14,true),(15,true),(16,true),(17,true),(18,true)] mixed (by decide +kernel) rfl ?_
 intro w11z hx_
 replace H:=H.ext hx_
 clear hx_
 refine ⟨(H.pk []),?_⟩
 have hl12z:=(hs_l).len_le
 obtain ⟨sd13z,hM⟩:=M.e_grd hM
 replace sd13z:=M.imp_of sd13z
 simp only [Bool.and_eq_true,decide_eq_true_eq] at sd13z
 obtain ⟨sd14z,hM⟩:=M.e_grd hM
 replace sd14z:=M.imp_of sd14z
 simp only [Bool.and_eq_true,decide_eq_true_eq] at sd14z
 obtain ⟨sd15z,hM⟩:=M.e_grd hM
 replace sd15z:=M.imp_of sd15z
 simp only [Bool.and_eq_true,decide_eq_true_eq] at sd15z
 refine kg 20 ?_
 refine W.cond ((decide (s<(l.length:Int)))&&(decide (((l.getD (Int.toNat s) default).day)<(((l.getD (Int.toNat i) default).day)+apart)))) rfl (fun c16z=>?_) (fun c16z=>?_)
 ·replace hM:=M.e_t hM c16z
  obtain ⟨sd17z,hM⟩:=M.e_grd hM
  simp only [Bool.and_eq_true,decide_eq_true_eq] at sd17z
  refine kg 7 ?_
  exact ⟨m7z,lt8z,s+1,_,upds_of _ _ ⟨rfl,rfl,rfl,rfl,trivial⟩,M.e_inl hM hN10z,H⟩
 replace hM:=M.e_f hM c16z
 refine W.exit ?_
 have hX18z:=M.e_inr hM hN10z
 subst hX18z
 replace hM:=hk3z
 try dsimp only at hM
 refine kg 5 ?_
 refine W.ret ?_
 have hr_:=M.e_pure hM
 exact ⟨_,resE_tmp rfl,⟨s,hr_,rfl,H⟩⟩

def zcr (dues:List Int) (s2:Nat) (r4:Int):(Int × Nat)->M ((Int × Nat) ⊕ Int):=fun (has,s) =>
  bif decide ((s:Int)<(((dues.take (Int.toNat r4)).drop s2).length:Int)) then (
  M.grd (decide ((s:Int)<(((dues.take (Int.toNat r4)).drop s2).length:Int))) <|
  M.grd (decide ((-9223372036854775808:Int)<=(has+(((dues.take (Int.toNat r4)).drop s2).getD s 0)))&&decide ((has+(((dues.take (Int.toNat r4)).drop s2).getD s 0))<=(9223372036854775807:Int))) <|
  M.pure (.inl (has+(((dues.take (Int.toNat r4)).drop s2).getD s 0),s+1)))
  else (
  M.pure (.inr has))
def zbs (l:List Pk) (apart:Int) (threshold:Int) (dues:List Int):(Int × Nat)->M ((Int × Nat) ⊕ (Unit ⊕ Int)):=fun (sum,s2) =>
  bif decide ((s2:Int)<(l.length:Int)) then (
  M.grd (decide ((s2:Int)<(l.length:Int))) <|
  M.grd (decide ((s2:Int)<(dues.length:Int))) <|
  M.grd (decide ((-9223372036854775808:Int)<=(sum+(dues.getD s2 0)))&&decide ((sum+(dues.getD s2 0))<=(9223372036854775807:Int))) <|
  M.bind (zbj l (s2:Int) apart) fun r4 =>
  M.grd (decide ((0:Int)<=(s2:Int))&&decide ((s2:Int)<=r4)&&decide (r4<=(dues.length:Int))) <|
  M.bind (M.iter (zcr dues s2 r4) (0,0)) fun has2 =>
  M.grd (decide ((-9223372036854775808:Int)<=(((l.getD s2 default).stage)-threshold))&&decide ((((l.getD s2 default).stage)-threshold)<=(9223372036854775807:Int))) <|
  bif decide (has2<(((l.getD s2 default).stage)-threshold)) then (
  M.pure (.inr (.inl ())))
  else (
  M.pure (.inl (sum+(dues.getD s2 0),s2+1))))
  else (
  M.pure (.inr (.inr sum)))
def zat (l:List Pk) (apart:Int) (threshold:Int) (worth:Int) (dues:List Int):M (Bool × Int) :=
  M.bind (zaN l apart threshold) fun r2 =>
  bif r2 != 0 then (
  M.pure (false,r2))
  else (
  bif (dues.length:Int) != (l.length:Int) then (
  M.pure (false,2))
  else (
  M.bind (zcq dues (fun xqz=>zcB xqz)) fun r3 =>
  bif !r3 then (
  M.pure (false,4))
  else (
  M.bind (M.iter (zbs l apart threshold dues) (0,0)) fun x_=>match x_ with
  | (.inl (_:Unit))=>(
  M.pure (false,0))
  | (.inr sum2)=>(
  M.pure ((decide (sum2<=worth)),0)))))
theorem zc4 {R:List Chunk} {C_l:Cells} {v_l:Value} {C_dues:Cells} {v_dues:Value} (l:List Pk) (apart:Int) (threshold:Int) (worth:Int) (dues:List Int) (hC_l:Reads R C_l) (hs_l:Sl C_l v_l l) (hC_dues:Reads R C_dues) (hs_dues:Sl C_dues v_dues dues) {r:(Bool × Int)} (hM:(zat l apart threshold worth dues).Ends r) (w:World) (H:St w w [] R):Ret Tryz.prog 26 #[v_l,I apart,I threshold,I worth,v_dues] w fun v w'=>∃ (y0:Bool) (y1:Int),(y0,y1)=r/\v = .tuple #[B y0,I y1]/\St w w' [] R:=by
 refine ret_of_W Tryz.func26 rfl rfl rfl ?_
 refine kg 11 ?_
 obtain ⟨r2z,hx1z,hM⟩:=M.e_bind hM
 refine s_call cf57 [v_l,I apart,I threshold] rfl (zcG l apart threshold (hC_l.app _) hs_l hx1z _ (H.gt 0)) ?_
 rintro vq w3z ⟨r2,hr4z,hvq,H2_⟩
 subst hr4z
 subst vq
 try dsimp only at hM
 replace H:=H.bk H2_
 clear H2_
 refine kg 7 ?_
 refine W.cond (r2 != 0) rfl (fun c5z=>?_) (fun c5z=>?_)
 ·replace hM:=M.e_t hM c5z
  simp only [qy1,qy2,qy3,qy4,qy5,qy6,ne_eq,qy7] at c5z
  refine kg 6 ?_
  refine W.ret ?_
  have hr_:=M.e_pure hM
  exact ⟨_,resE_tmp2 rfl,⟨false,r2,hr_,rfl,H⟩⟩
 replace hM:=M.e_f hM c5z
 simp only [qy1,qy2,qy3,qy4,qy5,qy6,ne_eq,qy7] at c5z
 have hl6z:=(hs_dues).len_le
 have hl7z:=(hs_l).len_le
 refine kg 12 ?_
 refine W.cond ((dues.length:Int) != (l.length:Int)) rfl (fun c8z=>?_) (fun c8z=>?_)
 ·replace hM:=M.e_t hM c8z
  simp only [qy1,qy2,qy3,qy4,qy5,qy6,ne_eq,qy7] at c8z
  refine kg 5 ?_
  refine W.ret ?_
  have hr_:=M.e_pure hM
  exact ⟨_,resE_tmp2 rfl,⟨false,2,hr_,rfl,H⟩⟩
 replace hM:=M.e_f hM c8z
 simp only [qy1,qy2,qy3,qy4,qy5,qy6,ne_eq,qy7] at c8z
 refine kg 3 ?_
 obtain ⟨r10z,hx9z,hM⟩:=M.e_bind hM
 refine s_call cf68 [v_dues,.func (.func 69) #[] #[]] rfl (zdB dues (fun xqz=>zcB xqz) (hC_dues.app _) hs_dues ⟨69,[],rfl,cf69,fun wqz Lqz Cqz vqz xqz bqz hsqz hCqz hAqz hpqz=>by obtain rfl:=Arg.int hAqz; exact (zed xqz hpqz wqz (St.refl hsqz)).mono fun vqz wqz ⟨yqz,hrqz,hvqz,Hqz⟩=>by subst hrqz; exact ⟨hvqz,Hqz⟩⟩ hx9z _ (H.gt 0)) ?_
 rintro vq w11z ⟨r3,hr12z,hvq,H2_⟩
 subst hr12z
 subst vq
 try dsimp only at hM
 replace H:=H.bk H2_
 clear H2_
 refine kg 3 ?_
 refine W.cond (!r3) rfl (fun c13z=>?_) (fun c13z=>?_)
 ·replace hM:=M.e_t hM c13z
  refine kg 5 ?_
  refine W.ret ?_
  have hr_:=M.e_pure hM
  exact ⟨_,resE_tmp2 rfl,⟨false,4,hr_,rfl,H⟩⟩
 replace hM:=M.e_f hM c13z
 have hl14z:=(hs_l).len_le
 refine kg 13 ?_
 obtain ⟨ex15z,hi16z,hk17z⟩:=M.e_bind hM
 obtain ⟨m0_,hi16z⟩:=M.e_iter hi16z
 refine W.loop (fun m σ W=>∃ (sum:Int) (s2:Nat) (ρ:Env),σ=upds ρ [(0,v_l),(1,I apart),(2,I threshold),(3,I worth),(4,v_dues),(13,I sum),(36,v_l),(37,I (l.length:Int)),(38,I (s2:Int))]/\M.iterN (zbs l apart threshold dues) m (sum,s2)=some ex15z/\St w W [] R) ?_ ?_
 ·exact ⟨_,0,0,_,upds_of _ _ ⟨rfl,rfl,rfl,rfl,rfl,rfl,rfl,rfl,rfl,trivial⟩,hi16z,H⟩
 rintro m20z σ w18z ⟨sum,s2,ρ,rfl,hI19z,H⟩
 obtain ⟨m21z,lt22z,x23z,hM,hN24z⟩:=M.e_iterN hI19z
 simp only [zbs] at hM
 clear hI19z
 refine kg 5 ?_
 refine W.cond (decide ((s2:Int)<(l.length:Int))) rfl (fun c25z=>?_) (fun c25z=>?_)
 ·replace hM:=M.e_t hM c25z
  simp only [qy1,qy2,qy3,qy4,qy5,qy6,ne_eq,qy7] at c25z
  obtain ⟨sd26z,hM⟩:=M.e_grd hM
  simp only [Bool.and_eq_true,decide_eq_true_eq] at sd26z
  refine kg 8 ?_
  refine t_alloc (cs:=[I 0,I 0]) H Al32 rfl ?_
  intro b_1 w27z H
  refine kg 1 ?_
  refine t_sw 0 0 [I ((l.getD s2 default).day),I ((l.getD s2 default).stage)] (.agg #[I ((l.getD s2 default).day),I ((l.getD s2 default).stage)]) H rfl rfl Sz32 rfl rfl rfl rfl ?_
  intro w28z H
  obtain ⟨sd29z,hM⟩:=M.e_grd hM
  simp only [Bool.and_eq_true,decide_eq_true_eq] at sd29z
  obtain ⟨sd30z,hM⟩:=M.e_grd hM
  simp only [Bool.and_eq_true,decide_eq_true_eq] at sd30z
  refine kg 23 ?_
  obtain ⟨r32z,hx31z,hM⟩:=M.e_bind hM
  refine s_call cf67 [v_l,I (s2:Int),I apart] rfl (zdx l (s2:Int) apart (hC_l.app _) hs_l hx31z _ (H.gt 1)) ?_
  rintro vq w33z ⟨r4,hr34z,hvq,H2_⟩
  subst hr34z
  subst vq
  try dsimp only at hM
  replace H:=H.bk H2_
  clear H2_
  obtain ⟨sd35z,hM⟩:=M.e_grd hM
  simp only [Bool.and_eq_true,decide_eq_true_eq] at sd35z
  obtain ⟨u36z,hr_u36z,hs37z⟩:=sl_lohi T22.und T22.size hs_dues (i:=(s2:Int)) (j:=r4) (by omega) (by omega) (by omega)
  replace hs37z:Sl _ u36z ((dues.take (Int.toNat r4)).drop s2):=hs37z
  refine s_val (x_sl (v:=v_dues) (u:=u36z) (lo':=some (I (s2:Int))) (hi':=some (I r4)) (mx':=none) rfl rfl rfl rfl (hr_u36z _)) ?_
  have hl38z:=(hs37z).len_le
  refine kg 4 ?_
  obtain ⟨ex39z,hi40z,hk41z⟩:=M.e_bind hM
  obtain ⟨m0_,hi40z⟩:=M.e_iter hi40z
  refine W.loop (fun m σ W=>∃ (has:Int) (s:Nat) (ρ:Env),σ=upds ρ [(0,v_l),(1,I apart),(2,I threshold),(3,I worth),(4,v_dues),(13,I (sum+(dues.getD s2 0))),(15,Pq b_1),(16,I has),(36,v_l),(37,I (l.length:Int)),(38,I (s2:Int)),(55,u36z),(56,I (((dues.take (Int.toNat r4)).drop s2).length:Int)),(57,I (s:Int))]/\M.iterN (zcr dues s2 r4) m (has,s)=some ex39z/\St w W [cBlk b_1 [I ((l.getD s2 default).day),I ((l.getD s2 default).stage)] 32] R) ?_ ?_
  ·exact ⟨_,0,0,_,upds_of _ _ ⟨rfl,rfl,rfl,rfl,rfl,rfl,rfl,rfl,rfl,rfl,rfl,rfl,rfl,rfl,trivial⟩,hi40z,H⟩
  rintro m44z σ w42z ⟨has,s,ρ,rfl,hI43z,H⟩
  obtain ⟨m45z,lt46z,x47z,hM,hN48z⟩:=M.e_iterN hI43z
  simp only [zcr] at hM
  clear hI43z
  refine kg 5 ?_
  refine W.cond (decide ((s:Int)<(((dues.take (Int.toNat r4)).drop s2).length:Int))) rfl (fun c49z=>?_) (fun c49z=>?_)
  ·replace hM:=M.e_t hM c49z
   simp only [qy1,qy2,qy3,qy4,qy5,qy6,ne_eq,qy7] at c49z
   obtain ⟨sd50z,hM⟩:=M.e_grd hM
   simp only [Bool.and_eq_true,decide_eq_true_eq] at sd50z
   obtain ⟨sd51z,hM⟩:=M.e_grd hM
   simp only [Bool.and_eq_true,decide_eq_true_eq] at sd51z
   refine kg 19 ?_
   exact ⟨m45z,lt46z,has+(((dues.take (Int.toNat r4)).drop s2).getD s 0),s+1,_,upds_of _ _ ⟨rfl,rfl,rfl,rfl,rfl,rfl,rfl,rfl,rfl,rfl,rfl,rfl,rfl,rfl,trivial⟩,M.e_inl hM hN48z,H⟩
  replace hM:=M.e_f hM c49z
  simp only [qy1,qy2,qy3,qy4,qy5,qy6,ne_eq,qy7] at c49z
  refine W.exit ?_
  have hX52z:=M.e_inr hM hN48z
  subst hX52z
  replace hM:=hk41z
  try dsimp only at hM
  obtain ⟨sd53z,hM⟩:=M.e_grd hM
  simp only [Bool.and_eq_true,decide_eq_true_eq] at sd53z
  refine kg 9 ?_
  refine W.cond (decide (has<(((l.getD s2 default).stage)-threshold))) rfl (fun c54z=>?_) (fun c54z=>?_)
  ·replace hM:=M.e_t hM c54z
   simp only [qy1,qy2,qy3,qy4,qy5,qy6,ne_eq,qy7] at c54z
   refine kg 5 ?_
   refine W.ret ?_
   have hX55z:=M.e_inr hM hN24z
   subst hX55z
   replace hM:=hk17z
   try dsimp only at hM
   have hr_:=M.e_pure hM
   exact ⟨_,resE_tmp2 rfl,⟨false,0,hr_,rfl,(H.pk [])⟩⟩
  replace hM:=M.e_f hM c54z
  simp only [qy1,qy2,qy3,qy4,qy5,qy6,ne_eq,qy7] at c54z
  refine kg 5 ?_
  exact ⟨m21z,lt22z,sum+(dues.getD s2 0),s2+1,_,upds_of _ _ ⟨rfl,rfl,rfl,rfl,rfl,rfl,rfl,rfl,rfl,trivial⟩,M.e_inl hM hN24z,(H.pk [])⟩
 replace hM:=M.e_f hM c25z
 simp only [qy1,qy2,qy3,qy4,qy5,qy6,ne_eq,qy7] at c25z
 refine W.exit ?_
 have hX56z:=M.e_inr hM hN24z
 subst hX56z
 replace hM:=hk17z
 try dsimp only at hM
 refine kg 8 ?_
 refine W.ret ?_
 have hr_:=M.e_pure hM
 exact ⟨_,resE_tmp2 rfl,⟨(decide (sum<=worth)),0,hr_,rfl,H⟩⟩

def zb9 (a:List Int) (b:List Int):Nat->M (Nat ⊕ (Unit ⊕ Unit)):=fun i =>
  bif decide ((i:Int)<(a.length:Int)) then (
  M.grd (decide ((i:Int)<(a.length:Int))) <|
  M.grd (decide ((i:Int)<(b.length:Int))) <|
  bif (a.getD i 0) != (b.getD i 0) then (
  M.pure (.inr (.inl ())))
  else (
  M.pure (.inl (i+1))))
  else (
  M.pure (.inr (.inr ())))
def zah (a:List Int) (b:List Int):M Bool :=
  bif (a.length:Int) != (b.length:Int) then (
  M.pure false)
  else (
  M.bind (M.iter (zb9 a b) 0) fun x_=>match x_ with
  | (.inl (_:Unit))=>(
  M.pure false)
  | (.inr (_:Unit))=>(
  M.pure true))
theorem zaq {R:List Chunk} {C_a:Cells} {v_a:Value} {C_b:Cells} {v_b:Value} (a:List Int) (b:List Int) (hC_a:Reads R C_a) (hs_a:Sl C_a v_a a) (hC_b:Reads R C_b) (hs_b:Sl C_b v_b b) {r:Bool} (hM:(zah a b).Ends r) (w:World) (H:St w w [] R):Ret Tryz.prog 28 #[v_a,v_b] w fun v w'=>∃ (y0:Bool),y0=r/\v=B y0/\St w w' [] R:=by
 refine ret_of_W Tryz.func28 rfl rfl rfl ?_
 have hl1z:=(hs_a).len_le
 have hl2z:=(hs_b).len_le
 refine kg 13 ?_
 refine W.cond ((a.length:Int) != (b.length:Int)) rfl (fun c3z=>?_) (fun c3z=>?_)
 ·replace hM:=M.e_t hM c3z
  simp only [qy1,qy2,qy3,qy4,qy5,qy6,ne_eq,qy7] at c3z
  refine kg 4 ?_
  refine W.ret ?_
  have hr_:=M.e_pure hM
  exact ⟨_,resE_tmp rfl,⟨false,hr_,rfl,H⟩⟩
 replace hM:=M.e_f hM c3z
 simp only [qy1,qy2,qy3,qy4,qy5,qy6,ne_eq,qy7] at c3z
 refine kg 7 ?_
 obtain ⟨ex4z,hi5z,hk6z⟩:=M.e_bind hM
 obtain ⟨m0_,hi5z⟩:=M.e_iter hi5z
 refine W.loop (fun m σ W=>∃ (i:Nat) (ρ:Env),σ=upds ρ [(0,v_a),(1,v_b),(5,I (i:Int))]/\M.iterN (zb9 a b) m i=some ex4z/\St w W [] R) ?_ ?_
 ·exact ⟨_,0,_,upds_of _ _ ⟨rfl,rfl,rfl,trivial⟩,hi5z,H⟩
 rintro m9z σ w7z ⟨i,ρ,rfl,hI8z,H⟩
 obtain ⟨m10z,lt11z,x12z,hM,hN13z⟩:=M.e_iterN hI8z
 simp only [zb9] at hM
 clear hI8z
 have hl14z:=(hs_a).len_le
 refine kg 8 ?_
 refine W.cond (decide ((i:Int)<(a.length:Int))) rfl (fun c15z=>?_) (fun c15z=>?_)
 ·replace hM:=M.e_t hM c15z
  simp only [qy1,qy2,qy3,qy4,qy5,qy6,ne_eq,qy7] at c15z
  refine kg 4 ?_
  refine W.draw (fun W=>St w W [] R) [(0,true),(1,true),(2,true),(3,true),(4,true),(5,true),(6,true),(7,true),(8,true)] mixed (by decide +kernel) rfl ?_
  intro w16z hx_
  replace H:=H.ext hx_
  clear hx_
  refine ⟨(H.pk []),?_⟩
  obtain ⟨sd17z,hM⟩:=M.e_grd hM
  simp only [Bool.and_eq_true,decide_eq_true_eq] at sd17z
  obtain ⟨sd18z,hM⟩:=M.e_grd hM
  simp only [Bool.and_eq_true,decide_eq_true_eq] at sd18z
  refine kg 10 ?_
  refine W.cond ((a.getD i 0) != (b.getD i 0)) rfl (fun c19z=>?_) (fun c19z=>?_)
  ·replace hM:=M.e_t hM c19z
   simp only [qy1,qy2,qy3,qy4,qy5,qy6,ne_eq,qy7] at c19z
   refine kg 4 ?_
   refine W.ret ?_
   have hX20z:=M.e_inr hM hN13z
   subst hX20z
   replace hM:=hk6z
   try dsimp only at hM
   have hr_:=M.e_pure hM
   exact ⟨_,resE_tmp rfl,⟨false,hr_,rfl,H⟩⟩
  replace hM:=M.e_f hM c19z
  simp only [qy1,qy2,qy3,qy4,qy5,qy6,ne_eq,qy7] at c19z
  refine kg 6 ?_
  exact ⟨m10z,lt11z,i+1,_,upds_of _ _ ⟨rfl,rfl,rfl,trivial⟩,M.e_inl hM hN13z,H⟩
 replace hM:=M.e_f hM c15z
 simp only [qy1,qy2,qy3,qy4,qy5,qy6,ne_eq,qy7] at c15z
 refine W.exit ?_
 have hX21z:=M.e_inr hM hN13z
 subst hX21z
 replace hM:=hk6z
 try dsimp only at hM
 refine kg 4 ?_
 refine W.ret ?_
 have hr_:=M.e_pure hM
 exact ⟨_,resE_tmp rfl,⟨true,hr_,rfl,H⟩⟩

def zbQ:M ((List Yr) × (List Old10) × Int × Int) :=
  M.pure (([(⟨(1905:Int),(400:Int),(420:Int)⟩:Yr),(⟨(1906:Int),(250:Int),(250:Int)⟩:Yr)]),([(⟨(1900:Int),(1904:Int),(500:Int),([(1902:Int)])⟩:Old10)]),1900,1909)
theorem zcK {R:List Chunk}    {r:((List Yr) × (List Old10) × Int × Int)} (hM:(zbQ).Ends r) (w:World) (H:St w w [] R):Ret Tryz.prog 5 #[] w fun v w'=>∃ (y0:List Yr) (y1:List Old10) (y2:Int) (y3:Int) (u0:Value) (u1:Value) (rr2:List (Raw 3)) (Bs3:Base),(y0,y1,y2,y3)=r/\v = .agg #[u0,u1,I y2,I y3]/\St w w' [cOwn (α:=Yr) 36 u0 y0,cOwn (α:=Raw 3) 38 u1 rr2,cRo Bs3] R/\RepR (α:=Old10) Bs3.cells rr2 y1:=by
 refine ret_of_W Tryz.func5 rfl rfl rfl ?_
 refine kg 2 ?_
 refine t_alloc (cs:=[.slice none 0 0,.slice none 0 0,I 0,I 0]) H Al28 rfl ?_
 intro b_1 w1z H
 refine kg 3 ?_
 refine s_val (x_bld (ps:=[(0,I 400),(1,I 420)]) (zs:=[I 0,I 0]) (L':=[I 400,I 420]) rfl Tryz.underlying34 Al34 rfl (Bd34 Tryz.underlying34) (.cons (cs:=[I 400]) rfl rfl rfl rfl rfl<|.cons (cs:=[I 420]) rfl rfl rfl rfl rfl<|.nil)) ?_
 refine s_val (x_bld (ps:=[(0,I 1905),(1,.agg #[I 400,I 420])]) (zs:=[I 0,I 0,I 0]) (L':=[I 1905,I 400,I 420]) rfl Tryz.underlying36 Al36 rfl (Bd36 Tryz.underlying36) (.cons (cs:=[I 1905]) rfl rfl rfl rfl rfl<|.cons (cs:=[I 400,I 420]) rfl rfl rfl rfl rfl<|.nil)) ?_
 refine s_val (x_bld (ps:=[(0,I 250),(1,I 250)]) (zs:=[I 0,I 0]) (L':=[I 250,I 250]) rfl Tryz.underlying34 Al34 rfl (Bd34 Tryz.underlying34) (.cons (cs:=[I 250]) rfl rfl rfl rfl rfl<|.cons (cs:=[I 250]) rfl rfl rfl rfl rfl<|.nil)) ?_
 refine s_val (x_bld (ps:=[(0,I 1906),(1,.agg #[I 250,I 250])]) (zs:=[I 0,I 0,I 0]) (L':=[I 1906,I 250,I 250]) rfl Tryz.underlying36 Al36 rfl (Bd36 Tryz.underlying36) (.cons (cs:=[I 1906]) rfl rfl rfl rfl rfl<|.cons (cs:=[I 250,I 250]) rfl rfl rfl rfl rfl<|.nil)) ?_
 refine t_bs (α:=Yr) T25 [.agg #[I 1905,I 400,I 420],.agg #[I 1906,I 250,I 250]] [(⟨(1905:Int),(400:Int),(420:Int)⟩:Yr),(⟨(1906:Int),(250:Int),(250:Int)⟩:Yr)] H rfl (.cons rfl (Flat.rep_enc _ (⟨(1905:Int),(400:Int),(420:Int)⟩:Yr))<|.cons rfl (Flat.rep_enc _ (⟨(1906:Int),(250:Int),(250:Int)⟩:Yr))<|.nil) rfl rfl rfl ?_
 intro v2z w3z H
 refine t_bs (α:=Int) T22 [I 1902] [(1902:Int)] H rfl (.cons rfl (Flat.rep_enc _ (1902:Int))<|.nil) rfl rfl rfl ?_
 intro v4z w5z H
 refine s_val (x_bld (ps:=[(0,I 1900),(1,I 1904),(2,I 500),(3,v4z)]) (zs:=[I 0,I 0,I 0,.slice none 0 0]) (L':=[I 1900,I 1904,I 500,v4z]) rfl Tryz.underlying38 Al38 rfl (Bd38 Tryz.underlying38) (.cons (cs:=[I 1900]) rfl rfl rfl rfl rfl<|.cons (cs:=[I 1904]) rfl rfl rfl rfl rfl<|.cons (cs:=[I 500]) rfl rfl rfl rfl rfl<|.cons (cs:=[v4z]) (Sl.cells (H.os 0)) rfl rfl rfl rfl<|.nil)) ?_
 obtain ⟨Bs_4,H⟩:=H.emptyE
 obtain ⟨Bs_5,H,hs7z⟩:=H.freezeE (k:=1) rfl
 replace H:=H.nf
 have hq6z:=hs7z
 obtain ⟨Bs_6,H,le8z,le9z⟩:=H.joinE (i:=0) (j:=1) rfl rfl
 replace hq6z:=hq6z.mono le9z
 obtain ⟨rw10z,hrw_rw10z⟩:∃ r:Raw 3,r.cs=[I 1900,I 1904,I 500,v4z]:=⟨Raw.of [I 1900,I 1904,I 500,v4z] rfl (by simp only [List.all_cons,List.all_nil,Bool.true_and,Bool.and_true,Sl.oc hq6z]; try rfl),rfl⟩
 have hr11z:RepR (α:=Old10) Bs_6.cells [rw10z] [(⟨(1900:Int),(1904:Int),(500:Int),([(1902:Int)])⟩:Old10)]:=.cons (by rw [hrw_rw10z]; exact ⟨_,rfl,hq6z⟩)<|.nil
 refine t_bs (α:=Raw 3) T26 [.agg #[I 1900,I 1904,I 500,v4z]] [rw10z] H rfl (.cons (by rw [show (Flat.enc rw10z:List Value)=rw10z.cs from rfl,hrw_rw10z]; rfl) (Flat.rep_enc _ _)<|.nil) rfl rfl rfl ?_
 intro v12z w13z H
 replace H:=H.nf
 refine s_val (x_bld (ps:=[(2,I 1900),(3,I 1909),(0,v2z),(1,v12z)]) (zs:=[.slice none 0 0,.slice none 0 0,I 0,I 0]) (L':=[v2z,v12z,I 1900,I 1909]) rfl Tryz.underlying28 Al28 rfl (Bd28 Tryz.underlying28) (.cons (cs:=[I 1900]) rfl rfl rfl rfl rfl<|.cons (cs:=[I 1909]) rfl rfl rfl rfl rfl<|.cons (cs:=[v2z]) (Sl.cells (H.os 4)) rfl rfl rfl rfl<|.cons (cs:=[v12z]) (Sl.cells (rowSl rfl (H.get (k:=0) rfl) (roLe _ (H.get (k:=1) rfl)) hr11z)) rfl rfl rfl rfl<|.nil)) ?_
 refine t_sw 5 0 [v2z,v12z,I 1900,I 1909] (.agg #[v2z,v12z,I 1900,I 1909]) H rfl rfl Sz28 rfl rfl rfl (by simp only [List.all_cons,List.all_nil,Bool.true_and,Bool.and_true,Sl.oc (H.os 4),Sl.oc (rowSl rfl (H.get (k:=0) rfl) (roLe _ (H.get (k:=1) rfl)) hr11z)]; try rfl) ?_
 intro w14z H
 refine s_nil ?_
 refine W.ret ?_
 have hb15z:=(H.bl 5)
 have hr_:=M.e_pure hM
 exact ⟨_,(resE_of1 (v:=.agg #[v2z,v12z,I 1900,I 1909]) rfl (.cell (v:=.agg #[v2z,v12z,I 1900,I 1909]) rfl (run_loadVar_ag (ds:=[v2z,v12z,I 1900,I 1909]) Ag28 Sz28 hb15z rfl rfl)<|.nil)),⟨([(⟨(1905:Int),(400:Int),(420:Int)⟩:Yr),(⟨(1906:Int),(250:Int),(250:Int)⟩:Yr)]),([(⟨(1900:Int),(1904:Int),(500:Int),([(1902:Int)])⟩:Old10)]),1900,1909,v2z,v12z,[rw10z],Bs_6,hr_,rfl,(H.pk [4,0,1]),hr11z⟩⟩

end Go.Proofs.YtejefipopolccaaGreat
end
section
set_option maxRecDepth 100000
set_option maxHeartbeats 16000000
namespace Go.Proofs.YtejefipopolccaaGreat
open Go Go.Nm
attribute [local irreducible] gd execOp SL SLD SLT WR
def zbw (s:List Old10) (f:Old10->M Bool):Nat->M (Nat ⊕ (Int ⊕ Unit)):=fun s2 =>
  bif decide ((s2:Int)<(s.length:Int)) then (
  M.grd (decide ((s2:Int)<(s.length:Int))) <|
  M.bind (f (s.getD s2 default)) fun r2 =>
  bif r2 then (
  M.pure (.inr (.inl (s2:Int))))
  else (
  M.pure (.inl (s2+1))))
  else (
  M.pure (.inr (.inr ())))
def zcI (s:List Old10) (f:Old10->M Bool):M Int :=
  M.bind (M.iter (zbw s f) 0) fun x_=>match x_ with
  | (.inl s3)=>(
  M.pure s3)
  | (.inr (_:Unit))=>(
  M.pure (-1))
theorem zeh {R:List Chunk} {C_s:Cells} {v_s:Value} {v_f:Value} (s:List Old10) (f:Old10->M Bool) (hC_s:Reads R C_s) (hs_s:Sl C_s v_s s) (hf_f:FnM Tryz.prog R v_f f) {r:Int} (hM:(zcI s f).Ends r) (w:World) (H:St w w [] R):Ret Tryz.prog 90 #[v_s,v_f] w fun v w'=>∃ (y0:Int),y0=r/\v=I y0/\St w w' [] R:=by
 refine ret_of_W Tryz.func90 rfl rfl rfl ?_
 have hl1z:=(hs_s).len_le
 refine kg 12 ?_
 obtain ⟨ex2z,hi3z,hk4z⟩:=M.e_bind hM
 obtain ⟨m0_,hi3z⟩:=M.e_iter hi3z
 refine W.loop (fun m σ W=>∃ (s2:Nat) (ρ:Env),σ=upds ρ [(0,v_s),(1,v_f),(7,I (s.length:Int)),(8,I (s2:Int))]/\M.iterN (zbw s f) m s2=some ex2z/\St w W [] R) ?_ ?_
 ·exact ⟨_,0,_,upds_of _ _ ⟨rfl,rfl,rfl,rfl,trivial⟩,hi3z,H⟩
 rintro m7z σ w5z ⟨s2,ρ,rfl,hI6z,H⟩
 obtain ⟨m8z,lt9z,x10z,hM,hN11z⟩:=M.e_iterN hI6z
 simp only [zbw] at hM
 clear hI6z
 refine kg 5 ?_
 refine W.cond (decide ((s2:Int)<(s.length:Int))) rfl (fun c12z=>?_) (fun c12z=>?_)
 ·replace hM:=M.e_t hM c12z
  simp only [qy1,qy2,qy3,qy4,qy5,qy6,ne_eq,qy7] at c12z
  obtain ⟨sd13z,hM⟩:=M.e_grd hM
  simp only [Bool.and_eq_true,decide_eq_true_eq] at sd13z
  refine kg 14 ?_
  obtain ⟨u14z,ha16z,hs15z⟩:=Old10_atA hs_s (i:=(s2:Int)) (by omega) (by omega)
  replace hs15z:Sl _ u14z (s.getD s2 default).passed:=hs15z
  have hl_hs15z:=hs15z.len_le
  refine s_val (x_ld (p:=vat v_s 4 (Int.toNat (s2:Int))) (v:=.agg #[I ((s.getD s2 default).src),I ((s.getD s2 default).dst),I ((s.getD s2 default).stage),u14z]) rfl (ld_ag Ag38 Sz38 (At.mono ha16z (hC_s.at H)))) ?_
  obtain ⟨r2,hx18z,hM⟩:=M.e_bind hM
  refine t_callM H hf_f rfl rfl (s.getD s2 default) (hC_s.app _) ⟨_,Old10_mk hs15z,rfl⟩ hx18z ?_
  intro w17z H
  refine s_nil ?_
  refine W.cond r2 rfl (fun c19z=>?_) (fun c19z=>?_)
  ·replace hM:=M.e_t hM c19z
   refine kg 5 ?_
   refine W.ret ?_
   have hX20z:=M.e_inr hM hN11z
   subst hX20z
   replace hM:=hk4z
   try dsimp only at hM
   have hr_:=M.e_pure hM
   exact ⟨_,resE_tmp rfl,⟨(s2:Int),hr_,rfl,H⟩⟩
  replace hM:=M.e_f hM c19z
  refine kg 5 ?_
  exact ⟨m8z,lt9z,s2+1,_,upds_of _ _ ⟨rfl,rfl,rfl,rfl,trivial⟩,M.e_inl hM hN11z,H⟩
 replace hM:=M.e_f hM c12z
 simp only [qy1,qy2,qy3,qy4,qy5,qy6,ne_eq,qy7] at c12z
 refine W.exit ?_
 have hX21z:=M.e_inr hM hN11z
 subst hX21z
 replace hM:=hk4z
 try dsimp only at hM
 refine kg 4 ?_
 refine W.ret ?_
 have hr_:=M.e_pure hM
 exact ⟨_,resE_tmp rfl,⟨(-1),hr_,rfl,H⟩⟩

def zdb (s:List Old10) (f:Old10->M Bool):M Bool :=
  M.bind (zcI s f) fun r2 =>
  M.pure (decide (0<=r2))
theorem zej {R:List Chunk} {C_s:Cells} {v_s:Value} {v_f:Value} (s:List Old10) (f:Old10->M Bool) (hC_s:Reads R C_s) (hs_s:Sl C_s v_s s) (hf_f:FnM Tryz.prog R v_f f) {r:Bool} (hM:(zdb s f).Ends r) (w:World) (H:St w w [] R):Ret Tryz.prog 79 #[v_s,v_f] w fun v w'=>∃ (y0:Bool),y0=r/\v=B y0/\St w w' [] R:=by
 refine ret_of_W Tryz.func79 rfl rfl rfl ?_
 refine kg 8 ?_
 obtain ⟨r2z,hx1z,hM⟩:=M.e_bind hM
 refine s_call cf90 [v_s,v_f] rfl (zeh s f (hC_s.app _) hs_s (hf_f.app _) hx1z _ (H.gt 0)) ?_
 rintro vq w3z ⟨r2,hr4z,hvq,H2_⟩
 subst hr4z
 subst vq
 try dsimp only at hM
 replace H:=H.bk H2_
 clear H2_
 refine kg 3 ?_
 refine W.ret ?_
 have hr_:=M.e_pure hM
 exact ⟨_,resE_tmp rfl,⟨(decide (0<=r2)),hr_,rfl,H⟩⟩

def zcy (x:Old10) (k02:Old10->M Bool):M Bool :=
  M.bind (k02 x) fun r2 =>
  M.pure (!r2)
theorem zdO {R:List Chunk} {C_x_passed:Cells} {v_x_passed:Value} {b_k0:Nat} {v_k02:Value} (x:Old10) (k02:Old10->M Bool) (hC_x_passed:Reads R C_x_passed) (hs_x_passed:Sl C_x_passed v_x_passed x.passed) (hf_k02:FnM Tryz.prog R v_k02 k02) (h_b_k0:Has R (cBlk b_k0 [v_k02] 90)) {r:Bool} (hM:(zcy x k02).Ends r) (w:World) (H:St w w [] R):Ret Tryz.prog 80 #[.agg #[I x.src,I x.dst,I x.stage,v_x_passed],Pq b_k0] w fun v w'=>∃ (y0:Bool),y0=r/\v=B y0/\St w w' [] R:=by
 refine ret_of_W Tryz.func80 rfl rfl rfl ?_
 refine kg 2 ?_
 refine t_box (v:=.agg #[I x.src,I x.dst,I x.stage,v_x_passed]) (cs:=[I x.src,I x.dst,I x.stage,v_x_passed]) H rfl rfl ?_
 intro b_1 w1z H
 refine kg 6 ?_
 obtain ⟨r2,hx3z,hM⟩:=M.e_bind hM
 refine t_callM H hf_k02 rfl rfl x (hC_x_passed.app _) ⟨_,Old10_mk hs_x_passed,rfl⟩ hx3z ?_
 intro w2z H
 refine kg 3 ?_
 refine W.ret ?_
 have hr_:=M.e_pure hM
 exact ⟨_,resE_tmp rfl,⟨(!r2),hr_,rfl,(H.pk [])⟩⟩

def zbv (l:List Old10) (so:Old10->M Bool):M Bool :=
  M.bind (zdb l (fun xqz=>zcy xqz so)) fun r2 =>
  M.pure (!r2)
theorem zdK {R:List Chunk} {C_l:Cells} {v_l:Value} {v_so:Value} (l:List Old10) (so:Old10->M Bool) (hC_l:Reads R C_l) (hs_l:Sl C_l v_l l) (hf_so:FnM Tryz.prog R v_so so) {r:Bool} (hM:(zbv l so).Ends r) (w:World) (H:St w w [] R):Ret Tryz.prog 46 #[v_l,v_so] w fun v w'=>∃ (y0:Bool),y0=r/\v=B y0/\St w w' [] R:=by
 refine ret_of_W Tryz.func46 rfl rfl rfl ?_
 refine kg 2 ?_
 refine t_box (v:=v_so) (cs:=[v_so]) H rfl (FnM.cells hf_so) ?_
 intro b_1 w1z H
 refine kg 5 ?_
 refine s_val (x_mf (fs:=[]) (cs:=[Pq b_1]) rfl rfl) ?_
 obtain ⟨r3z,hx2z,hM⟩:=M.e_bind hM
 refine s_call cf79 [v_l,.func (.func 80) #[] #[Pq b_1]] rfl (zej l (fun xqz=>zcy xqz so) (hC_l.app _) hs_l ⟨80,[Pq b_1],rfl,cf80,fun wqz Lqz Cqz vqz xqz bqz hsqz hCqz hAqz hpqz=>by obtain ⟨sv_,rfl,hs_x⟩:=Old10_arg hAqz; exact (zdO xqz so hCqz hs_x (FnM.app (hf_so.app _) _) (Has.app (Has.here (k:=0) rfl) _) hpqz wqz (St.refl hsqz)).mono fun vqz wqz ⟨yqz,hrqz,hvqz,Hqz⟩=>by subst hrqz; exact ⟨hvqz,Hqz⟩⟩ hx2z _ (H.gt 1)) ?_
 rintro vq w4z ⟨r2,hr5z,hvq,H2_⟩
 subst hr5z
 subst vq
 try dsimp only at hM
 replace H:=H.bk H2_
 clear H2_
 refine kg 3 ?_
 refine W.ret ?_
 have hr_:=M.e_pure hM
 exact ⟨_,resE_tmp rfl,⟨(!r2),hr_,rfl,(H.pk [])⟩⟩

def zc3 (o:Old10):M Bool :=
  M.pure (decide ((o.passed.length:Int)<=10))
theorem zdT {R:List Chunk} {C_o_passed:Cells} {v_o_passed:Value} (o:Old10) (hC_o_passed:Reads R C_o_passed) (hs_o_passed:Sl C_o_passed v_o_passed o.passed) {r:Bool} (hM:(zc3 o).Ends r) (w:World) (H:St w w [] R):Ret Tryz.prog 44 #[.agg #[I o.src,I o.dst,I o.stage,v_o_passed]] w fun v w'=>∃ (y0:Bool),y0=r/\v=B y0/\St w w' [] R:=by
 refine ret_of_W Tryz.func44 rfl rfl rfl ?_
 refine kg 2 ?_
 refine t_box (v:=.agg #[I o.src,I o.dst,I o.stage,v_o_passed]) (cs:=[I o.src,I o.dst,I o.stage,v_o_passed]) H rfl rfl ?_
 intro b_1 w1z H
 have hl2z:=(hs_o_passed).len_le
 refine kg 10 ?_
 refine W.ret ?_
 have hr_:=M.e_pure hM
 exact ⟨_,resE_tmp rfl,⟨(decide ((o.passed.length:Int)<=10)),hr_,rfl,(H.pk [])⟩⟩

def zcY (b_Years:List Yr) (b_Olds:List Old10) (b_First:Int) (b_Last:Int) (x2:Yr):M Bool :=
  M.bind (zab x2.year b_First b_Last) fun r2 =>
  M.bind (M.opt r2 (zab x2.lo 0 x2.hi) false) fun r3 =>
  M.bind (M.opt (r2&&r3) (zab x2.hi 0 2000) false) fun r4 =>
  M.pure ((r2&&r3)&&r4)
theorem zdP {R:List Chunk} {C_b_Years:Cells} {v_b_Years:Value} {C_b_Olds:Cells} {v_b_Olds:Value} (b_Years:List Yr) (b_Olds:List Old10) (b_First:Int) (b_Last:Int) (x2:Yr) (hC_b_Years:Reads R C_b_Years) (hs_b_Years:Sl C_b_Years v_b_Years b_Years) (hC_b_Olds:Reads R C_b_Olds) (hs_b_Olds:Sl C_b_Olds v_b_Olds b_Olds) {r:Bool} (hM:(zcY b_Years b_Olds b_First b_Last x2).Ends r) (w:World) (H:St w w [] R):Ret Tryz.prog 43 #[.agg #[v_b_Years,v_b_Olds,I b_First,I b_Last],.iface 36 (.agg #[I x2.year,I x2.lo,I x2.hi])] w fun v w'=>∃ (y0:Bool),y0=r/\v=B y0/\St w w' [] R:=by
 refine ret_of_W Tryz.func43 rfl rfl rfl ?_
 refine kg 2 ?_
 refine t_box (v:=.agg #[v_b_Years,v_b_Olds,I b_First,I b_Last]) (cs:=[v_b_Years,v_b_Olds,I b_First,I b_Last]) H rfl rfl ?_
 intro b_1 w1z H
 refine kg 10 ?_
 refine s_val (x_ta0 (z:=.agg #[I 0,I 0]) Tryz.underlying32 (by intro m h_; cases h_) (by decide) Al32 rfl) ?_
 refine kg 3 ?_
 refine W.cond false rfl (fun c2z=>?_) (fun c2z=>?_)
 ·skip
  exact absurd c2z (by decide)
 skip
 refine kg 2 ?_
 refine s_val (x_ta1 (v:=.agg #[I x2.year,I x2.lo,I x2.hi]) Tryz.underlying36 (by intro m h_; cases h_) rfl) ?_
 refine kg 3 ?_
 refine W.cond true rfl (fun c3z=>?_) (fun c3z=>?_)
 ·skip
  refine kg 2 ?_
  refine t_alloc (cs:=[I 0,I 0,I 0]) H Al36 rfl ?_
  intro b_2 w4z H
  refine t_sw 0 0 [I x2.year,I x2.lo,I x2.hi] (.agg #[I x2.year,I x2.lo,I x2.hi]) H rfl rfl Sz36 rfl rfl rfl rfl ?_
  intro w5z H
  refine kg 9 ?_
  obtain ⟨r7z,hx6z,hM⟩:=M.e_bind hM
  refine s_call cf45 [I x2.year,I b_First,I b_Last] rfl (zad x2.year b_First b_Last hx6z _ (H.gt 2)) ?_
  rintro vq w8z ⟨r2,hr9z,hvq,H2_⟩
  subst hr9z
  subst vq
  try dsimp only at hM
  replace H:=H.bk H2_
  clear H2_
  refine kg 7 ?_
  obtain ⟨r3,hx10z,hM⟩:=M.e_bind hM
  refine t_gcall r2 (gy_t rfl) cf45 (B r3) (fun _=>[I x2.lo,I 0,I x2.hi]) (fun hg=>lst3 (gd_of (c:=r2) hg (I x2.lo)) rfl (gd_of (c:=r2) hg (I x2.hi))) H (fun hg=>(zad x2.lo 0 x2.hi (M.e_opt hx10z hg) _ (H.give (A:=[]) rfl)).mono fun v_ w_ ⟨y_,hr_,hv_,H_⟩=>by subst hr_; exact ⟨hv_,H.via H_⟩) ?_
  intro w11z H
  refine kg 5 ?_
  obtain ⟨r4,hx12z,hM⟩:=M.e_bind hM
  refine t_gcall (r2&&r3) (gy_t rfl) cf45 (B r4) (fun _=>[I x2.hi,I 0,I 2000]) (fun hg=>lst3 (gd_of (c:=(r2&&r3)) hg (I x2.hi)) rfl rfl) H (fun hg=>(zad x2.hi 0 2000 (M.e_opt hx12z hg) _ (H.give (A:=[]) rfl)).mono fun v_ w_ ⟨y_,hr_,hv_,H_⟩=>by subst hr_; exact ⟨hv_,H.via H_⟩) ?_
  intro w13z H
  refine kg 3 ?_
  refine W.ret ?_
  have hr_:=M.e_pure hM
  exact ⟨_,resE_tmp rfl,⟨((r2&&r3)&&r4),hr_,rfl,(H.pk [])⟩⟩
 skip
 exact absurd c3z (by decide)

def zdr (b_Years:List Yr) (b_Olds:List Old10) (b_First:Int) (b_Last:Int) (x2:Old10):M Bool :=
  M.bind (zab x2.src b_First x2.dst) fun r2 =>
  M.bind (M.opt r2 (zab x2.dst b_First b_Last) false) fun r3 =>
  M.bind (M.opt (r2&&r3) (zab x2.stage 1 2000) false) fun r4 =>
  M.bind (M.opt ((r2&&r3)&&r4) (zau x2.passed x2.src x2.dst) false) fun r5 =>
  M.pure (((r2&&r3)&&r4)&&r5)
theorem zei {R:List Chunk} {C_b_Years:Cells} {v_b_Years:Value} {C_b_Olds:Cells} {v_b_Olds:Value} {C_x2_passed:Cells} {v_x2_passed:Value} (b_Years:List Yr) (b_Olds:List Old10) (b_First:Int) (b_Last:Int) (x2:Old10) (hC_b_Years:Reads R C_b_Years) (hs_b_Years:Sl C_b_Years v_b_Years b_Years) (hC_b_Olds:Reads R C_b_Olds) (hs_b_Olds:Sl C_b_Olds v_b_Olds b_Olds) (hC_x2_passed:Reads R C_x2_passed) (hs_x2_passed:Sl C_x2_passed v_x2_passed x2.passed) {r:Bool} (hM:(zdr b_Years b_Olds b_First b_Last x2).Ends r) (w:World) (H:St w w [] R):Ret Tryz.prog 43 #[.agg #[v_b_Years,v_b_Olds,I b_First,I b_Last],.iface 38 (.agg #[I x2.src,I x2.dst,I x2.stage,v_x2_passed])] w fun v w'=>∃ (y0:Bool),y0=r/\v=B y0/\St w w' [] R:=by
 refine ret_of_W Tryz.func43 rfl rfl rfl ?_
 refine kg 2 ?_
 refine t_box (v:=.agg #[v_b_Years,v_b_Olds,I b_First,I b_Last]) (cs:=[v_b_Years,v_b_Olds,I b_First,I b_Last]) H rfl rfl ?_
 intro b_1 w1z H
 refine kg 10 ?_
 refine s_val (x_ta0 (z:=.agg #[I 0,I 0]) Tryz.underlying32 (by intro m h_; cases h_) (by decide) Al32 rfl) ?_
 refine kg 3 ?_
 refine W.cond false rfl (fun c2z=>?_) (fun c2z=>?_)
 ·skip
  exact absurd c2z (by decide)
 skip
 refine kg 2 ?_
 refine s_val (x_ta0 (z:=.agg #[I 0,I 0,I 0]) Tryz.underlying36 (by intro m h_; cases h_) (by decide) Al36 rfl) ?_
 refine kg 3 ?_
 refine W.cond false rfl (fun c3z=>?_) (fun c3z=>?_)
 ·skip
  exact absurd c3z (by decide)
 skip
 refine kg 2 ?_
 refine s_val (x_ta1 (v:=.agg #[I x2.src,I x2.dst,I x2.stage,v_x2_passed]) Tryz.underlying38 (by intro m h_; cases h_) rfl) ?_
 refine kg 3 ?_
 refine W.cond true rfl (fun c4z=>?_) (fun c4z=>?_)
 ·skip
  refine kg 2 ?_
  refine t_alloc (cs:=[I 0,I 0,I 0,.slice none 0 0]) H Al38 rfl ?_
  intro b_2 w5z H
  refine t_sw 0 0 [I x2.src,I x2.dst,I x2.stage,v_x2_passed] (.agg #[I x2.src,I x2.dst,I x2.stage,v_x2_passed]) H rfl rfl Sz38 rfl rfl rfl (by simp only [List.all_cons,List.all_nil,Bool.true_and,Bool.and_true,Sl.oc hs_x2_passed]; try rfl) ?_
  intro w6z H
  refine kg 9 ?_
  obtain ⟨r8z,hx7z,hM⟩:=M.e_bind hM
  refine s_call cf45 [I x2.src,I b_First,I x2.dst] rfl (zad x2.src b_First x2.dst hx7z _ (H.gt 2)) ?_
  rintro vq w9z ⟨r2,hr10z,hvq,H2_⟩
  subst hr10z
  subst vq
  try dsimp only at hM
  replace H:=H.bk H2_
  clear H2_
  refine kg 7 ?_
  obtain ⟨r3,hx11z,hM⟩:=M.e_bind hM
  refine t_gcall r2 (gy_t rfl) cf45 (B r3) (fun _=>[I x2.dst,I b_First,I b_Last]) (fun hg=>lst3 (gd_of (c:=r2) hg (I x2.dst)) (gd_of (c:=r2) hg (I b_First)) (gd_of (c:=r2) hg (I b_Last))) H (fun hg=>(zad x2.dst b_First b_Last (M.e_opt hx11z hg) _ (H.give (A:=[]) rfl)).mono fun v_ w_ ⟨y_,hr_,hv_,H_⟩=>by subst hr_; exact ⟨hv_,H.via H_⟩) ?_
  intro w12z H
  refine kg 4 ?_
  obtain ⟨r4,hx13z,hM⟩:=M.e_bind hM
  refine t_gcall (r2&&r3) (gy_t rfl) cf45 (B r4) (fun _=>[I x2.stage,I 1,I 2000]) (fun hg=>lst3 (gd_of (c:=(r2&&r3)) hg (I x2.stage)) rfl rfl) H (fun hg=>(zad x2.stage 1 2000 (M.e_opt hx13z hg) _ (H.give (A:=[]) rfl)).mono fun v_ w_ ⟨y_,hr_,hv_,H_⟩=>by subst hr_; exact ⟨hv_,H.via H_⟩) ?_
  intro w14z H
  refine kg 8 ?_
  obtain ⟨r5,hx15z,hM⟩:=M.e_bind hM
  refine t_gcall ((r2&&r3)&&r4) (gy_t rfl) cf58 (B r5) (fun _=>[v_x2_passed,I x2.src,I x2.dst]) (fun hg=>lst3 (gd_of (c:=((r2&&r3)&&r4)) hg (v_x2_passed)) (gd_of (c:=((r2&&r3)&&r4)) hg (I x2.src)) (gd_of (c:=((r2&&r3)&&r4)) hg (I x2.dst))) H (fun hg=>(zdN x2.passed x2.src x2.dst (hC_x2_passed.app _) hs_x2_passed (M.e_opt hx15z hg) _ (H.give (A:=[]) rfl)).mono fun v_ w_ ⟨y_,hr_,hv_,H_⟩=>by subst hr_; exact ⟨hv_,H.via H_⟩) ?_
  intro w16z H
  refine kg 3 ?_
  refine W.ret ?_
  have hr_:=M.e_pure hM
  exact ⟨_,resE_tmp rfl,⟨(((r2&&r3)&&r4)&&r5),hr_,rfl,(H.pk [])⟩⟩
 skip
 exact absurd c4z (by decide)

def zct (o:Old10) (k00:List Yr) (k01:List Old10) (k02:Int) (k03:Int):M Bool :=
  M.bind (zdr k00 k01 k02 k03 o) fun r2 =>
  M.pure r2
theorem zdZ {R:List Chunk} {C_o_passed:Cells} {v_o_passed:Value} {b_k0:Nat} {C_k00:Cells} {v_k00:Value} {C_k01:Cells} {v_k01:Value} (o:Old10) (k00:List Yr) (k01:List Old10) (k02:Int) (k03:Int) (hC_o_passed:Reads R C_o_passed) (hs_o_passed:Sl C_o_passed v_o_passed o.passed) (hC_k00:Reads R C_k00) (hs_k00:Sl C_k00 v_k00 k00) (hC_k01:Reads R C_k01) (hs_k01:Sl C_k01 v_k01 k01) (h_b_k0:Has R (cBlk b_k0 [v_k00,v_k01,I k02,I k03] 28)) {r:Bool} (hM:(zct o k00 k01 k02 k03).Ends r) (w:World) (H:St w w [] R):Ret Tryz.prog 47 #[.agg #[I o.src,I o.dst,I o.stage,v_o_passed],Pq b_k0] w fun v w'=>∃ (y0:Bool),y0=r/\v=B y0/\St w w' [] R:=by
 refine ret_of_W Tryz.func47 rfl rfl rfl ?_
 refine kg 2 ?_
 refine t_box (v:=.agg #[I o.src,I o.dst,I o.stage,v_o_passed]) (cs:=[I o.src,I o.dst,I o.stage,v_o_passed]) H rfl rfl ?_
 intro b_1 w1z H
 refine kg 4 ?_
 refine s_val (x_ld (p:=Pq b_k0) (v:=.agg #[v_k00,v_k01,I k02,I k03]) rfl (ldb_ag (ds:=[v_k00,v_k01,I k02,I k03]) Ag28 Sz28 (h_b_k0.blk H) rfl rfl)) ?_
 refine kg 1 ?_
 refine s_val (x_mi (v:=.agg #[I o.src,I o.dst,I o.stage,v_o_passed]) Tryz.underlying38 (by intro m h_; cases h_) rfl) ?_
 obtain ⟨r3z,hx2z,hM⟩:=M.e_bind hM
 refine s_call cf43 [.agg #[v_k00,v_k01,I k02,I k03],.iface 38 (.agg #[I o.src,I o.dst,I o.stage,v_o_passed])] rfl (zei k00 k01 k02 k03 o (hC_k00.app _) hs_k00 (hC_k01.app _) hs_k01 (hC_o_passed.app _) hs_o_passed hx2z _ (H.gt 1)) ?_
 rintro vq w4z ⟨r2,hr5z,hvq,H2_⟩
 subst hr5z
 subst vq
 try dsimp only at hM
 replace H:=H.bk H2_
 clear H2_
 refine kg 2 ?_
 refine W.ret ?_
 have hr_:=M.e_pure hM
 exact ⟨_,resE_tmp rfl,⟨r2,hr_,rfl,(H.pk [])⟩⟩

def za8 (b_Years:List Yr) (b_Olds:List Old10) (b_First:Int) (b_Last:Int):Nat->M (Nat ⊕ (Int ⊕ Unit)):=fun s =>
  bif decide ((s:Int)<(b_Years.length:Int)) then (
  M.grd (decide ((s:Int)<(b_Years.length:Int))) <|
  M.bind (zcY b_Years b_Olds b_First b_Last (b_Years.getD s default)) fun r5 =>
  bif !r5 then (
  M.pure (.inr (.inl 110)))
  else (
  M.grd ((!(decide (0<(s:Int)))||(decide ((-9223372036854775808:Int)<=((s:Int)-1))&&decide (((s:Int)-1)<=(9223372036854775807:Int))))) <|
  M.grd ((!(decide (0<(s:Int)))||(decide ((0:Int)<=((s:Int)-1))&&decide (((s:Int)-1)<(b_Years.length:Int))))) <|
  bif ((decide (0<(s:Int)))&&(decide (((b_Years.getD s default).year)<=((b_Years.getD (Int.toNat ((s:Int)-1)) default).year)))) then (
  M.pure (.inr (.inl 9)))
  else (
  M.pure (.inl (s+1)))))
  else (
  M.pure (.inr (.inr ())))
def zam (b_Years:List Yr) (b_Olds:List Old10) (b_First:Int) (b_Last:Int):M Int :=
  M.bind (zab b_First 0 b_Last) fun r2 =>
  M.bind (M.opt (!(!r2)) (zab b_Last 0 3000) false) fun r3 =>
  M.grd ((!(!((!r2)||(!r3)))||(decide ((-9223372036854775808:Int)<=(b_Last-b_First))&&decide ((b_Last-b_First)<=(9223372036854775807:Int))))) <|
  bif (((!r2)||(!r3))||(decide (1000<=(b_Last-b_First)))) then (
  M.pure 110)
  else (
  M.bind (M.opt (!((decide (60<(b_Years.length:Int)))||(decide (8<(b_Olds.length:Int))))) (zbv b_Olds (fun xqz=>zc3 xqz)) false) fun r4 =>
  bif (((decide (60<(b_Years.length:Int)))||(decide (8<(b_Olds.length:Int))))||(!r4)) then (
  M.pure 3)
  else (
  M.bind (M.iter (za8 b_Years b_Olds b_First b_Last) 0) fun x_=>match x_ with
  | (.inl s2)=>(
  M.pure s2)
  | (.inr (_:Unit))=>(
  M.bind (zbv b_Olds (fun xqz=>zct xqz b_Years b_Olds b_First b_Last)) fun r6 =>
  bif !r6 then (
  M.pure 110)
  else (
  M.pure 0))))
theorem za4 {R:List Chunk} {C_b_Years:Cells} {v_b_Years:Value} {C_b_Olds:Cells} {v_b_Olds:Value} (b_Years:List Yr) (b_Olds:List Old10) (b_First:Int) (b_Last:Int) (hC_b_Years:Reads R C_b_Years) (hs_b_Years:Sl C_b_Years v_b_Years b_Years) (hC_b_Olds:Reads R C_b_Olds) (hs_b_Olds:Sl C_b_Olds v_b_Olds b_Olds) {r:Int} (hM:(zam b_Years b_Olds b_First b_Last).Ends r) (w:World) (H:St w w [] R):Ret Tryz.prog 10 #[.agg #[v_b_Years,v_b_Olds,I b_First,I b_Last]] w fun v w'=>∃ (y0:Int),y0=r/\v=I y0/\St w w' [] R:=by
 refine ret_of_W Tryz.func10 rfl rfl rfl ?_
 refine kg 2 ?_
 refine t_box (v:=.agg #[v_b_Years,v_b_Olds,I b_First,I b_Last]) (cs:=[v_b_Years,v_b_Olds,I b_First,I b_Last]) H rfl rfl ?_
 intro b_1 w1z H
 refine kg 14 ?_
 obtain ⟨r3z,hx2z,hM⟩:=M.e_bind hM
 refine s_call cf45 [I b_First,I 0,I b_Last] rfl (zad b_First 0 b_Last hx2z _ (H.gt 1)) ?_
 rintro vq w4z ⟨r2,hr5z,hvq,H2_⟩
 subst hr5z
 subst vq
 try dsimp only at hM
 replace H:=H.bk H2_
 clear H2_
 refine kg 4 ?_
 obtain ⟨r3,hx6z,hM⟩:=M.e_bind hM
 refine t_gcall (!(!r2)) (gy_f rfl) cf45 (B r3) (fun _=>[I b_Last,I 0,I 3000]) (fun hg=>lst3 (gd_of (c:=!(!r2)) hg (I b_Last)) rfl rfl) H (fun hg=>(zad b_Last 0 3000 (M.e_opt hx6z hg) _ (H.give (A:=[]) rfl)).mono fun v_ w_ ⟨y_,hr_,hv_,H_⟩=>by subst hr_; exact ⟨hv_,H.via H_⟩) ?_
 intro w7z H
 obtain ⟨sd8z,hM⟩:=M.e_grd hM
 replace sd8z:=M.imp_of sd8z
 simp only [Bool.and_eq_true,decide_eq_true_eq] at sd8z
 refine kg 12 ?_
 refine W.cond (((!r2)||(!r3))||(decide (1000<=(b_Last-b_First)))) rfl (fun c9z=>?_) (fun c9z=>?_)
 ·replace hM:=M.e_t hM c9z
  refine kg 4 ?_
  refine W.ret ?_
  have hr_:=M.e_pure hM
  exact ⟨_,resE_tmp rfl,⟨110,hr_,rfl,(H.pk [])⟩⟩
 replace hM:=M.e_f hM c9z
 have hl10z:=(hs_b_Years).len_le
 have hl11z:=(hs_b_Olds).len_le
 refine kg 16 ?_
 obtain ⟨r4,hx12z,hM⟩:=M.e_bind hM
 refine t_gcall (!((decide (60<(b_Years.length:Int)))||(decide (8<(b_Olds.length:Int))))) (gy_f rfl) cf46 (B r4) (fun _=>[v_b_Olds,.func (.func 44) #[] #[]]) (fun hg=>lst2 (gd_of (c:=!((decide (60<(b_Years.length:Int)))||(decide (8<(b_Olds.length:Int))))) hg (v_b_Olds)) (gd_of (c:=!((decide (60<(b_Years.length:Int)))||(decide (8<(b_Olds.length:Int))))) hg (.func (.func 44) #[] #[]))) H (fun hg=>(zdK b_Olds (fun xqz=>zc3 xqz) (hC_b_Olds.app _) hs_b_Olds ⟨44,[],rfl,cf44,fun wqz Lqz Cqz vqz xqz bqz hsqz hCqz hAqz hpqz=>by obtain ⟨sv_,rfl,hs_x⟩:=Old10_arg hAqz; exact (zdT xqz hCqz hs_x hpqz wqz (St.refl hsqz)).mono fun vqz wqz ⟨yqz,hrqz,hvqz,Hqz⟩=>by subst hrqz; exact ⟨hvqz,Hqz⟩⟩ (M.e_opt hx12z hg) _ (H.give (A:=[]) rfl)).mono fun v_ w_ ⟨y_,hr_,hv_,H_⟩=>by subst hr_; exact ⟨hv_,H.via H_⟩) ?_
 intro w13z H
 refine kg 4 ?_
 refine W.cond (((decide (60<(b_Years.length:Int)))||(decide (8<(b_Olds.length:Int))))||(!r4)) rfl (fun c14z=>?_) (fun c14z=>?_)
 ·replace hM:=M.e_t hM c14z
  refine kg 4 ?_
  refine W.ret ?_
  have hr_:=M.e_pure hM
  exact ⟨_,resE_tmp rfl,⟨3,hr_,rfl,(H.pk [])⟩⟩
 replace hM:=M.e_f hM c14z
 have hl15z:=(hs_b_Years).len_le
 refine kg 10 ?_
 obtain ⟨ex16z,hi17z,hk18z⟩:=M.e_bind hM
 obtain ⟨m0_,hi17z⟩:=M.e_iter hi17z
 refine W.loop (fun m σ W=>∃ (s:Nat) (ρ:Env),σ=upds ρ [(1,Pq b_1),(46,v_b_Years),(47,I (b_Years.length:Int)),(48,I (s:Int))]/\M.iterN (za8 b_Years b_Olds b_First b_Last) m s=some ex16z/\St w W [cBlk b_1 [v_b_Years,v_b_Olds,I b_First,I b_Last] 28] R) ?_ ?_
 ·exact ⟨_,0,_,upds_of _ _ ⟨rfl,rfl,rfl,rfl,trivial⟩,hi17z,H⟩
 rintro m21z σ w19z ⟨s,ρ,rfl,hI20z,H⟩
 obtain ⟨m22z,lt23z,x24z,hM,hN25z⟩:=M.e_iterN hI20z
 simp only [za8] at hM
 clear hI20z
 refine kg 5 ?_
 refine W.cond (decide ((s:Int)<(b_Years.length:Int))) rfl (fun c26z=>?_) (fun c26z=>?_)
 ·replace hM:=M.e_t hM c26z
  simp only [qy1,qy2,qy3,qy4,qy5,qy6,ne_eq,qy7] at c26z
  obtain ⟨sd27z,hM⟩:=M.e_grd hM
  simp only [Bool.and_eq_true,decide_eq_true_eq] at sd27z
  refine kg 8 ?_
  refine t_alloc (cs:=[I 0,I 0,I 0]) H Al36 rfl ?_
  intro b_2 w28z H
  refine kg 1 ?_
  refine t_sw 0 0 [I ((b_Years.getD s default).year),I ((b_Years.getD s default).lo),I ((b_Years.getD s default).hi)] (.agg #[I ((b_Years.getD s default).year),I ((b_Years.getD s default).lo),I ((b_Years.getD s default).hi)]) H rfl rfl Sz36 rfl rfl rfl rfl ?_
  intro w29z H
  refine kg 6 ?_
  refine s_val (x_mi (v:=.agg #[I ((b_Years.getD s default).year),I ((b_Years.getD s default).lo),I ((b_Years.getD s default).hi)]) Tryz.underlying36 (by intro m h_; cases h_) rfl) ?_
  obtain ⟨r31z,hx30z,hM⟩:=M.e_bind hM
  refine s_call cf43 [.agg #[v_b_Years,v_b_Olds,I b_First,I b_Last],.iface 36 (.agg #[I ((b_Years.getD s default).year),I ((b_Years.getD s default).lo),I ((b_Years.getD s default).hi)])] rfl (zdP b_Years b_Olds b_First b_Last (b_Years.getD s default) (hC_b_Years.app _) hs_b_Years (hC_b_Olds.app _) hs_b_Olds hx30z _ (H.gt 2)) ?_
  rintro vq w32z ⟨r5,hr33z,hvq,H2_⟩
  subst hr33z
  subst vq
  try dsimp only at hM
  replace H:=H.bk H2_
  clear H2_
  refine kg 3 ?_
  refine W.cond (!r5) rfl (fun c34z=>?_) (fun c34z=>?_)
  ·replace hM:=M.e_t hM c34z
   refine kg 4 ?_
   refine W.ret ?_
   have hX35z:=M.e_inr hM hN25z
   subst hX35z
   replace hM:=hk18z
   try dsimp only at hM
   have hr_:=M.e_pure hM
   exact ⟨_,resE_tmp rfl,⟨110,hr_,rfl,(H.pk [])⟩⟩
  replace hM:=M.e_f hM c34z
  refine W.seq ?_
  refine W.draw (fun W=>St w W [cBlk b_2 [I ((b_Years.getD s default).year),I ((b_Years.getD s default).lo),I ((b_Years.getD s default).hi)] 36,cBlk b_1 [v_b_Years,v_b_Olds,I b_First,I b_Last] 28] R) [(0,true),(1,true),(2,true),(3,true),(4,true),(5,true),(6,true),(7,true),(8,true),(9,true),(10,true),(11,true),(12,true),(13,true),(14,true)] mixed (by decide +kernel) rfl ?_
  intro w36z hx_
  replace H:=H.ext hx_
  clear hx_
  refine ⟨(H.pk [0,1]),?_⟩
  obtain ⟨sd37z,hM⟩:=M.e_grd hM
  replace sd37z:=M.imp_of sd37z
  simp only [Bool.and_eq_true,decide_eq_true_eq] at sd37z
  obtain ⟨sd38z,hM⟩:=M.e_grd hM
  replace sd38z:=M.imp_of sd38z
  simp only [Bool.and_eq_true,decide_eq_true_eq] at sd38z
  refine kg 16 ?_
  refine W.cond ((decide (0<(s:Int)))&&(decide (((b_Years.getD s default).year)<=((b_Years.getD (Int.toNat ((s:Int)-1)) default).year)))) rfl (fun c39z=>?_) (fun c39z=>?_)
  ·replace hM:=M.e_t hM c39z
   refine kg 4 ?_
   refine W.ret ?_
   have hX40z:=M.e_inr hM hN25z
   subst hX40z
   replace hM:=hk18z
   try dsimp only at hM
   have hr_:=M.e_pure hM
   exact ⟨_,resE_tmp rfl,⟨9,hr_,rfl,(H.pk [])⟩⟩
  replace hM:=M.e_f hM c39z
  refine kg 5 ?_
  exact ⟨m22z,lt23z,s+1,_,upds_of _ _ ⟨rfl,rfl,rfl,rfl,trivial⟩,M.e_inl hM hN25z,(H.pk [1])⟩
 replace hM:=M.e_f hM c26z
 simp only [qy1,qy2,qy3,qy4,qy5,qy6,ne_eq,qy7] at c26z
 refine W.exit ?_
 have hX41z:=M.e_inr hM hN25z
 subst hX41z
 replace hM:=hk18z
 try dsimp only at hM
 refine kg 5 ?_
 refine s_val (x_mf (fs:=[]) (cs:=[Pq b_1]) rfl rfl) ?_
 obtain ⟨r43z,hx42z,hM⟩:=M.e_bind hM
 refine s_call cf46 [v_b_Olds,.func (.func 47) #[] #[Pq b_1]] rfl (zdK b_Olds (fun xqz=>zct xqz b_Years b_Olds b_First b_Last) (hC_b_Olds.app _) hs_b_Olds ⟨47,[Pq b_1],rfl,cf47,fun wqz Lqz Cqz vqz xqz bqz hsqz hCqz hAqz hpqz=>by obtain ⟨sv_,rfl,hs_x⟩:=Old10_arg hAqz; exact (zdZ xqz b_Years b_Olds b_First b_Last hCqz hs_x (Reads.app (hC_b_Years.app _) _) hs_b_Years (Reads.app (hC_b_Olds.app _) _) hs_b_Olds (Has.app (Has.here (k:=0) rfl) _) hpqz wqz (St.refl hsqz)).mono fun vqz wqz ⟨yqz,hrqz,hvqz,Hqz⟩=>by subst hrqz; exact ⟨hvqz,Hqz⟩⟩ hx42z _ (H.gt 1)) ?_
 rintro vq w44z ⟨r6,hr45z,hvq,H2_⟩
 subst hr45z
 subst vq
 try dsimp only at hM
 replace H:=H.bk H2_
 clear H2_
 refine kg 2 ?_
 refine W.cond (!r6) rfl (fun c46z=>?_) (fun c46z=>?_)
 ·replace hM:=M.e_t hM c46z
  refine kg 4 ?_
  refine W.ret ?_
  have hr_:=M.e_pure hM
  exact ⟨_,resE_tmp rfl,⟨110,hr_,rfl,(H.pk [])⟩⟩
 replace hM:=M.e_f hM c46z
 refine kg 5 ?_
 refine W.ret ?_
 have hr_:=M.e_pure hM
 exact ⟨_,resE_tmp rfl,⟨0,hr_,rfl,(H.pk [])⟩⟩

def zbE (s:List Int) (v:Int):Nat->M (Nat ⊕ (Int ⊕ Unit)):=fun s2 =>
  bif decide ((s2:Int)<(s.length:Int)) then (
  M.grd (decide ((s2:Int)<(s.length:Int))) <|
  bif v==(s.getD s2 0) then (
  M.pure (.inr (.inl (s2:Int))))
  else (
  M.pure (.inl (s2+1))))
  else (
  M.pure (.inr (.inr ())))
def zcz (s:List Int) (v:Int):M Int :=
  M.bind (M.iter (zbE s v) 0) fun x_=>match x_ with
  | (.inl s3)=>(
  M.pure s3)
  | (.inr (_:Unit))=>(
  M.pure (-1))
theorem zdQ {R:List Chunk} {C_s:Cells} {v_s:Value} (s:List Int) (v:Int) (hC_s:Reads R C_s) (hs_s:Sl C_s v_s s) {r:Int} (hM:(zcz s v).Ends r) (w:World) (H:St w w [] R):Ret Tryz.prog 103 #[v_s,I v] w fun v w'=>∃ (y0:Int),y0=r/\v=I y0/\St w w' [] R:=by
 refine ret_of_W Tryz.func103 rfl rfl rfl ?_
 have hl1z:=(hs_s).len_le
 refine kg 12 ?_
 obtain ⟨ex2z,hi3z,hk4z⟩:=M.e_bind hM
 obtain ⟨m0_,hi3z⟩:=M.e_iter hi3z
 refine W.loop (fun m σ W=>∃ (s2:Nat) (ρ:Env),σ=upds ρ [(0,v_s),(1,I v),(7,I (s.length:Int)),(8,I (s2:Int))]/\M.iterN (zbE s v) m s2=some ex2z/\St w W [] R) ?_ ?_
 ·exact ⟨_,0,_,upds_of _ _ ⟨rfl,rfl,rfl,rfl,trivial⟩,hi3z,H⟩
 rintro m7z σ w5z ⟨s2,ρ,rfl,hI6z,H⟩
 obtain ⟨m8z,lt9z,x10z,hM,hN11z⟩:=M.e_iterN hI6z
 simp only [zbE] at hM
 clear hI6z
 refine kg 5 ?_
 refine W.cond (decide ((s2:Int)<(s.length:Int))) rfl (fun c12z=>?_) (fun c12z=>?_)
 ·replace hM:=M.e_t hM c12z
  simp only [qy1,qy2,qy3,qy4,qy5,qy6,ne_eq,qy7] at c12z
  obtain ⟨sd13z,hM⟩:=M.e_grd hM
  simp only [Bool.and_eq_true,decide_eq_true_eq] at sd13z
  refine kg 17 ?_
  refine W.cond (v==(s.getD s2 0)) rfl (fun c14z=>?_) (fun c14z=>?_)
  ·replace hM:=M.e_t hM c14z
   simp only [qy1,qy2,qy3,qy4,qy5,qy6,ne_eq,qy7] at c14z
   refine kg 5 ?_
   refine W.ret ?_
   have hX15z:=M.e_inr hM hN11z
   subst hX15z
   replace hM:=hk4z
   try dsimp only at hM
   have hr_:=M.e_pure hM
   exact ⟨_,resE_tmp rfl,⟨(s2:Int),hr_,rfl,H⟩⟩
  replace hM:=M.e_f hM c14z
  simp only [qy1,qy2,qy3,qy4,qy5,qy6,ne_eq,qy7] at c14z
  refine kg 5 ?_
  exact ⟨m8z,lt9z,s2+1,_,upds_of _ _ ⟨rfl,rfl,rfl,rfl,trivial⟩,M.e_inl hM hN11z,H⟩
 replace hM:=M.e_f hM c12z
 simp only [qy1,qy2,qy3,qy4,qy5,qy6,ne_eq,qy7] at c12z
 refine W.exit ?_
 have hX16z:=M.e_inr hM hN11z
 subst hX16z
 replace hM:=hk4z
 try dsimp only at hM
 refine kg 4 ?_
 refine W.ret ?_
 have hr_:=M.e_pure hM
 exact ⟨_,resE_tmp rfl,⟨(-1),hr_,rfl,H⟩⟩

def zc8 (s:List Int) (v:Int):M Bool :=
  M.bind (zcz s v) fun r2 =>
  M.pure (decide (0<=r2))
theorem zdV {R:List Chunk} {C_s:Cells} {v_s:Value} (s:List Int) (v:Int) (hC_s:Reads R C_s) (hs_s:Sl C_s v_s s) {r:Bool} (hM:(zc8 s v).Ends r) (w:World) (H:St w w [] R):Ret Tryz.prog 89 #[v_s,I v] w fun v w'=>∃ (y0:Bool),y0=r/\v=B y0/\St w w' [] R:=by
 refine ret_of_W Tryz.func89 rfl rfl rfl ?_
 refine kg 8 ?_
 obtain ⟨r2z,hx1z,hM⟩:=M.e_bind hM
 refine s_call cf103 [v_s,I v] rfl (zdQ s v (hC_s.app _) hs_s hx1z _ (H.gt 0)) ?_
 rintro vq w3z ⟨r2,hr4z,hvq,H2_⟩
 subst hr4z
 subst vq
 try dsimp only at hM
 replace H:=H.bk H2_
 clear H2_
 refine kg 3 ?_
 refine W.ret ?_
 have hr_:=M.e_pure hM
 exact ⟨_,resE_tmp rfl,⟨(decide (0<=r2)),hr_,rfl,H⟩⟩

def zaS (b_Last:Int):((List (Int × Span)) × Int)->M (((List (Int × Span)) × Int) ⊕ (List (Int × Span))):=fun (mp,year) =>
  bif decide (year<=b_Last) then (
  M.grd (decide ((-9223372036854775808:Int)<=(year+1))&&decide ((year+1)<=(9223372036854775807:Int))) <|
  M.pure (.inl (setM mp (year:Int) (⟨(0:Int),(2000:Int)⟩:Span),year+1)))
  else (
  M.pure (.inr mp))
def za9 (b_Years:List Yr):((List (Int × Span)) × Nat)->M (((List (Int × Span)) × Nat) ⊕ (List (Int × Span))):=fun (mp3,s) =>
  bif decide ((s:Int)<(b_Years.length:Int)) then (
  M.grd (decide ((s:Int)<(b_Years.length:Int))) <|
  bif !(decide ((b_Years.getD s default)=(⟨((b_Years.getD s default).year:Int),(((lookM mp3 ((b_Years.getD s default).year:Int)).getD default).lo:Int),(((lookM mp3 ((b_Years.getD s default).year:Int)).getD default).hi:Int)⟩:Yr))) then (
  M.pure (.inl (setM mp3 ((b_Years.getD s default).year:Int) (⟨((b_Years.getD s default).lo:Int),((b_Years.getD s default).hi:Int)⟩:Span),s+1)))
  else (
  M.pure (.inl (mp3,s+1))))
  else (
  M.pure (.inr mp3))
def zcs (b_Olds:List Old10) (ky:Int):(Nat × Int × Int)->M ((Nat × Int × Int) ⊕ (Int × Int)):=fun (s2,s3,s4) =>
  bif decide ((s2:Int)<(b_Olds.length:Int)) then (
  M.grd (decide ((s2:Int)<(b_Olds.length:Int))) <|
  M.bind (zab ky ((b_Olds.getD s2 default).src) ((b_Olds.getD s2 default).dst)) fun r3 =>
  bif !r3 then (
  M.pure (.inl (s2+1,s3,s4)))
  else (
  M.bind (zc8 ((b_Olds.getD s2 default).passed) ky) fun r4 =>
  bif r4 then (
  M.pure (.inl (s2+1,max s3 ((b_Olds.getD s2 default).stage),s4)))
  else (
  M.grd (decide ((-9223372036854775808:Int)<=(((b_Olds.getD s2 default).stage)-1))&&decide ((((b_Olds.getD s2 default).stage)-1)<=(9223372036854775807:Int))) <|
  M.pure (.inl (s2+1,s3,min s4 (((b_Olds.getD s2 default).stage)-1))))))
  else (
  M.pure (.inr (s3,s4)))
def zbR (b_Olds:List Old10) (ky:Int) (vl:Span):M Span :=
  M.bind (M.iter (zcs b_Olds ky) (0,(vl).lo,(vl).hi)) fun (s5,s6) =>
  M.pure (⟨(s5:Int),(s6:Int)⟩:Span)
def zao (b_Years:List Yr) (b_Olds:List Old10) (b_First:Int) (b_Last:Int):M (Int ⊕ (Int × Int × (List (Int × Span)) × Int)) :=
  M.bind (zam b_Years b_Olds b_First b_Last) fun r2 =>
  bif r2 != 0 then (
  M.pure (.inl r2))
  else (
  M.bind (M.iter (zaS b_Last) (([]:List (Int × Span)),b_First)) fun mp2 =>
  M.bind (M.iter (za9 b_Years) (mp2,0)) fun mp4 =>
  M.bind (M.mapL (zbR b_Olds) mp4) fun mq =>
  M.pure (.inr (b_First,b_Last,mq,0)))
theorem zcN {R:List Chunk} {C_b_Years:Cells} {v_b_Years:Value} {C_b_Olds:Cells} {v_b_Olds:Value} (b_Years:List Yr) (b_Olds:List Old10) (b_First:Int) (b_Last:Int) (hC_b_Years:Reads R C_b_Years) (hs_b_Years:Sl C_b_Years v_b_Years b_Years) (hC_b_Olds:Reads R C_b_Olds) (hs_b_Olds:Sl C_b_Olds v_b_Olds b_Olds) {r:(Int ⊕ (Int × Int × (List (Int × Span)) × Int))} (hM:(zao b_Years b_Olds b_First b_Last).Ends r) (w:World) (H:St w w [] R):Ret Tryz.prog 72 #[.agg #[v_b_Years,v_b_Olds,I b_First,I b_Last]] w fun v w'=>(∃ (y0:Int),(.inl y0)=r/\v = .tuple #[.pointer none,I y0]/\St w w' [] R)∨(∃ (y0:Int) (y1:Int) (y2:List (Int × Span)) (y3:Int) (nb0:Nat) (nb1:Nat),(.inr (y0,y1,y2,y3))=r/\v = .tuple #[Pq nb0,I y3]/\St w w' [cBlk nb0 [v_b_Years,v_b_Olds,I y0,I y1,.map (some nb1)] 132,cMl I encSp nb1 y2] R):=by
 refine ret_of_W Tryz.func72 rfl rfl rfl ?_
 refine kg 2 ?_
 refine t_box (v:=.agg #[v_b_Years,v_b_Olds,I b_First,I b_Last]) (cs:=[v_b_Years,v_b_Olds,I b_First,I b_Last]) H rfl rfl ?_
 intro b_1 w1z H
 refine kg 7 ?_
 obtain ⟨r3z,hx2z,hM⟩:=M.e_bind hM
 refine s_call cf10 [.agg #[v_b_Years,v_b_Olds,I b_First,I b_Last]] rfl (za4 b_Years b_Olds b_First b_Last (hC_b_Years.app _) hs_b_Years (hC_b_Olds.app _) hs_b_Olds hx2z _ (H.gt 1)) ?_
 rintro vq w4z ⟨r2,hr5z,hvq,H2_⟩
 subst hr5z
 subst vq
 try dsimp only at hM
 replace H:=H.bk H2_
 clear H2_
 refine kg 7 ?_
 refine W.cond (r2 != 0) rfl (fun c6z=>?_) (fun c6z=>?_)
 ·replace hM:=M.e_t hM c6z
  simp only [qy1,qy2,qy3,qy4,qy5,qy6,ne_eq,qy7] at c6z
  refine kg 6 ?_
  refine W.ret ?_
  have hr_:=M.e_pure hM
  exact ⟨_,resE_tmp2 rfl,.inl (⟨r2,hr_,rfl,(H.pk [])⟩)⟩
 replace hM:=M.e_f hM c6z
 simp only [qy1,qy2,qy3,qy4,qy5,qy6,ne_eq,qy7] at c6z
 refine kg 4 ?_
 refine t_mkMl (κ:=Int) (ν:=Span) I encSp H ?_
 intro b_2 w7z H
 refine s_val (x_bld (ps:=[(0,.agg #[v_b_Years,v_b_Olds,I b_First,I b_Last]),(1,.map (some b_2))]) (zs:=[.slice none 0 0,.slice none 0 0,I 0,I 0,.map none]) (L':=[v_b_Years,v_b_Olds,I b_First,I b_Last,.map (some b_2)]) rfl Tryz.underlying132 Al132 rfl (Bd132 Tryz.underlying132) (.cons (cs:=[v_b_Years,v_b_Olds,I b_First,I b_Last]) rfl rfl rfl rfl rfl<|.cons (cs:=[.map (some b_2)]) rfl rfl rfl rfl rfl<|.nil)) ?_
 refine t_box (v:=.agg #[v_b_Years,v_b_Olds,I b_First,I b_Last,.map (some b_2)]) (cs:=[v_b_Years,v_b_Olds,I b_First,I b_Last,.map (some b_2)]) H rfl rfl ?_
 intro b_3 w8z H
 refine kg 10 ?_
 obtain ⟨ex9z,hi10z,hk11z⟩:=M.e_bind hM
 obtain ⟨m0_,hi10z⟩:=M.e_iter hi10z
 refine W.loop (fun m σ W=>∃ (mp:List (Int × Span)) (year:Int) (ρ:Env),σ=upds ρ [(1,Pq b_1),(5,Pq b_3),(6,I year)]/\M.iterN (zaS b_Last) m (mp,year)=some ex9z/\St w W [cBlk b_3 [v_b_Years,v_b_Olds,I b_First,I b_Last,.map (some b_2)] 132,cMl I encSp b_2 mp,cBlk b_1 [v_b_Years,v_b_Olds,I b_First,I b_Last] 28] R) ?_ ?_
 ·exact ⟨_,([]:List (Int × Span)),b_First,_,upds_of _ _ ⟨rfl,rfl,rfl,trivial⟩,hi10z,H⟩
 rintro m14z σ w12z ⟨mp,year,ρ,rfl,hI13z,H⟩
 obtain ⟨m15z,lt16z,x17z,hM,hN18z⟩:=M.e_iterN hI13z
 simp only [zaS] at hM
 clear hI13z
 refine kg 8 ?_
 refine W.cond (decide (year<=b_Last)) rfl (fun c19z=>?_) (fun c19z=>?_)
 ·replace hM:=M.e_t hM c19z
  simp only [qy1,qy2,qy3,qy4,qy5,qy6,ne_eq,qy7] at c19z
  refine kg 9 ?_
  refine s_val (x_bld (ps:=[(1,I 2000)]) (zs:=[I 0,I 0]) (L':=[I 0,I 2000]) rfl Tryz.underlying34 Al34 rfl (Bd34 Tryz.underlying34) (.cons (cs:=[I 2000]) rfl rfl rfl rfl rfl<|.nil)) ?_
  refine t_putMl (i:=1) (kenc:=I) (venc:=encSp) (m:=mp) (k:=(year:Int)) (v:=(⟨(0:Int),(2000:Int)⟩:Span)) (L':=[cBlk b_3 [v_b_Years,v_b_Olds,I b_First,I b_Last,.map (some b_2)] 132,cMl I encSp b_2 (setM mp (year:Int) (⟨(0:Int),(2000:Int)⟩:Span)),cBlk b_1 [v_b_Years,v_b_Olds,I b_First,I b_Last] 28]) keyIntSp Tryz.underlying130 H rfl rfl rfl rfl rfl ?_
  intro w20z H
  obtain ⟨sd21z,hM⟩:=M.e_grd hM
  simp only [Bool.and_eq_true,decide_eq_true_eq] at sd21z
  refine kg 6 ?_
  exact ⟨m15z,lt16z,setM mp (year:Int) (⟨(0:Int),(2000:Int)⟩:Span),year+1,_,upds_of _ _ ⟨rfl,rfl,rfl,trivial⟩,M.e_inl hM hN18z,H⟩
 replace hM:=M.e_f hM c19z
 simp only [qy1,qy2,qy3,qy4,qy5,qy6,ne_eq,qy7] at c19z
 refine W.exit ?_
 have hX22z:=M.e_inr hM hN18z
 subst hX22z
 replace hM:=hk11z
 try dsimp only at hM
 have hl23z:=(hs_b_Years).len_le
 refine kg 9 ?_
 obtain ⟨ex24z,hi25z,hk26z⟩:=M.e_bind hM
 obtain ⟨m0_,hi25z⟩:=M.e_iter hi25z
 refine W.loop (fun m σ W=>∃ (mp3:List (Int × Span)) (s:Nat) (ρ:Env),σ=upds ρ [(1,Pq b_1),(5,Pq b_3),(38,v_b_Years),(39,I (b_Years.length:Int)),(40,I (s:Int))]/\M.iterN (za9 b_Years) m (mp3,s)=some ex24z/\St w W [cBlk b_3 [v_b_Years,v_b_Olds,I b_First,I b_Last,.map (some b_2)] 132,cMl I encSp b_2 mp3,cBlk b_1 [v_b_Years,v_b_Olds,I b_First,I b_Last] 28] R) ?_ ?_
 ·exact ⟨_,mp,0,_,upds_of _ _ ⟨rfl,rfl,rfl,rfl,rfl,trivial⟩,hi25z,H⟩
 rintro m29z σ w27z ⟨mp3,s,ρ,rfl,hI28z,H⟩
 obtain ⟨m30z,lt31z,x32z,hM,hN33z⟩:=M.e_iterN hI28z
 simp only [za9] at hM
 clear hI28z
 refine kg 5 ?_
 refine W.cond (decide ((s:Int)<(b_Years.length:Int))) rfl (fun c34z=>?_) (fun c34z=>?_)
 ·replace hM:=M.e_t hM c34z
  simp only [qy1,qy2,qy3,qy4,qy5,qy6,ne_eq,qy7] at c34z
  obtain ⟨sd35z,hM⟩:=M.e_grd hM
  simp only [Bool.and_eq_true,decide_eq_true_eq] at sd35z
  refine kg 7 ?_
  refine t_alloc (cs:=[I 0,I 0,I 0]) H Al36 rfl ?_
  intro b_4 w36z H
  refine t_sw 0 0 [I ((b_Years.getD s default).year),I ((b_Years.getD s default).lo),I ((b_Years.getD s default).hi)] (.agg #[I ((b_Years.getD s default).year),I ((b_Years.getD s default).lo),I ((b_Years.getD s default).hi)]) H rfl rfl Sz36 rfl rfl rfl rfl ?_
  intro w37z H
  refine kg 2 ?_
  refine W.draw (fun W=>St w W [cBlk b_4 [I ((b_Years.getD s default).year),I ((b_Years.getD s default).lo),I ((b_Years.getD s default).hi)] 36,cBlk b_3 [v_b_Years,v_b_Olds,I b_First,I b_Last,.map (some b_2)] 132,cMl I encSp b_2 mp3,cBlk b_1 [v_b_Years,v_b_Olds,I b_First,I b_Last] 28] R) [(0,true),(1,true),(2,true),(3,true),(4,true),(5,true),(6,true),(7,true),(8,true),(9,true),(10,false),(11,false)] mixed (by decide +kernel) rfl ?_
  intro w38z hx_
  replace H:=H.ext hx_
  clear hx_
  refine ⟨(H.pk [0,1,2,3]),?_⟩
  refine kg 8 ?_
  refine d_q rfl (fun w' H=>q_look (kenc:=I) (venc:=encSp) (f:=lookM mp3) (k:=((b_Years.getD s default).year:Int)) (v:=.agg #[I (((lookM mp3 ((b_Years.getD s default).year:Int)).getD default).lo),I (((lookM mp3 ((b_Years.getD s default).year:Int)).getD default).hi)]) keyIntSp Tryz.underlying130 Al34 rfl rfl (mlMap (H.get (k:=2) rfl)) false (by rw [if_neg (by decide),span_val])) ?_
  refine d_q rfl (fun w' H=>x_bld (ps:=[(0,I ((b_Years.getD s default).year)),(1,.agg #[I (((lookM mp3 ((b_Years.getD s default).year:Int)).getD default).lo),I (((lookM mp3 ((b_Years.getD s default).year:Int)).getD default).hi)])]) (zs:=[I 0,I 0,I 0]) (L':=[I ((b_Years.getD s default).year),I (((lookM mp3 ((b_Years.getD s default).year:Int)).getD default).lo),I (((lookM mp3 ((b_Years.getD s default).year:Int)).getD default).hi)]) rfl Tryz.underlying36 Al36 rfl (Bd36 Tryz.underlying36) (.cons (cs:=[I ((b_Years.getD s default).year)]) rfl rfl rfl rfl rfl<|.cons (cs:=[I (((lookM mp3 ((b_Years.getD s default).year:Int)).getD default).lo),I (((lookM mp3 ((b_Years.getD s default).year:Int)).getD default).hi)]) rfl rfl rfl rfl rfl<|.nil)) ?_
  refine d_l rfl ?_
  refine t_alloc (cs:=[I 0,I 0,I 0]) H Al36 rfl ?_
  intro b_5 w39z H
  refine s_nil ⟨(H.pk [1,2,3,4]),?_⟩
  refine d_l rfl ?_
  refine t_sw 0 0 [I ((b_Years.getD s default).year),I (((lookM mp3 ((b_Years.getD s default).year:Int)).getD default).lo),I (((lookM mp3 ((b_Years.getD s default).year:Int)).getD default).hi)] (.agg #[I ((b_Years.getD s default).year),I (((lookM mp3 ((b_Years.getD s default).year:Int)).getD default).lo),I (((lookM mp3 ((b_Years.getD s default).year:Int)).getD default).hi)]) H rfl rfl Sz36 rfl rfl rfl rfl ?_
  intro w40z H
  refine s_nil ⟨(H.pk [1,2,3,4]),?_⟩
  refine kg 5 ?_
  refine s_val (x_neS (eqT36 (b_Years.getD s default) (⟨((b_Years.getD s default).year:Int),(((lookM mp3 ((b_Years.getD s default).year:Int)).getD default).lo:Int),(((lookM mp3 ((b_Years.getD s default).year:Int)).getD default).hi:Int)⟩:Yr) _) gdT36 rfl rfl) ?_
  refine s_nil ?_
  refine W.cond (!(decide ((b_Years.getD s default)=(⟨((b_Years.getD s default).year:Int),(((lookM mp3 ((b_Years.getD s default).year:Int)).getD default).lo:Int),(((lookM mp3 ((b_Years.getD s default).year:Int)).getD default).hi:Int)⟩:Yr)))) rfl (fun c41z=>?_) (fun c41z=>?_)
  ·replace hM:=M.e_t hM c41z
   refine W.draw (fun W=>St w W [cBlk b_5 [I ((b_Years.getD s default).year),I (((lookM mp3 ((b_Years.getD s default).year:Int)).getD default).lo),I (((lookM mp3 ((b_Years.getD s default).year:Int)).getD default).hi)] 36,cBlk b_4 [I ((b_Years.getD s default).year),I ((b_Years.getD s default).lo),I ((b_Years.getD s default).hi)] 36,cBlk b_3 [v_b_Years,v_b_Olds,I b_First,I b_Last,.map (some b_2)] 132,cBlk b_1 [v_b_Years,v_b_Olds,I b_First,I b_Last] 28] R) [(0,true),(1,true),(2,true),(3,true),(4,true),(5,true),(6,true),(7,true),(8,false)] mixed (by decide +kernel) rfl ?_
   intro w42z hx_
   replace H:=H.ext hx_
   clear hx_
   refine ⟨(H.pk [0,1,2,4]),?_⟩
   refine kg 8 ?_
   refine d_l rfl ?_
   refine t_putMl (i:=3) (kenc:=I) (venc:=encSp) (m:=mp3) (k:=((b_Years.getD s default).year:Int)) (v:=(⟨((b_Years.getD s default).lo:Int),((b_Years.getD s default).hi:Int)⟩:Span)) (L':=[cBlk b_5 [I ((b_Years.getD s default).year),I (((lookM mp3 ((b_Years.getD s default).year:Int)).getD default).lo),I (((lookM mp3 ((b_Years.getD s default).year:Int)).getD default).hi)] 36,cBlk b_4 [I ((b_Years.getD s default).year),I ((b_Years.getD s default).lo),I ((b_Years.getD s default).hi)] 36,cBlk b_3 [v_b_Years,v_b_Olds,I b_First,I b_Last,.map (some b_2)] 132,cMl I encSp b_2 (setM mp3 ((b_Years.getD s default).year:Int) (⟨((b_Years.getD s default).lo:Int),((b_Years.getD s default).hi:Int)⟩:Span)),cBlk b_1 [v_b_Years,v_b_Olds,I b_First,I b_Last] 28]) keyIntSp Tryz.underlying130 H rfl rfl rfl rfl rfl ?_
   intro w43z H
   refine s_nil ⟨(H.pk [0,1,2,4]),?_⟩
   refine kg 5 ?_
   exact ⟨m30z,lt31z,setM mp3 ((b_Years.getD s default).year:Int) (⟨((b_Years.getD s default).lo:Int),((b_Years.getD s default).hi:Int)⟩:Span),s+1,_,upds_of _ _ ⟨rfl,rfl,rfl,rfl,rfl,trivial⟩,M.e_inl hM hN33z,(H.pk [2,3,4])⟩
  replace hM:=M.e_f hM c41z
  refine kg 5 ?_
  exact ⟨m30z,lt31z,mp3,s+1,_,upds_of _ _ ⟨rfl,rfl,rfl,rfl,rfl,trivial⟩,M.e_inl hM hN33z,(H.pk [2,3,4])⟩
 replace hM:=M.e_f hM c34z
 simp only [qy1,qy2,qy3,qy4,qy5,qy6,ne_eq,qy7] at c34z
 refine W.exit ?_
 have hX44z:=M.e_inr hM hN33z
 subst hX44z
 replace hM:=hk26z
 try dsimp only at hM
 refine kg 7 ?_
 refine t_range (i:=1) (kenc:=I) (venc:=encSp) Tryz.underlying130 H rfl rfl ?_
 intro r_6 w45z H
 replace H:=H.nf
 refine kg 2 ?_
 obtain ⟨mq,hx46z,hM⟩:=M.e_bind hM
 refine W.loop (fun c_ σ W=>∃ (m1_:List (Int × Span)) (lf_:List Bool) (la_:Option Nat) (ρ:Env),σ=upds ρ [(1,Pq b_1),(5,Pq b_3),(70,Pq r_6)]/\c_=lf_.count true/\ItR mp3 mq m1_ lf_/\St w W [cBlk b_3 [v_b_Years,v_b_Olds,I b_First,I b_Last,.map (some b_2)] 132,cIt I encSp b_2 r_6 m1_ lf_ la_,cBlk b_1 [v_b_Years,v_b_Olds,I b_First,I b_Last] 28] R) ?_ ?_
 ·exact ⟨_,_,_,_,_,upds_of _ _ ⟨rfl,rfl,rfl,trivial⟩,rfl,ItR.init hx46z,H⟩
 rintro c_ σ w47z ⟨m1_,lf_,la_,ρ,rfl,rfl,hI48z,H⟩
 refine kg 2 ?_
 refine t_next (i:=1) H rfl rfl (fun hz_=>?_) (fun j_ ky vl w3_ hl_ hm_ H=>?_)
 ·refine kg 3 ?_
  refine W.cond false rfl (fun h_=>absurd h_ (by decide)) (fun _=>?_)
  refine W.exit ?_
  obtain rfl:=hI48z.fin hz_
  replace H:St w w47z [cBlk b_3 [v_b_Years,v_b_Olds,I b_First,I b_Last,.map (some b_2)] 132,cMl I encSp b_2 m1_,cBlk b_1 [v_b_Years,v_b_Olds,I b_First,I b_Last] 28] R:=H.itEnd (i:=1) rfl rfl
  refine kg 6 ?_
  refine W.ret ?_
  have hr_:=M.e_pure hM
  exact ⟨_,resE_tmp2 rfl,.inr (⟨b_First,b_Last,m1_,0,b_3,b_2,hr_,rfl,(H.pk [0,1])⟩)⟩
 refine kg 3 ?_
 refine W.cond true rfl (fun _=>?_) (fun h_=>absurd h_ (by decide))
 refine W.skip ?_
 obtain ⟨v2_,hM,hv2_⟩:=hI48z.at_ hx46z hl_ hm_
 simp only [zbR] at hM
 replace H:=H.nf
 refine kg 3 ?_
 refine s_val (x_entry (v:=vl) (H.get (k:=1) rfl) hm_ rfl) ?_
 refine kg 2 ?_
 refine t_alloc (cs:=[I 0,I 0]) H Al34 rfl ?_
 intro b_7 w49z H
 refine kg 1 ?_
 refine t_sw 0 0 [I ((vl).lo),I ((vl).hi)] (.agg #[I ((vl).lo),I ((vl).hi)]) H rfl rfl Sz34 rfl rfl rfl rfl ?_
 intro w50z H
 have hl51z:=(hs_b_Olds).len_le
 refine kg 10 ?_
 obtain ⟨ex52z,hi53z,hk54z⟩:=M.e_bind hM
 obtain ⟨m0_,hi53z⟩:=M.e_iter hi53z
 refine W.loop (fun m σ W=>∃ (s2:Nat) (s3:Int) (s4:Int) (ρ:Env),σ=upds ρ [(1,Pq b_1),(5,Pq b_3),(10,I ky),(11,Pq b_7),(70,Pq r_6),(77,v_b_Olds),(78,I (b_Olds.length:Int)),(79,I (s2:Int))]/\M.iterN (zcs b_Olds ky) m (s2,s3,s4)=some ex52z/\St w W [cBlk b_7 [I s3,I s4] 34,cBlk b_3 [v_b_Years,v_b_Olds,I b_First,I b_Last,.map (some b_2)] 132,cIt I encSp b_2 r_6 m1_ (lf_.set j_ false) (some j_),cBlk b_1 [v_b_Years,v_b_Olds,I b_First,I b_Last] 28] R) ?_ ?_
 ·exact ⟨_,0,(vl).lo,(vl).hi,_,upds_of _ _ ⟨rfl,rfl,rfl,rfl,rfl,rfl,rfl,rfl,trivial⟩,hi53z,H⟩
 rintro m57z σ w55z ⟨s2,s3,s4,ρ,rfl,hI56z,H⟩
 obtain ⟨m58z,lt59z,x60z,hM,hN61z⟩:=M.e_iterN hI56z
 simp only [zcs] at hM
 clear hI56z
 refine kg 5 ?_
 refine W.cond (decide ((s2:Int)<(b_Olds.length:Int))) rfl (fun c62z=>?_) (fun c62z=>?_)
 ·replace hM:=M.e_t hM c62z
  simp only [qy1,qy2,qy3,qy4,qy5,qy6,ne_eq,qy7] at c62z
  obtain ⟨sd63z,hM⟩:=M.e_grd hM
  simp only [Bool.and_eq_true,decide_eq_true_eq] at sd63z
  refine kg 6 ?_
  obtain ⟨u64z,ha66z,hs65z⟩:=Old10_atA hs_b_Olds (i:=(s2:Int)) (by omega) (by omega)
  replace hs65z:Sl _ u64z (b_Olds.getD s2 default).passed:=hs65z
  have hl_hs65z:=hs65z.len_le
  refine s_val (x_ld (p:=vat v_b_Olds 4 (Int.toNat (s2:Int))) (v:=.agg #[I ((b_Olds.getD s2 default).src),I ((b_Olds.getD s2 default).dst),I ((b_Olds.getD s2 default).stage),u64z]) rfl (ld_ag Ag38 Sz38 (At.mono ha66z (hC_b_Olds.at H)))) ?_
  refine t_alloc (cs:=[I 0,I 0,I 0,.slice none 0 0]) H Al38 rfl ?_
  intro b_8 w67z H
  refine t_sw 0 0 [I ((b_Olds.getD s2 default).src),I ((b_Olds.getD s2 default).dst),I ((b_Olds.getD s2 default).stage),u64z] (.agg #[I ((b_Olds.getD s2 default).src),I ((b_Olds.getD s2 default).dst),I ((b_Olds.getD s2 default).stage),u64z]) H rfl rfl Sz38 rfl rfl rfl (by simp only [List.all_cons,List.all_nil,Bool.true_and,Bool.and_true,Sl.oc hs65z]; try rfl) ?_
  intro w68z H
  refine kg 9 ?_
  obtain ⟨r70z,hx69z,hM⟩:=M.e_bind hM
  refine s_call cf45 [I ky,I ((b_Olds.getD s2 default).src),I ((b_Olds.getD s2 default).dst)] rfl (zad ky ((b_Olds.getD s2 default).src) ((b_Olds.getD s2 default).dst) hx69z _ (H.gt 5)) ?_
  rintro vq w71z ⟨r3,hr72z,hvq,H2_⟩
  subst hr72z
  subst vq
  try dsimp only at hM
  replace H:=H.bk H2_
  clear H2_
  refine kg 3 ?_
  refine W.cond (!r3) rfl (fun c73z=>?_) (fun c73z=>?_)
  ·replace hM:=M.e_t hM c73z
   refine W.exit ?_
   refine kg 4 ?_
   exact ⟨m58z,lt59z,s2+1,s3,s4,_,upds_of _ _ ⟨rfl,rfl,rfl,rfl,rfl,rfl,rfl,rfl,trivial⟩,M.e_inl hM hN61z,(H.pk [1,2,3,4])⟩
  replace hM:=M.e_f hM c73z
  refine kg 5 ?_
  obtain ⟨r75z,hx74z,hM⟩:=M.e_bind hM
  refine s_call cf89 [u64z,I ky] rfl (zdV ((b_Olds.getD s2 default).passed) ky (hC_b_Olds.app _) hs65z hx74z _ (H.gt 5)) ?_
  rintro vq w76z ⟨r4,hr77z,hvq,H2_⟩
  subst hr77z
  subst vq
  try dsimp only at hM
  replace H:=H.bk H2_
  clear H2_
  refine kg 2 ?_
  refine W.cond r4 rfl (fun c78z=>?_) (fun c78z=>?_)
  ·replace hM:=M.e_t hM c78z
   refine kg 7 ?_
   refine t_sw 1 0 [I (max s3 ((b_Olds.getD s2 default).stage))] (I (max s3 ((b_Olds.getD s2 default).stage))) H rfl rfl Sz3 rfl rfl rfl rfl ?_
   intro w79z H
   refine kg 5 ?_
   exact ⟨m58z,lt59z,s2+1,max s3 ((b_Olds.getD s2 default).stage),s4,_,upds_of _ _ ⟨rfl,rfl,rfl,rfl,rfl,rfl,rfl,rfl,trivial⟩,M.e_inl hM hN61z,(H.pk [1,2,3,4])⟩
  replace hM:=M.e_f hM c78z
  obtain ⟨sd80z,hM⟩:=M.e_grd hM
  simp only [Bool.and_eq_true,decide_eq_true_eq] at sd80z
  refine kg 8 ?_
  refine t_sw 1 1 [I (min s4 (((b_Olds.getD s2 default).stage)-1))] (I (min s4 (((b_Olds.getD s2 default).stage)-1))) H rfl rfl Sz3 rfl rfl rfl rfl ?_
  intro w81z H
  refine kg 5 ?_
  exact ⟨m58z,lt59z,s2+1,s3,min s4 (((b_Olds.getD s2 default).stage)-1),_,upds_of _ _ ⟨rfl,rfl,rfl,rfl,rfl,rfl,rfl,rfl,trivial⟩,M.e_inl hM hN61z,(H.pk [1,2,3,4])⟩
 replace hM:=M.e_f hM c62z
 simp only [qy1,qy2,qy3,qy4,qy5,qy6,ne_eq,qy7] at c62z
 refine W.exit ?_
 have hX82z:=M.e_inr hM hN61z
 subst hX82z
 replace hM:=hk54z
 try dsimp only at hM
 refine W.draw (fun W=>St w W [cBlk b_7 [I s3,I s4] 34,cBlk b_3 [v_b_Years,v_b_Olds,I b_First,I b_Last,.map (some b_2)] 132,cBlk b_1 [v_b_Years,v_b_Olds,I b_First,I b_Last] 28] R) [(0,true),(1,true),(2,true),(3,true),(4,true),(5,true),(6,false)] mixed (by decide +kernel) rfl ?_
 intro w83z hx_
 replace H:=H.ext hx_
 clear hx_
 refine ⟨(H.pk [0,1,3]),?_⟩
 refine kg 6 ?_
 refine d_l rfl ?_
 refine t_putIt (i:=2) (j:=j_) (kenc:=I) (venc:=encSp) (m:=m1_) (k:=ky) (v:=(⟨(s3:Int),(s4:Int)⟩:Span)) (L':=[cBlk b_7 [I s3,I s4] 34,cBlk b_3 [v_b_Years,v_b_Olds,I b_First,I b_Last,.map (some b_2)] 132,cIt I encSp b_2 r_6 (m1_.set j_ (ky,(⟨(s3:Int),(s4:Int)⟩:Span))) (lf_.set j_ false) (some j_),cBlk b_1 [v_b_Years,v_b_Olds,I b_First,I b_Last] 28]) keyIntSp Tryz.underlying130 H rfl rfl hm_ rfl rfl rfl ?_
 intro w84z H
 refine s_nil ⟨(H.pk [0,1,3]),?_⟩
 refine d_nil ?_
 have hX_:=M.e_pure hM
 subst hX_
 exact ⟨_,ItR.less hl_,_,_,_,_,upds_of _ _ ⟨rfl,rfl,rfl,trivial⟩,rfl,hI48z.step hl_ hm_ hv2_,(H.pk [1,2,3])⟩

def zaf (w__Book_Years:List Yr) (w__Book_Olds:List Old10) (w__Book_First:Int) (w__Book_Last:Int) (w__known:List (Int × Span)) (from_:Int) (to_:Int):M (Int × Int) :=
  M.pure (from_,to_)
theorem zaz {R:List Chunk} {b_w_:Nat} {C_w__Book_Years:Cells} {v_w__Book_Years:Value} {C_w__Book_Olds:Cells} {v_w__Book_Olds:Value} {b_w__known:Nat} (w__Book_Years:List Yr) (w__Book_Olds:List Old10) (w__Book_First:Int) (w__Book_Last:Int) (w__known:List (Int × Span)) (from_:Int) (to_:Int) (hC_w__Book_Years:Reads R C_w__Book_Years) (hs_w__Book_Years:Sl C_w__Book_Years v_w__Book_Years w__Book_Years) (hC_w__Book_Olds:Reads R C_w__Book_Olds) (hs_w__Book_Olds:Sl C_w__Book_Olds v_w__Book_Olds w__Book_Olds) (h_b_w__known:Has R (cMl I encSp b_w__known w__known)) (h_b_w_:Has R (cBlk b_w_ [v_w__Book_Years,v_w__Book_Olds,I w__Book_First,I w__Book_Last,.map (some b_w__known)] 132)) {r:(Int × Int)} (hM:(zaf w__Book_Years w__Book_Olds w__Book_First w__Book_Last w__known from_ to_).Ends r) (w:World) (H:St w w [] R):Ret Tryz.prog 50 #[Pq b_w_,I from_,I to_] w fun v w'=>∃ (y0:Int) (y1:Int) (nb0:Nat) (nb1:Nat) (nb2:Nat),(y0,y1)=r/\v = .func (.func 81) #[] #[Pq nb0,Pq nb1,Pq nb2]/\St w w' [cBlk nb0 [I y0] 3,cBlk nb1 [I y1] 3,cBlk nb2 [Pq b_w_] 93] R:=by
 refine ret_of_W Tryz.func50 rfl rfl rfl ?_
 refine kg 2 ?_
 refine t_box (v:=Pq b_w_) (cs:=[Pq b_w_]) H rfl rfl ?_
 intro b_1 w1z H
 refine t_box (v:=I from_) (cs:=[I from_]) H rfl rfl ?_
 intro b_2 w2z H
 refine t_box (v:=I to_) (cs:=[I to_]) H rfl rfl ?_
 intro b_3 w3z H
 refine kg 4 ?_
 refine s_val (x_mf (fs:=[]) (cs:=[Pq b_2,Pq b_3,Pq b_1]) rfl rfl) ?_
 refine kg 2 ?_
 refine W.ret ?_
 have hr_:=M.e_pure hM
 exact ⟨_,resE_tmp rfl,⟨from_,to_,b_2,b_3,b_1,hr_,rfl,(H.pk [1,0,2])⟩⟩

def zcf {T_:Type} (yield_:T_->(Int × Span)->M (Bool × T_)) (k12:Int) (k224:List (Int × Span)):(Int × T_)->M ((Int × T_) ⊕ (T_ ⊕ T_)):=fun (year,t2) =>
  bif decide (year<=k12) then (
  M.bind (yield_ t2 (year,((lookM k224 (year:Int)).getD default))) fun (go,t) =>
  bif !go then (
  M.pure (.inr (.inl t)))
  else (
  M.grd (decide ((-9223372036854775808:Int)<=(year+1))&&decide ((year+1)<=(9223372036854775807:Int))) <|
  M.pure (.inl (year+1,t))))
  else (
  M.pure (.inr (.inr t2)))
def zaj {T_:Type} (yield_:T_->(Int × Span)->M (Bool × T_)) (t_:T_) (k02:Int) (k12:Int) (k220:List Yr) (k221:List Old10) (k222:Int) (k223:Int) (k224:List (Int × Span)):M T_ :=
  M.bind (M.iter (zcf yield_ k12 k224) (k02,t_)) fun x_=>match x_ with
  | (.inl t3)=>(
  M.pure t3)
  | (.inr t4)=>(
  M.pure t4)
theorem zaE {R:List Chunk} {T_:Type} {Y_:T_->List Chunk->Prop} {v_yield_:Value} {Ls_:List Chunk} {b_k0:Nat} {b_k1:Nat} {b_k2:Nat} {b_k22:Nat} {C_k220:Cells} {v_k220:Value} {C_k221:Cells} {v_k221:Value} {b_k224:Nat} (yield_:T_->(Int × Span)->M (Bool × T_)) (t_:T_) (k02:Int) (k12:Int) (k220:List Yr) (k221:List Old10) (k222:Int) (k223:Int) (k224:List (Int × Span)) (hf_yield_:YieldC Tryz.prog R arISpan Y_ v_yield_ yield_) (hY_:Y_ t_ Ls_) (h_b_k0:Has R (cBlk b_k0 [I k02] 3)) (h_b_k1:Has R (cBlk b_k1 [I k12] 3)) (hC_k220:Reads R C_k220) (hs_k220:Sl C_k220 v_k220 k220) (hC_k221:Reads R C_k221) (hs_k221:Sl C_k221 v_k221 k221) (h_b_k224:Has R (cMl I encSp b_k224 k224)) (h_b_k22:Has R (cBlk b_k22 [v_k220,v_k221,I k222,I k223,.map (some b_k224)] 132)) (h_b_k2:Has R (cBlk b_k2 [Pq b_k22] 93)) {r:T_} (hM:(zaj yield_ t_ k02 k12 k220 k221 k222 k223 k224).Ends r) (w:World) (H:St w w [cAll Ls_] R):Ret Tryz.prog 81 #[v_yield_,Pq b_k0,Pq b_k1,Pq b_k2] w fun v w'=>∃ (y0:T_) (Ls0:List Chunk),y0=r/\v = .tuple #[]/\St w w' [cAll Ls0] R/\Y_ y0 Ls0:=by
 refine ret_of_W Tryz.func81 rfl rfl rfl ?_
 refine kg 6 ?_
 obtain ⟨ex1z,hi2z,hk3z⟩:=M.e_bind hM
 obtain ⟨m0_,hi2z⟩:=M.e_iter hi2z
 refine W.loop (fun m σ W=>∃ (year:Int) (t2:T_) (Ls_t2:List Chunk) (ρ:Env),σ=upds ρ [(0,v_yield_),(2,Pq b_k1),(3,Pq b_k2),(5,I year)]/\M.iterN (zcf yield_ k12 k224) m (year,t2)=some ex1z/\St w W [cAll Ls_t2] R/\Y_ t2 Ls_t2) ?_ ?_
 ·exact ⟨_,k02,t_,Ls_,_,upds_of _ _ ⟨rfl,rfl,rfl,rfl,trivial⟩,hi2z,H,hY_⟩
 rintro m6z σ w4z ⟨year,t2,Ls_t2,ρ,rfl,hI5z,H,hY_t2⟩
 obtain ⟨m7z,lt8z,x9z,hM,hN10z⟩:=M.e_iterN hI5z
 simp only [zcf] at hM
 clear hI5z
 refine kg 7 ?_
 refine W.cond (decide (year<=k12)) rfl (fun c11z=>?_) (fun c11z=>?_)
 ·replace hM:=M.e_t hM c11z
  simp only [qy1,qy2,qy3,qy4,qy5,qy6,ne_eq,qy7] at c11z
  refine kg 12 ?_
  refine s_val (q_look (kenc:=I) (venc:=encSp) (f:=lookM k224) (k:=(year:Int)) (v:=.agg #[I (((lookM k224 (year:Int)).getD default).lo),I (((lookM k224 (year:Int)).getD default).hi)]) keyIntSp Tryz.underlying130 Al34 rfl rfl (mlMap (h_b_k224.at H)) false (by rw [if_neg (by decide),span_val])) ?_
  obtain ⟨⟨go,t⟩,hx12z,hM⟩:=M.e_bind hM
  try dsimp only at hM
  refine t_yield (L:=[]) H hf_yield_ hY_t2 rfl [I year,.agg #[I (((lookM k224 (year:Int)).getD default).lo),I (((lookM k224 (year:Int)).getD default).hi)]] rfl (year,((lookM k224 (year:Int)).getD default)) Reads.none rfl hx12z ?_
  intro Ls13z w15z hY14z H
  replace H:=H.nf
  refine kg 2 ?_
  refine W.cond (!go) rfl (fun c16z=>?_) (fun c16z=>?_)
  ·replace hM:=M.e_t hM c16z
   refine W.ret ?_
   have hX17z:=M.e_inr hM hN10z
   subst hX17z
   replace hM:=hk3z
   try dsimp only at hM
   have hr_:=M.e_pure hM
   exact ⟨_,resE_tmp0 rfl,⟨t,Ls13z,hr_,rfl,H,hY14z⟩⟩
  replace hM:=M.e_f hM c16z
  obtain ⟨sd18z,hM⟩:=M.e_grd hM
  simp only [Bool.and_eq_true,decide_eq_true_eq] at sd18z
  refine kg 6 ?_
  exact ⟨m7z,lt8z,year+1,t,Ls13z,_,upds_of _ _ ⟨rfl,rfl,rfl,rfl,trivial⟩,M.e_inl hM hN10z,H,hY14z⟩
 replace hM:=M.e_f hM c11z
 simp only [qy1,qy2,qy3,qy4,qy5,qy6,ne_eq,qy7] at c11z
 refine W.exit ?_
 have hX19z:=M.e_inr hM hN10z
 subst hX19z
 replace hM:=hk3z
 try dsimp only at hM
 have hr_:=M.e_pure hM
 exact ⟨_,resE_tmp0 rfl,⟨t2,Ls_t2,hr_,rfl,H,hY_t2⟩⟩
def zaD:Unit->(Int × Span)->M (Unit ⊕ Int):=fun (_:Unit) (x,x2) =>
  bif decide (x2.hi<x2.lo) then (
  M.pure (.inr x))
  else (
  M.pure (.inl ()))
def zaL (w__Book_Years:List Yr) (w__Book_Olds:List Old10) (w__Book_First:Int) (w__Book_Last:Int) (w__known:List (Int × Span)):M (Int × Bool) :=
  M.bind (zaf w__Book_Years w__Book_Olds w__Book_First w__Book_Last w__known w__Book_First w__Book_Last) fun (r00,r10) =>
  M.bind (zaj (M.yl zaD) (.inl ()) r00 r10 w__Book_Years w__Book_Olds w__Book_First w__Book_Last w__known) fun x_=>match x_ with
  | .inl _=>(
  M.pure (0,false))
  | .inr s=>(
  M.pure (s,true))
theorem zc9 {R:List Chunk} {b_w_:Nat} {C_w__Book_Years:Cells} {v_w__Book_Years:Value} {C_w__Book_Olds:Cells} {v_w__Book_Olds:Value} {b_w__known:Nat} (w__Book_Years:List Yr) (w__Book_Olds:List Old10) (w__Book_First:Int) (w__Book_Last:Int) (w__known:List (Int × Span)) (hC_w__Book_Years:Reads R C_w__Book_Years) (hs_w__Book_Years:Sl C_w__Book_Years v_w__Book_Years w__Book_Years) (hC_w__Book_Olds:Reads R C_w__Book_Olds) (hs_w__Book_Olds:Sl C_w__Book_Olds v_w__Book_Olds w__Book_Olds) (h_b_w__known:Has R (cMl I encSp b_w__known w__known)) (h_b_w_:Has R (cBlk b_w_ [v_w__Book_Years,v_w__Book_Olds,I w__Book_First,I w__Book_Last,.map (some b_w__known)] 132)) {r:(Int × Bool)} (hM:(zaL w__Book_Years w__Book_Olds w__Book_First w__Book_Last w__known).Ends r) (w:World) (H:St w w [] R):Ret Tryz.prog 75 #[Pq b_w_] w fun v w'=>∃ (y0:Int) (y1:Bool),(y0,y1)=r/\v = .tuple #[I y0,B y1]/\St w w' [] R:=by
 refine ret_of_WD Tryz.func75 rfl rfl rfl ?_
 replace H:St w w [cMk ([])] R:=H.mk0
 have hl_w__Book_Years:=hs_w__Book_Years.len_le
 have hl_w__Book_Olds:=hs_w__Book_Olds.len_le
 unfold zaL at hM
 refine WD.seq ?_
 refine WD.of ?_
 refine kg 4 ?_
 refine WD.scope ?_
 refine WD.seq ?_
 refine WD.of ?_
 refine W.region rfl ?_
 refine t_alloc (cs:=[I 0]) H Al3 rfl ?_
 intro b_1 w1z H
 refine t_alloc (cs:=[B false]) H Al4 rfl ?_
 intro b_2 w2z H
 refine t_sw 1 0 [I 0] (I 0) H rfl rfl Sz3 rfl rfl rfl rfl ?_
 intro w3z H
 refine t_sw 0 0 [B false] (B false) H rfl rfl Sz4 rfl rfl rfl rfl ?_
 intro w4z H
 refine s_nil ?_
 refine WD.seq ?_
 refine WD.of ?_
 refine W.label ?_
 refine WD.seq ?_
 refine WD.seq ?_
 refine WD.of ?_
 refine W.draw (fun W=>St w W [cBlk b_2 [B false] 4,cBlk b_1 [I 0] 3,cMk ([])] R) [(0,true),(1,true),(2,true),(3,true),(4,true),(5,true),(6,true),(7,true),(8,true),(9,true),(10,true),(11,false)] mixed (by decide +kernel) rfl ?_
 intro w5z hx_
 replace H:=H.ext hx_
 clear hx_
 refine ⟨(H.pk [0,1,2]),?_⟩
 refine kg 11 ?_
 refine d_l rfl ?_
 obtain ⟨r7z,hx6z,hM⟩:=M.e_bind hM
 refine s_call cf50 [Pq b_w_,I w__Book_First,I w__Book_Last] rfl (zaz w__Book_Years w__Book_Olds w__Book_First w__Book_Last w__known w__Book_First w__Book_Last (hC_w__Book_Years.app _) hs_w__Book_Years (hC_w__Book_Olds.app _) hs_w__Book_Olds (h_b_w__known.app _) (h_b_w_.app _) hx6z _ (H.gt 3)) ?_
 rintro vq w8z ⟨r00,r10,nb0_3,nb1_4,nb2_5,hr9z,hvq,H2_⟩
 subst hr9z
 subst vq
 try dsimp only at hM
 replace H:=H.bk H2_
 clear H2_
 refine s_nil ⟨(H.pk [3,4,5]),?_⟩
 refine d_nil ?_
 refine WD.block ?_
 obtain ⟨t10z,hx11z,hM⟩:=M.e_bind hM
 refine WD.range (L:=[cBlk b_2 [B false] 4,cBlk b_1 [I 0] 3,cBlk nb0_3 [I r00] 3,cBlk nb1_4 [I r10] 3,cBlk nb2_5 [Pq b_w_] 93]) [Pq nb0_3,Pq nb1_4,Pq nb2_5] (H.pk [5,3,4,0,1,2]) rfl cf81 ?_
 intro l12z D13z r14z w15z hr16z H
 have hYC:YieldC Tryz.prog ([cMk (D13z :: ([])),cBlk nb0_3 [I r00] 3,cBlk nb1_4 [I r10] 3,cBlk nb2_5 [Pq b_w_] 93]++R) arISpan (yJ l12z r14z (fun _ Ls_=>Ls_=[cBlk b_2 [B false] 4,cBlk b_1 [I 0] 3]) (fun s Ls_=>Ls_=[cBlk b_2 [B true] 4,cBlk b_1 [I s] 3]) (fun _=>.exit 0)) (.func (.yield l12z) #[] #[]) (M.yl zaD):=by
  refine YieldC.mk2 hr16z (fun _ Ls_=>Ls_=[cBlk b_2 [B false] 4,cBlk b_1 [I 0] 3]) (fun s Ls_=>Ls_=[cBlk b_2 [B true] 4,cBlk b_1 [I s] 3]) (fun _=>.exit 0) zaD (by rintro _ _ h_; obtain ⟨rfl⟩:=h_; rfl) (by rintro s _ h_; (obtain ⟨rfl⟩:=h_; rfl)) rfl (arISpan_len rfl) ?_
  intro C_ vs_ x_ hA_
  obtain ⟨x,x2⟩:=x_
  obtain rfl:=hA_
  intro w R hR_ Ls_ s_ r hY_ hM H
  skip
  obtain ⟨rfl⟩:=hY_
  replace H:=H.nf
  refine kg 5 ?_
  refine t_alloc (cs:=[I 0,I 0]) H Al34 rfl ?_
  intro b_6 w17z H
  refine t_sw 0 0 [I x2.lo,I x2.hi] (.agg #[I x2.lo,I x2.hi]) H rfl rfl Sz34 rfl rfl rfl rfl ?_
  intro w18z H
  refine s_nil ?_
  refine ⟨rfl,[cBlk b_6 [I x2.lo,I x2.hi] 34],H.pick [0,1,2,3,4,5,6] (by decide) rfl,?_⟩
  clear H hR_
  intro w R hR_ H
  replace hC_w__Book_Years:=hC_w__Book_Years.sub hR_
  replace hC_w__Book_Olds:=hC_w__Book_Olds.sub hR_
  replace h_b_w__known:=h_b_w__known.sub hR_
  replace h_b_w_:=h_b_w_.sub hR_
  replace hM:(zaD () (x,x2)).Ends r:=hM
  simp only [zaD] at hM
  replace H:=H.nf
  refine kg 9 ?_
  refine W.cond (decide (x2.hi<x2.lo)) rfl (fun c19z=>?_) (fun c19z=>?_)
  ·replace hM:=M.e_t hM c19z
   simp only [qy1,qy2,qy3,qy4,qy5,qy6,ne_eq,qy7] at c19z
   refine kg 3 ?_
   refine t_sw 2 0 [I x] (I x) H rfl rfl Sz3 rfl rfl rfl rfl ?_
   intro w20z H
   refine t_sw 1 0 [B true] (B true) H rfl rfl Sz4 rfl rfl rfl rfl ?_
   intro w21z H
   refine s_nil ?_
   refine W.exit ?_
   exact ⟨x,[cBlk b_2 [B true] 4,cBlk b_1 [I x] 3],(M.e_pure hM).symm,rfl,H.pick [1,2,3,4,5,6] (by decide) rfl,rfl⟩
  replace hM:=M.e_f hM c19z
  simp only [qy1,qy2,qy3,qy4,qy5,qy6,ne_eq,qy7] at c19z
  refine W.skip ?_
  exact ⟨(),[cBlk b_2 [B false] 4,cBlk b_1 [I 0] 3],(M.e_pure hM).symm,rfl,H.pick [1,2,3,4,5,6] (by decide) rfl⟩
 replace H:St w w15z (cAll (cObj l12z (.loop r14z) :: [cBlk b_2 [B false] 4,cBlk b_1 [I 0] 3]) :: [cMk (D13z :: ([])),cBlk nb0_3 [I r00] 3,cBlk nb1_4 [I r10] 3,cBlk nb2_5 [Pq b_w_] 93]) R:=St.bundleB (A:=cObj l12z (.loop r14z) :: [cBlk b_2 [B false] 4,cBlk b_1 [I 0] 3]) (T:=[cMk (D13z :: ([])),cBlk nb0_3 [I r00] 3,cBlk nb1_4 [I r10] 3,cBlk nb2_5 [Pq b_w_] 93]) rfl (H.pk [0,2,3,1,4,5,6])
 refine (zaE (M.yl zaD) (.inl ()) r00 r10 w__Book_Years w__Book_Olds w__Book_First w__Book_Last w__known hYC ⟨_,rfl,rfl⟩ (Has.here (k:=1) rfl) (Has.here (k:=2) rfl) (hC_w__Book_Years.app _) hs_w__Book_Years (hC_w__Book_Olds.app _) hs_w__Book_Olds (h_b_w__known.app _) (h_b_w_.app _) (Has.here (k:=3) rfl) hx11z _ (H.gt 4)).mono ?_
 rintro vq w22z ⟨t26z,Ls24z,hq27z,hvq,H2_,hY25z⟩
 subst hq27z
 replace H:=H.back H2_ rfl
 clear H2_ hYC
 rcases t26z with _ | s
 ·try dsimp only at hM
  obtain ⟨_,rfl,rfl⟩:=hY25z
  refine ⟨_,[cBlk b_2 [B false] 4,cBlk b_1 [I 0] 3,cBlk nb0_3 [I r00] 3,cBlk nb1_4 [I r10] 3,cBlk nb2_5 [Pq b_w_] 93],H.unbundle.pick [0,3,1,2,4,5,6] (by decide) rfl,hr16z.nb,?_⟩
  intro w23z H
  rw [hr16z.pd]
  replace H:=H.nf
  try simp only []
  refine WD.seq ?_
  refine WD.of ?_
  refine W.draw (fun W=>St w W [cMk (D13z :: ([])),cBlk b_2 [B false] 4,cBlk b_1 [I 0] 3,cBlk nb0_3 [I r00] 3,cBlk nb1_4 [I r10] 3,cBlk nb2_5 [Pq b_w_] 93] R) [(0,true),(1,true),(2,true),(3,true)] mixed (by decide +kernel) rfl ?_
  intro w28z hx_
  replace H:=H.ext hx_
  clear hx_
  refine ⟨(H.pk [0,1,2,3,4,5]),?_⟩
  refine kg 5 ?_
  refine WD.of ?_
  refine W.ret ?_
  refine bodyD_r (H.pk [0,1,2,3,4,5]) ?_
  intro w29z H
  replace H:=H.nf
  have hr_:=M.e_pure hM
  exact ⟨_,resE_tmp2 rfl,⟨0,false,hr_,rfl,(H.pk [])⟩⟩
 try dsimp only at hM
 obtain ⟨_,rfl,rfl⟩:=hY25z
 refine ⟨_,[cBlk b_2 [B true] 4,cBlk b_1 [I s] 3,cBlk nb0_3 [I r00] 3,cBlk nb1_4 [I r10] 3,cBlk nb2_5 [Pq b_w_] 93],H.unbundle.pick [0,3,1,2,4,5,6] (by decide) rfl,nofun,?_⟩
 intro w23z H
 show WD _ _ _ (.exit 0) _ _ _
 refine WD.of ?_
 refine W.exit ?_
 replace H:=H.nf
 refine WD.seq ?_
 refine WD.of ?_
 refine W.draw (fun W=>St w W [cMk (D13z :: ([])),cBlk b_2 [B true] 4,cBlk b_1 [I s] 3,cBlk nb0_3 [I r00] 3,cBlk nb1_4 [I r10] 3,cBlk nb2_5 [Pq b_w_] 93] R) [(0,true),(1,true),(2,true),(3,true)] mixed (by decide +kernel) rfl ?_
 intro w30z hx_
 replace H:=H.ext hx_
 clear hx_
 refine ⟨(H.pk [0,1,2,3,4,5]),?_⟩
 refine kg 5 ?_
 refine WD.of ?_
 refine W.ret ?_
 refine bodyD_r (H.pk [0,1,2,3,4,5]) ?_
 intro w31z H
 replace H:=H.nf
 have hr_:=M.e_pure hM
 exact ⟨_,resE_tmp2 rfl,⟨s,true,hr_,rfl,(H.pk [])⟩⟩

def zaR (b_Years:List Yr) (b_Olds:List Old10) (b_First:Int) (b_Last:Int) (from_:Int) (to_:Int) (n:Int) (first:Int) (last:Int):M (Int ⊕ (Int × Int × (List (Int × Span)) × Int)) :=
  M.bind (zao b_Years b_Olds b_First b_Last) fun x_=>match x_ with
  | (.inl r1)=>(
  bif r1 != 0 then (
  M.pure (.inl r1))
  else (
  M.fail))
  | (.inr (r02,r03,r04,r12))=>(
  bif r12 != 0 then (
  M.fail)
  else (
  M.bind (zab from_ b_First to_) fun r2 =>
  M.bind (M.opt (!(!r2)) (zab to_ b_First b_Last) false) fun r3 =>
  bif ((!r2)||(!r3)) then (
  M.pure (.inl 2))
  else (
  M.bind (zab n first last) fun r4 =>
  bif !r4 then (
  M.pure (.inl 4))
  else (
  M.bind (zaL b_Years b_Olds r02 r03 r04) fun (r0,r13) =>
  bif r13 then (
  M.pure (.inl 6))
  else (
  M.pure (.inr (r02,r03,r04,0)))))))
theorem zdd {R:List Chunk} {C_b_Years:Cells} {v_b_Years:Value} {C_b_Olds:Cells} {v_b_Olds:Value} (b_Years:List Yr) (b_Olds:List Old10) (b_First:Int) (b_Last:Int) (from_:Int) (to_:Int) (n:Int) (first:Int) (last:Int) (hC_b_Years:Reads R C_b_Years) (hs_b_Years:Sl C_b_Years v_b_Years b_Years) (hC_b_Olds:Reads R C_b_Olds) (hs_b_Olds:Sl C_b_Olds v_b_Olds b_Olds) {r:(Int ⊕ (Int × Int × (List (Int × Span)) × Int))} (hM:(zaR b_Years b_Olds b_First b_Last from_ to_ n first last).Ends r) (w:World) (H:St w w [] R):Ret Tryz.prog 48 #[.agg #[v_b_Years,v_b_Olds,I b_First,I b_Last],I from_,I to_,I n,I first,I last] w fun v w'=>(∃ (y0:Int),(.inl y0)=r/\v = .tuple #[.pointer none,I y0]/\St w w' [] R)∨(∃ (y0:Int) (y1:Int) (y2:List (Int × Span)) (y3:Int) (nb0:Nat) (nb1:Nat),(.inr (y0,y1,y2,y3))=r/\v = .tuple #[Pq nb0,I y3]/\St w w' [cBlk nb0 [v_b_Years,v_b_Olds,I y0,I y1,.map (some nb1)] 132,cMl I encSp nb1 y2] R):=by
 refine ret_of_W Tryz.func48 rfl rfl rfl ?_
 refine kg 2 ?_
 refine t_box (v:=.agg #[v_b_Years,v_b_Olds,I b_First,I b_Last]) (cs:=[v_b_Years,v_b_Olds,I b_First,I b_Last]) H rfl rfl ?_
 intro b_1 w1z H
 refine kg 6 ?_
 obtain ⟨r3z,hx2z,hM⟩:=M.e_bind hM
 refine s_call cf72 [.agg #[v_b_Years,v_b_Olds,I b_First,I b_Last]] rfl (zcN b_Years b_Olds b_First b_Last (hC_b_Years.app _) hs_b_Years (hC_b_Olds.app _) hs_b_Olds hx2z _ (H.gt 1)) ?_
 rintro vq w4z (⟨r1,hr5z,hvq,H2_⟩ | ⟨r02,r03,r04,r12,nb0_2,nb1_3,hr6z,hvq,H2_⟩)
 ·subst hr5z
  subst vq
  try dsimp only at hM
  replace H:=H.bk H2_
  clear H2_
  refine kg 14 ?_
  refine W.cond (r1 != 0) rfl (fun c7z=>?_) (fun c7z=>?_)
  ·replace hM:=M.e_t hM c7z
   simp only [qy1,qy2,qy3,qy4,qy5,qy6,ne_eq,qy7] at c7z
   refine kg 6 ?_
   refine W.ret ?_
   have hr_:=M.e_pure hM
   exact ⟨_,resE_tmp2 rfl,.inl (⟨r1,hr_,rfl,(H.pk [])⟩)⟩
  replace hM:=M.e_f hM c7z
  exact (M.e_fail hM).elim
 subst hr6z
 subst vq
 try dsimp only at hM
 replace H:=H.bk H2_
 clear H2_
 refine kg 14 ?_
 refine W.cond (r12 != 0) rfl (fun c8z=>?_) (fun c8z=>?_)
 ·replace hM:=M.e_t hM c8z
  exact (M.e_fail hM).elim
 replace hM:=M.e_f hM c8z
 simp only [qy1,qy2,qy3,qy4,qy5,qy6,ne_eq,qy7] at c8z
 refine kg 6 ?_
 obtain ⟨r10z,hx9z,hM⟩:=M.e_bind hM
 refine s_call cf45 [I from_,I b_First,I to_] rfl (zad from_ b_First to_ hx9z _ (H.gt 3)) ?_
 rintro vq w11z ⟨r2,hr12z,hvq,H2_⟩
 subst hr12z
 subst vq
 try dsimp only at hM
 replace H:=H.bk H2_
 clear H2_
 refine kg 7 ?_
 obtain ⟨r3,hx13z,hM⟩:=M.e_bind hM
 refine t_gcall (!(!r2)) (gy_f rfl) cf45 (B r3) (fun _=>[I to_,I b_First,I b_Last]) (fun hg=>lst3 (gd_of (c:=!(!r2)) hg (I to_)) (gd_of (c:=!(!r2)) hg (I b_First)) (gd_of (c:=!(!r2)) hg (I b_Last))) H (fun hg=>(zad to_ b_First b_Last (M.e_opt hx13z hg) _ (H.give (A:=[]) rfl)).mono fun v_ w_ ⟨y_,hr_,hv_,H_⟩=>by subst hr_; exact ⟨hv_,H.via H_⟩) ?_
 intro w14z H
 refine kg 4 ?_
 refine W.cond ((!r2)||(!r3)) rfl (fun c15z=>?_) (fun c15z=>?_)
 ·replace hM:=M.e_t hM c15z
  refine kg 5 ?_
  refine W.ret ?_
  have hr_:=M.e_pure hM
  exact ⟨_,resE_tmp2 rfl,.inl (⟨2,hr_,rfl,(H.pk [])⟩)⟩
 replace hM:=M.e_f hM c15z
 refine kg 5 ?_
 obtain ⟨r17z,hx16z,hM⟩:=M.e_bind hM
 refine s_call cf45 [I n,I first,I last] rfl (zad n first last hx16z _ (H.gt 3)) ?_
 rintro vq w18z ⟨r4,hr19z,hvq,H2_⟩
 subst hr19z
 subst vq
 try dsimp only at hM
 replace H:=H.bk H2_
 clear H2_
 refine kg 3 ?_
 refine W.cond (!r4) rfl (fun c20z=>?_) (fun c20z=>?_)
 ·replace hM:=M.e_t hM c20z
  refine kg 5 ?_
  refine W.ret ?_
  have hr_:=M.e_pure hM
  exact ⟨_,resE_tmp2 rfl,.inl (⟨4,hr_,rfl,(H.pk [])⟩)⟩
 replace hM:=M.e_f hM c20z
 refine kg 5 ?_
 obtain ⟨r22z,hx21z,hM⟩:=M.e_bind hM
 refine s_call cf75 [Pq nb0_2] rfl (zc9 b_Years b_Olds r02 r03 r04 (hC_b_Years.app _) hs_b_Years (hC_b_Olds.app _) hs_b_Olds (Has.here (k:=1) rfl) (Has.here (k:=0) rfl) hx21z _ (H.gt 3)) ?_
 rintro vq w23z ⟨r0,r13,hr24z,hvq,H2_⟩
 subst hr24z
 subst vq
 try dsimp only at hM
 replace H:=H.bk H2_
 clear H2_
 refine kg 10 ?_
 refine W.cond r13 rfl (fun c25z=>?_) (fun c25z=>?_)
 ·replace hM:=M.e_t hM c25z
  refine kg 5 ?_
  refine W.ret ?_
  have hr_:=M.e_pure hM
  exact ⟨_,resE_tmp2 rfl,.inl (⟨6,hr_,rfl,(H.pk [])⟩)⟩
 replace hM:=M.e_f hM c25z
 refine kg 7 ?_
 refine W.ret ?_
 have hr_:=M.e_pure hM
 exact ⟨_,resE_tmp2 rfl,.inr (⟨r02,r03,r04,0,nb0_2,nb1_3,hr_,rfl,(H.pk [0,1])⟩)⟩

def zcE:M Unit :=
  M.pure ()
theorem zdf {R:List Chunk}    {r:Unit} (hM:(zcE).Ends r) (w:World) (H:St w w [] R):Ret Tryz.prog 51 #[] w fun v w'=>()=r/\v = .agg #[.func (.func 82) #[] #[]]/\St w w' [] R:=by
 refine ret_of_W Tryz.func51 rfl rfl rfl ?_
 refine kg 2 ?_
 refine t_alloc (cs:=[.nilFunc]) H Al104 rfl ?_
 intro b_1 w1z H
 refine kg 3 ?_
 refine s_val (x_bld (ps:=[(0,.func (.func 82) #[] #[])]) (zs:=[.nilFunc]) (L':=[.func (.func 82) #[] #[]]) rfl Tryz.underlying104 Al104 rfl (Bd104 Tryz.underlying104) (.cons (cs:=[.func (.func 82) #[] #[]]) rfl rfl rfl rfl rfl<|.nil)) ?_
 refine t_sw 0 0 [.func (.func 82) #[] #[]] (.agg #[.func (.func 82) #[] #[]]) H rfl rfl Sz104 rfl rfl rfl rfl ?_
 intro w2z H
 refine s_nil ?_
 refine W.ret ?_
 have hb3z:=(H.bl 0)
 have hr_:=M.e_pure hM
 exact ⟨_,(resE_of1 (v:=.agg #[.func (.func 82) #[] #[]]) rfl (.cell (v:=.agg #[.func (.func 82) #[] #[]]) rfl (run_loadVar_ag (ds:=[.func (.func 82) #[] #[]]) Ag104 Sz104 hb3z rfl rfl)<|.nil)),⟨hr_,rfl,(H.pk [])⟩⟩

def zcQ (s:Span):M Int :=
  M.pure s.lo
theorem zbA {R:List Chunk}  (s:Span)  {r:Int} (hM:(zcQ s).Ends r) (w:World) (H:St w w [] R):Ret Tryz.prog 82 #[.agg #[I s.lo,I s.hi]] w fun v w'=>∃ (y0:Int),y0=r/\v=I y0/\St w w' [] R:=by
 refine ret_of_W Tryz.func82 rfl rfl rfl ?_
 refine kg 2 ?_
 refine t_box (v:=.agg #[I s.lo,I s.hi]) (cs:=[I s.lo,I s.hi]) H rfl rfl ?_
 intro b_1 w1z H
 refine kg 8 ?_
 refine W.ret ?_
 have hr_:=M.e_pure hM
 exact ⟨_,resE_tmp rfl,⟨s.lo,hr_,rfl,(H.pk [])⟩⟩

def zcS (x_stage:Int) (stage:Int):M Bool :=
  M.pure (decide (x_stage<=stage))
theorem zda {R:List Chunk}  (x_stage:Int) (stage:Int)  {r:Bool} (hM:(zcS x_stage stage).Ends r) (w:World) (H:St w w [] R):Ret Tryz.prog 49 #[.agg #[I x_stage],I stage] w fun v w'=>∃ (y0:Bool),y0=r/\v=B y0/\St w w' [] R:=by
 refine ret_of_W Tryz.func49 rfl rfl rfl ?_
 refine kg 2 ?_
 refine t_box (v:=.agg #[I x_stage]) (cs:=[I x_stage]) H rfl rfl ?_
 intro b_1 w1z H
 refine kg 10 ?_
 refine W.ret ?_
 have hr_:=M.e_pure hM
 exact ⟨_,resE_tmp rfl,⟨(decide (x_stage<=stage)),hr_,rfl,(H.pk [])⟩⟩

def zcb:M Unit :=
  M.pure ()
theorem zc7 {R:List Chunk}    {r:Unit} (hM:(zcb).Ends r) (w:World) (H:St w w [] R):Ret Tryz.prog 52 #[] w fun v w'=>()=r/\v = .agg #[.func (.func 83) #[] #[]]/\St w w' [] R:=by
 refine ret_of_W Tryz.func52 rfl rfl rfl ?_
 refine kg 2 ?_
 refine t_alloc (cs:=[.nilFunc]) H Al104 rfl ?_
 intro b_1 w1z H
 refine kg 3 ?_
 refine s_val (x_bld (ps:=[(0,.func (.func 83) #[] #[])]) (zs:=[.nilFunc]) (L':=[.func (.func 83) #[] #[]]) rfl Tryz.underlying104 Al104 rfl (Bd104 Tryz.underlying104) (.cons (cs:=[.func (.func 83) #[] #[]]) rfl rfl rfl rfl rfl<|.nil)) ?_
 refine t_sw 0 0 [.func (.func 83) #[] #[]] (.agg #[.func (.func 83) #[] #[]]) H rfl rfl Sz104 rfl rfl rfl rfl ?_
 intro w2z H
 refine s_nil ?_
 refine W.ret ?_
 have hb3z:=(H.bl 0)
 have hr_:=M.e_pure hM
 exact ⟨_,(resE_of1 (v:=.agg #[.func (.func 83) #[] #[]]) rfl (.cell (v:=.agg #[.func (.func 83) #[] #[]]) rfl (run_loadVar_ag (ds:=[.func (.func 83) #[] #[]]) Ag104 Sz104 hb3z rfl rfl)<|.nil)),⟨hr_,rfl,(H.pk [])⟩⟩

def zbO (s:Span):M Int :=
  M.pure s.hi
theorem zbk {R:List Chunk}  (s:Span)  {r:Int} (hM:(zbO s).Ends r) (w:World) (H:St w w [] R):Ret Tryz.prog 83 #[.agg #[I s.lo,I s.hi]] w fun v w'=>∃ (y0:Int),y0=r/\v=I y0/\St w w' [] R:=by
 refine ret_of_W Tryz.func83 rfl rfl rfl ?_
 refine kg 2 ?_
 refine t_box (v:=.agg #[I s.lo,I s.hi]) (cs:=[I s.lo,I s.hi]) H rfl rfl ?_
 intro b_1 w1z H
 refine kg 8 ?_
 refine W.ret ?_
 have hr_:=M.e_pure hM
 exact ⟨_,resE_tmp rfl,⟨s.hi,hr_,rfl,(H.pk [])⟩⟩

end Go.Proofs.YtejefipopolccaaGreat
end
