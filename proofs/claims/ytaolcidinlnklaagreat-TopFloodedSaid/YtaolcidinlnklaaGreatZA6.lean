/- Part 6 of the texts on which the proof rests. Conditions: none. -/
import Derived.KernelRfl
import Derived.Test.YtaolcidinlnklaaGreatZA5
set_option linter.unusedVariables false
set_option linter.unusedSimpArgs false
set_option linter.unusedSectionVars false
-- libL/PN.lean
namespace Go.Nm
namespace M
variable {α β σ ρ:Type}
def Out (m:M α) (Q:α->Prop):Prop:=∃ r,m.Ends r/\Q r
theorem o_of {m:M α} {a:α} {Q:α->Prop} (h:m.Ends a) (q:Q a):m.Out Q:=⟨a,h,q⟩
theorem o_pure {a:α} {Q:α->Prop} (h:Q a):(pure a).Out Q:=⟨a,i_pure,h⟩
theorem o_mono {m:M α} {P Q:α->Prop} (h:m.Out P) (k:∀ a,P a->Q a):m.Out Q:=by
  obtain ⟨a,h1,h2⟩:=h;exact ⟨a,h1,k a h2⟩
theorem o_bind {m:M α} {k:α->M β} {P:α->Prop} {Q:β->Prop} (h:m.Out P) (h':∀ a,P a->(k a).Out Q):(bind m k).Out Q:=by
  obtain ⟨a,h1,h2⟩:=h;obtain ⟨b,h3,h4⟩:=h' a h2;exact ⟨b,i_bind h1 h3,h4⟩
theorem o_bindE {m:M α} {k:α->M β} {a:α} {Q:β->Prop} (h:m.Ends a) (h':(k a).Out Q):(bind m k).Out Q:=o_bind (o_of (Q:=fun x=>x=a) h rfl) (fun _ e=>by subst e; exact h')
theorem o_grd {b:Bool} {k:M α} {Q:α->Prop} (hb:b=true) (h:k.Out Q):(grd b k).Out Q:=by subst hb; exact h
theorem o_grdD {p:Prop} [Decidable p] {k:M α} {Q:α->Prop} (hp:p) (h:k.Out Q):(grd (decide p) k).Out Q:=o_grd (decide_eq_true hp) h
theorem o_if {b:Bool} {x y:M α} {Q:α->Prop} (h:b=true->x.Out Q) (h':b=false->y.Out Q):(bif b then x else y).Out Q:=by
  cases b with
  | true=>exact h rfl
  | false=>exact h' rfl
theorem o_t {b:Bool} {x y:M α} {Q:α->Prop} (hb:b=true) (h:x.Out Q):(bif b then x else y).Out Q:=by subst hb; exact h
theorem o_f {b:Bool} {x y:M α} {Q:α->Prop} (hb:b=false) (h:y.Out Q):(bif b then x else y).Out Q:=by subst hb; exact h
/-- What a round leaves. -/
def Rd (J:Nat->σ->Prop) (Q:ρ->Prop) (m:Nat):σ ⊕ ρ->Prop
  | .inl s=>∃ m',m'<m/\J m' s
  | .inr r=>Q r
theorem o_iter {body:σ->M (σ ⊕ ρ)} {Q:ρ->Prop} (J:Nat->σ->Prop) (round:∀ m s,J m s->(body s).Out (Rd J Q m)):∀ (m:Nat) (s:σ),J m s->(iter body s).Out Q:=by
  intro m;induction m using Nat.strongRecOn with
  | _ m ih =>
    intro s hs;obtain ⟨x,h1,h2⟩:=round m s hs;cases x with
    | inl s' =>
      obtain ⟨m',hlt,hj⟩:=h2;obtain ⟨r,h3,h4⟩:=ih m' hlt s' hj;exact ⟨r,i_next h1 h3,h4⟩
    | inr r=>exact ⟨r,i_stop h1,h2⟩
/-- A loop that counts from 0 to n. -/
theorem o_for {body:σ->M (σ ⊕ ρ)} {Q:ρ->Prop} (n:Nat) (J:Nat->σ->Prop) (round:∀ i s,i<n->J i s->(body s).Out (fun x=>match x with | .inl s'=>J (i+1) s' | .inr r=>Q r))
    (last:∀ s,J n s->(body s).Out (fun x=>match x with | .inl _=>False | .inr r=>Q r)) {s:σ} (h:J 0 s):(iter body s).Out Q:=by
  refine o_iter (fun m s=>∃ i,i<=n/\m=n-i/\J i s) ?_ n s ⟨0,Nat.zero_le _,rfl,h⟩;rintro m s ⟨i,hi,rfl,hj⟩;by_cases e:i<n
  · refine o_mono (round i s e hj) ?_;intro x hx;cases x with
    | inl s'=>exact ⟨n-(i+1),by omega,i+1,e,rfl,hx⟩
    | inr r=>exact hx
  · obtain rfl:i=n:=by omega
    refine o_mono (last s hj) ?_;intro x hx;cases x with
    | inl s'=>exact hx.elim
    | inr r=>exact hx
end M
theorem M.i_f {α:Type} {b:Bool} {x y:M α} {r:α} (hb:b=false) (h:y.Ends r):(bif b then x else y).Ends r:=by subst hb; exact h
theorem M.i_for {σ ρ:Type} {body:σ->M (σ ⊕ ρ)} {r:ρ} (st:Nat->σ) (n:Nat) (step:∀ i,i<n->(body (st i)).Ends (.inl (st (i+1)))) (fin:(body (st n)).Ends (.inr r)):(M.iter body (st 0)).Ends r:=by
  refine M.i_loop (r:=r) (fun m s=>∃ i,i<=n/\m=n-i/\s=st i) ?_ n (st 0) ⟨0,Nat.zero_le _,rfl,rfl⟩;rintro m s ⟨i,hi,rfl,rfl⟩;by_cases h:i<n
  · exact .inl ⟨_,n-(i+1),by omega,step i h,i+1,h,rfl,rfl⟩
  · obtain rfl:i=n:=by omega
    exact .inr fin
theorem M.grdD {α:Type} {p:Prop} [Decidable p] {k:M α} {r:α} (hp:p) (h:k.Ends r):(M.grd (decide p) k).Ends r:=M.i_grd (decide_eq_true hp) h
theorem M.i_t {α:Type} {b:Bool} {x y:M α} {r:α} (hb:b=true) (h:x.Ends r):(bif b then x else y).Ends r:=by subst hb; exact h
theorem take_succ_D {α:Type} (l:List α) (i:Nat) (h:i<l.length) (d:α):l.take i++[l.getD i d]=l.take (i+1):=by
  rw [List.take_succ_eq_append_getElem h];simp [List.getD,h]
theorem gset {α:Type} (l:List α) (i j:Nat) (x d:α) (h:i<l.length):(l.set i x).getD j d=if j=i then x else l.getD j d:=by
  simp only [List.getD_eq_getElem?_getD,List.getElem?_set];by_cases e:i=j
  · subst e; simp [h]
  · rw [if_neg e,if_neg (fun h=>e h.symm)]
theorem getD_el {α:Type} (l:List α) {k:Nat} (h:k<l.length) (d:α):l.getD k d=l[k]:=by rw [List.getD_eq_getElem?_getD,List.getElem?_eq_getElem h,Option.getD_some]
theorem gOr {c:Bool} {p:Prop} [Decidable p] (hp:p):(!c||decide p)=true:=by rw [decide_eq_true hp,Bool.or_true]
theorem gOr2 {c:Bool} {p q:Prop} [Decidable p] [Decidable q] (hp:p) (hq:q):(!c||(decide p&&decide q))=true:=by rw [decide_eq_true hp,decide_eq_true hq]; cases c <;> rfl
theorem gA2 {p q:Prop} [Decidable p] [Decidable q] (hp:p) (hq:q):(decide p&&decide q)=true:=by rw [decide_eq_true hp,decide_eq_true hq]; rfl
theorem gA3 {p q r:Prop} [Decidable p] [Decidable q] [Decidable r] (hp:p) (hq:q) (hr:r):(decide p&&decide q&&decide r)=true:=by rw [decide_eq_true hp,decide_eq_true hq,decide_eq_true hr]; rfl
theorem nodup_bound:∀ (n:Nat) (l:List Int),l.Nodup->(∀ x∈l,0<=x/\x<n)->l.length<=n
  | 0,l,_,hb=>by
    cases l with
    | nil=>exact Nat.le_refl _
    | cons x l=>have:=hb x (by simp); omega
  | n + 1, l, hn, hb => by
    by_cases hm:(n:Int)∈l
    · have h1:(l.erase (n:Int)).length=l.length-1:=List.length_erase_of_mem hm;have h2:=nodup_bound n (l.erase (n:Int)) (hn.erase _) (fun x hx=>by
        have hx':=(List.Nodup.mem_erase_iff hn).1 hx;have:=hb x hx'.2;have:=hx'.1;omega)
      have:=List.length_pos_of_mem hm;omega
    · have:=nodup_bound n l hn (fun x hx=>by
        have:=hb x hx;have:x ≠ n:=fun e=>hm (e ▸ hx);omega)
      omega
theorem mem_getD {α:Type} {l:List α} {x:α} (h:x∈l) (d:α):∃ i,i<l.length/\l.getD i d=x:=by
  obtain ⟨i,hi,e⟩:=List.getElem_of_mem h;exact ⟨i,hi,by rw [getD_el l hi d]; exact e⟩
end Go.Nm
-- libO/OS.lean
namespace Go.Nm
structure SOk (c u x:Int):Prop where
  u0:0<=u
  u1:u<=c
  x0:0<=x
  x1:x<251
theorem SOk.mono {c d u x:Int} (h:SOk c u x) (hd:c<=d):SOk d u x:=⟨h.u0,Int.le_trans h.u1 hd,h.x0,h.x1⟩
/-- What a stream gives: a number below n. -/
structure Nx (c n:Int) (y:Int × Int × Int):Prop where
  ok:SOk c y.2.1 y.2.2
  lt:1<=n->0<=y.1/\y.1<n
  no:n<1->y.1=0
end Go.Nm
namespace Go.Proofs.YtaolcidinlnklaaGreat
open Go Go.Nm
theorem next_out {b:List UInt8} {c u x n:Int} (h:SOk c u x) (hc:c<=1000000000000) (hn:n<=1000000):(zab b u x n).Out (Nx (c+1) n):=by
  obtain ⟨u0,u1,x0,x1⟩:=h;unfold zab;refine M.o_if (fun hb=>?_) (fun hb=>?_)
  · simp only [Bool.or_eq_true,decide_eq_true_eq,beq_iff_eq] at hb;refine M.o_pure ⟨⟨u0,by dsimp only; omega,x0,x1⟩,fun h1=>⟨Int.le_refl _,?_⟩,fun _=>rfl⟩;dsimp only;omega
  · simp only [Bool.or_eq_false_iff,decide_eq_false_iff_not,beq_eq_false_iff_ne,ne_eq] at hb;have hl:(0:Int)<(b.length:Int):=by omega
    have m0:=Int.emod_nonneg u (show (b.length:Int) ≠ 0 by omega);have m1:=Int.emod_lt_of_pos u hl;have d0:=Int.ediv_nonneg u0 (show (0:Int)<=(b.length:Int) by omega);have d1:u / (b.length:Int)<=u:=Int.ediv_le_self _ u0;have y1:((b.getD (Int.toNat (u % (b.length:Int))) 0).toNat:Int)<256:=by
      have:=UInt8.toNat_lt (b.getD (Int.toNat (u % (b.length:Int))) 0);omega
    have y0:(0:Int)<=((b.getD (Int.toNat (u % (b.length:Int))) 0).toNat:Int):=Int.natCast_nonneg _;generalize ((b.getD (Int.toNat (u % (b.length:Int))) 0).toNat:Int)=y at *;generalize u % (b.length:Int)=m at *;generalize u / (b.length:Int)=d at *;have hn0:0<n:=by omega
    have fin:∀ z:Int,0<=z->0<=z % n/\z % n<n:=fun z hz=>⟨Int.emod_nonneg _ (by omega),Int.emod_lt_of_pos _ hn0⟩
    have pr:∀ z w:Int,0<=z->Nx (c+1) n (z % n,u+1,w % 251):=fun z w hz=>⟨⟨by dsimp only; omega,by dsimp only; omega,by dsimp only; omega,by dsimp only; omega⟩,fun _=>fin z hz,fun h=>by omega⟩
    refine M.o_grd (by simp only [Bool.and_eq_true,decide_eq_true_eq]; omega) (M.o_grd (by simp only [Bool.and_eq_true,decide_eq_true_eq]; omega) (M.o_grd (by simp only [Bool.and_eq_true,decide_eq_true_eq]; omega) ?_));refine M.o_if (fun h1=>?_) (fun h1=>?_)
    · refine M.o_grd (by simp only [Bool.and_eq_true,decide_eq_true_eq]; omega) (M.o_grd (by simp only [Bool.and_eq_true,decide_eq_true_eq]; omega) (M.o_grd (by simp only [Bool.and_eq_true,decide_eq_true_eq]; omega) (M.o_grd (by simp only [Bool.and_eq_true,decide_eq_true_eq]; omega) (M.o_grd (by simp only [Bool.and_eq_true,decide_eq_true_eq]; omega) ?_))));refine M.o_grd (by simp only [Bool.and_eq_true,decide_eq_true_eq]; omega) (M.o_grd (by simp only [Bool.and_eq_true,decide_eq_true_eq]; omega) (M.o_grd (by simp only [Bool.and_eq_true,decide_eq_true_eq]; omega) (M.o_grd (by simp only [Bool.and_eq_true,decide_eq_true_eq]; omega) ?_)));refine M.o_if (fun h2=>?_) (fun h2=>?_)
      · refine M.o_grd (by simp only [Bool.and_eq_true,decide_eq_true_eq]; omega) (M.o_grd (by simp only [Bool.and_eq_true,decide_eq_true_eq]; omega) (M.o_grd (by simp only [Bool.and_eq_true,decide_eq_true_eq]; omega) (M.o_pure (pr _ _ (by omega)))))
      · refine M.o_grd (by simp only [Bool.and_eq_true,decide_eq_true_eq]; omega) (M.o_pure (pr _ _ (by omega)))
    · refine M.o_grd (by simp only [Bool.and_eq_true,decide_eq_true_eq]; omega) (M.o_grd (by simp only [Bool.and_eq_true,decide_eq_true_eq]; omega) (M.o_grd (by simp only [Bool.and_eq_true,decide_eq_true_eq]; omega) (M.o_grd (by simp only [Bool.and_eq_true,decide_eq_true_eq]; omega) (M.o_grd (by simp only [Bool.and_eq_true,decide_eq_true_eq]; omega) ?_))));refine M.o_if (fun h2=>?_) (fun h2=>?_)
      · refine M.o_grd (by simp only [Bool.and_eq_true,decide_eq_true_eq]; omega) (M.o_grd (by simp only [Bool.and_eq_true,decide_eq_true_eq]; omega) (M.o_grd (by simp only [Bool.and_eq_true,decide_eq_true_eq]; omega) (M.o_pure (pr _ _ (by omega)))))
      · refine M.o_grd (by simp only [Bool.and_eq_true,decide_eq_true_eq]; omega) (M.o_pure (pr _ _ (by omega)))
theorem within_out {b:List UInt8} {c u x lo hi:Int} (h:SOk c u x) (hc:c<=1000000000000) (h0:-1000<=lo) (h1:lo<=hi) (h2:hi<=10000):(zag b u x lo hi).Out (fun y=>SOk (c+1) y.2.1 y.2.2/\lo<=y.1/\y.1<=hi):=by
  unfold zag;refine M.o_grd (gA2 (by omega) (by omega)) (M.o_grd (gA2 (by omega) (by omega)) (M.o_bind (next_out h hc (by omega)) ?_));rintro ⟨r,u',x'⟩ ⟨k,hl,_⟩;have:=hl (by omega);dsimp only at this k ⊢;exact M.o_grd (gA2 (by omega) (by omega)) (M.o_pure ⟨k,by dsimp only; omega,by dsimp only; omega⟩)
end Go.Proofs.YtaolcidinlnklaaGreat
-- libO/OR.lean
namespace Go.Nm
theorem SOk.zero:SOk 0 0 0:=⟨Int.le_refl _,Int.le_refl _,Int.le_refl _,by decide⟩
end Go.Nm
namespace Go.Proofs.YtaolcidinlnklaaGreat
open Go Go.Nm
theorem pick_num {v n:Int} (h:1<=n/\n<=1000000):(zaE v n).Out (fun r=>0<=r/\r<n):=by
  unfold zaE;have h1:Int.tmod v n<n:=Int.tmod_lt_of_pos v (by omega);have h2:-n<Int.tmod v n:=by
    have:=Int.tmod_lt_of_pos (-v) (show 0<n by omega);rw [Int.neg_tmod] at this;omega
  refine M.o_f (decide_eq_false (by omega)) (M.o_grdD (by omega) (M.o_if (fun hb=>?_) (fun hb=>?_)))
  · have:=of_decide_eq_true hb;exact M.o_grd (gA2 (by omega) (by omega)) (M.o_pure (by omega))
  · have:=of_decide_eq_false hb;exact M.o_pure (by omega)
end Go.Proofs.YtaolcidinlnklaaGreat
-- libL/DC.lean
namespace Go.Nm
/-- A leg leads from a mark to another one, and can rise so much. -/
def Ed (ls:List Line) (a b c:Int):Prop:=∃ l,l∈ls/\((l.src=a/\l.dst=b/\c=l.err+l.rise)∨(l.dst=a/\l.src=b/\c=l.err-l.rise))
/-- Heights agree with all lines. -/
def Feas (ls:List Line) (h:Int->Int):Prop:=∀ l,l∈ls->l.rise-l.err<=h l.dst-h l.src/\h l.dst-h l.src<=l.rise+l.err
inductive Wk (ls:List Line) (a:Int):List Int->Int->Prop
  | one:Wk ls a [a] 0
  | snoc {m b:Int} {vs:List Int} {c e:Int} (w:Wk ls a (m :: vs) c) (he:Ed ls m b e):Wk ls a (b :: m :: vs) (c+e)
variable {ls:List Line} {h:Int->Int} {a b c:Int}
theorem Feas.ed (hF:Feas ls h) (e:Ed ls a b c):h b-h a<=c:=by
  obtain ⟨l,hl,⟨rfl,rfl,rfl⟩ | ⟨rfl,rfl,rfl⟩⟩:=e
  · have:=hF l hl; omega
  · have:=hF l hl; omega
theorem feas_of (hE:∀ a b c,Ed ls a b c->h b-h a<=c):Feas ls h:=fun l hl=>by
  have h1:=hE l.src l.dst _ ⟨l,hl,.inl ⟨rfl,rfl,rfl⟩⟩;have h2:=hE l.dst l.src _ ⟨l,hl,.inr ⟨rfl,rfl,rfl⟩⟩;omega
theorem Ed.rev (e:Ed ls a b c):∃ c',Ed ls b a c':=by
  obtain ⟨l,hl,⟨rfl,rfl,rfl⟩ | ⟨rfl,rfl,rfl⟩⟩:=e
  · exact ⟨_,l,hl,.inr ⟨rfl,rfl,rfl⟩⟩
  · exact ⟨_,l,hl,.inl ⟨rfl,rfl,rfl⟩⟩
theorem Wk.feas (hF:Feas ls h) {vs:List Int} (w:Wk ls a vs c):∀ b,vs.head?=some b->h b-h a<=c:=by
  induction w with
  | one=>intro b hb; simp at hb; subst hb; omega
  | snoc _ he ih =>
    intro b hb;simp at hb;subst hb;have h1:=ih _ rfl;have h2:=hF.ed he;omega
theorem Wk.le (hF:Feas ls h) {vs:List Int} (w:Wk ls a (b :: vs) c):h b-h a<=c:=w.feas hF b rfl
theorem Wk.ne {c:Int} (w:Wk ls a [] c):False:=by cases w
theorem Wk.last {vs:List Int} (w:Wk ls a vs c):vs.getLast?=some a:=by
  induction w with
  | one=>rfl
  | snoc _ _ ih=>rw [List.getLast?_cons_cons]; exact ih
/-- The end of a walk, put behind another one. -/
theorem Wk.cut:∀ (xs:List Int) {v:Int} {ys:List Int} {c:Int},Wk ls a (xs++v :: ys) c->∃ c1,Wk ls a (v :: ys) c1/\∀ (a':Int) (zs:List Int) (c2:Int),Wk ls a' (v :: zs) c2->Wk ls a' (xs++v :: zs) (c2+(c-c1))
  | [],v,ys,c,w=>⟨c,w,fun a' zs c2 w2=>by rw [show c2+(c-c)=c2 by omega]; exact w2⟩
  | [x],v,ys,c,w=>by
    cases w with
    | snoc w he =>
      refine ⟨_,w,fun a' zs c2 w2=>?_⟩
      rename_i c0 e
      rw [show c2+(c0+e-c0)=c2+e by omega];exact .snoc w2 he
  | x :: y :: xs,v,ys,c,w=>by
    cases w with
    | snoc w he =>
      rename_i c0 e
      obtain ⟨c1,h1,h2⟩:=Wk.cut (y :: xs) w;refine ⟨c1,h1,fun a' zs c2 w2=>?_⟩;have:=h2 a' zs c2 w2;rw [show c2+(c0+e-c1)=c2+(c0-c1)+e by omega];exact .snoc this he
theorem Wk.app {m:Int} {vs ws:List Int} {c d:Int} (w:Wk ls a (m :: vs) c) (w':Wk ls m (b :: ws) d):∃ us,Wk ls a (b :: us) (c+d):=by
  generalize hl:b :: ws=l at w';induction w' generalizing b ws with
  | one=>cases hl; exact ⟨vs,by rw [Int.add_zero]; exact w⟩
  | snoc w2 he ih =>
    cases hl;obtain ⟨us,hu⟩:=ih rfl;exact ⟨_,by rw [← Int.add_assoc]; exact .snoc hu he⟩
theorem Wk.edge (e:Ed ls a b c):Wk ls a [b,a] c:=by
  have:=Wk.snoc (.one (ls:=ls) (a:=a)) e
  rwa [Int.zero_add] at this
/-- Who can go can go back. -/
theorem Wk.back {vs:List Int} (w:Wk ls a vs c):∀ b,vs.head?=some b->∃ us d,Wk ls b (a :: us) d:=by
  induction w with
  | one=>intro b hb; simp at hb; subst hb; exact ⟨[],0,.one⟩
  | snoc _ he ih =>
    intro b hb;simp at hb;subst hb;obtain ⟨c',hr⟩:=he.rev;obtain ⟨us,d,hw⟩:=ih _ rfl;obtain ⟨vs,hv⟩:=(Wk.edge hr).app hw;exact ⟨vs,_,hv⟩
theorem not_nodup:∀ (l:List Int),¬ l.Nodup->∃ xs v ys zs,l=xs++v :: (ys++v :: zs)
  | [],h=>absurd List.nodup_nil h
  | x :: l,h=>by
    by_cases hx:x∈l
    · obtain ⟨ys,zs,rfl⟩:=List.append_of_mem hx;exact ⟨[],x,ys,zs,rfl⟩
    · obtain ⟨xs,v,ys,zs,e⟩:=not_nodup l (fun hn=>h (List.nodup_cons.2 ⟨hx,hn⟩));exact ⟨x :: xs,v,ys,zs,by rw [e]; rfl⟩
/-- A walk without a mark twice can rise no more, if some heights agree. -/
theorem Wk.short (hF:Feas ls h):∀ (k:Nat) {vs:List Int} {b c:Int},vs.length<=k->Wk ls a (b :: vs) c->∃ vs' c',Wk ls a (b :: vs') c'/\c'<=c/\(b :: vs').Nodup
  | 0,vs,b,c,hk,w=>by
    have:vs=[]:=List.length_eq_zero_iff.1 (Nat.le_zero.1 hk);subst this;exact ⟨[],c,w,Int.le_refl _,by simp⟩
  | k + 1, vs, b, c, hk, w => by
    by_cases hn:(b :: vs).Nodup
    · exact ⟨vs,c,w,Int.le_refl _,hn⟩
    · obtain ⟨xs,v,ys,zs,e⟩:=not_nodup _ hn;rw [e] at w;obtain ⟨c1,w1,t1⟩:=Wk.cut xs w;obtain ⟨c2,w2,t2⟩:=Wk.cut (v :: ys) (v:=v) (ys:=zs) w1;have w3:=t2 v [] 0 .one;have h3:0<=c1-c2:=by have:=Wk.le hF w3; omega
      have w4:=t1 a zs c2 w2;have hlen:(xs++v :: zs).length<=k+1:=by
        have:=congrArg List.length e;simp at this hk ⊢;omega
      cases xs with
      | nil =>
        simp only [List.nil_append] at e w4 hlen;have hb:b=v:=(List.cons.inj e).1;subst hb;obtain ⟨vs',c',g1,g2,g3⟩:=Wk.short hF k (by simpa using hlen) w4;exact ⟨vs',c',g1,by omega,g3⟩
      | cons x xs =>
        simp only [List.cons_append] at e w4 hlen;have hb:b=x:=(List.cons.inj e).1;subst hb;obtain ⟨vs',c',g1,g2,g3⟩:=Wk.short hF k (by simpa using hlen) w4;exact ⟨vs',c',g1,by omega,g3⟩
/-- All lines lie between marks. -/
def Rng (n:Int) (ls:List Line):Prop:=∀ l,l∈ls->(0<=l.src/\l.src<n)/\(0<=l.dst/\l.dst<n)
theorem Ed.rng {n:Int} (hR:Rng n ls) (e:Ed ls a b c):(0<=a/\a<n)/\(0<=b/\b<n):=by
  obtain ⟨l,hl,⟨rfl,rfl,rfl⟩ | ⟨rfl,rfl,rfl⟩⟩:=e
  · exact hR l hl
  · exact ⟨(hR l hl).2,(hR l hl).1⟩
theorem Wk.rng {n:Int} (hR:Rng n ls) (ha:0<=a/\a<n) {vs:List Int} (w:Wk ls a vs c):∀ v,v∈vs->0<=v/\v<n:=by
  induction w with
  | one=>intro v hv; simp at hv; subst hv; exact ha
  | snoc _ he ih =>
    intro v hv;rcases List.mem_cons.1 hv with rfl | hv
    · exact (he.rng hR).2
    · exact ih v hv
/-- A shortest walk has fewer legs than there are marks. -/
theorem Wk.few {n:Nat} (hF:Feas ls h) (hR:Rng n ls) (ha:0<=a/\a<n) {vs:List Int} (w:Wk ls a (b :: vs) c):∃ vs' c',Wk ls a (b :: vs') c'/\c'<=c/\(b :: vs').Nodup/\vs'.length+1<=n:=by
  obtain ⟨vs',c',g1,g2,g3⟩:=Wk.short hF _ (Nat.le_refl _) w;exact ⟨vs',c',g1,g2,g3,nodup_bound n _ g3 (g1.rng hR ha)⟩
/-- What a walk can rise lies between bounds, as long as a leg's does. -/
theorem Wk.size (hB:∀ a b c,Ed ls a b c->-1010000<=c/\c<=1010000) {vs:List Int} (w:Wk ls a vs c):-(1010000*(vs.length:Int))+1010000<=c/\c<=1010000*(vs.length:Int)-1010000:=by
  induction w with
  | one=>simp
  | @snoc m b vs c e _ he ih =>
    have h1:=hB _ _ _ he;simp only [List.length_cons,Int.natCast_succ] at ih ⊢;omega
/-- The greatest difference. -/
structure IsDist (ls:List Line) (a b d:Int):Prop where
  has:∃ vs,Wk ls a (b :: vs) d
  le:∀ vs c,Wk ls a (b :: vs) c->d<=c
def Tied (ls:List Line) (a b:Int):Prop:=∃ vs c,Wk ls a (b :: vs) c
theorem IsDist.tied {d:Int} (h:IsDist ls a b d):Tied ls a b:=let ⟨vs,w⟩:=h.has; ⟨vs,d,w⟩
theorem Tied.refl (ls:List Line) (a:Int):Tied ls a a:=⟨[],0,.one⟩
theorem Tied.symm (t:Tied ls a b):Tied ls b a:=by
  obtain ⟨vs,c,w⟩:=t;obtain ⟨us,d,h⟩:=w.back b rfl;exact ⟨us,d,h⟩
theorem Tied.trans {m:Int} (t:Tied ls a m) (u:Tied ls m b):Tied ls a b:=by
  obtain ⟨vs,c,w⟩:=t;obtain ⟨us,d,w'⟩:=u;obtain ⟨xs,h⟩:=w.app w';exact ⟨xs,_,h⟩
theorem Tied.ed (e:Ed ls a b c):Tied ls a b:=⟨_,_,Wk.edge e⟩
theorem least_nat {p:Nat->Prop} (h:∃ n,p n):∃ n,p n/\∀ k,p k->n<=k:=by
  obtain ⟨n,hn⟩:=h;induction n using Nat.strongRecOn with
  | _ n ih =>
    by_cases hc:∃ k,k<n/\p k
    · obtain ⟨k,hk,hp⟩:=hc;exact ih k hk hp
    · exact ⟨n,hn,fun k hk=>by
        rcases Nat.lt_or_ge k n with hlt | hge
        · exact absurd ⟨k,hlt,hk⟩ hc
        · exact hge⟩
theorem IsDist.uniq {d d':Int} (h1:IsDist ls a b d) (h2:IsDist ls a b d'):d=d':=by
  obtain ⟨vs,w⟩:=h1.has;obtain ⟨us,w'⟩:=h2.has;have:=h1.le _ _ w';have:=h2.le _ _ w;omega
theorem IsDist.self (hF:Feas ls h):IsDist ls a a 0:=⟨⟨[],.one⟩,fun _ _ w=>by have:=w.le hF; omega⟩
theorem IsDist.step {m d e:Int} (h1:IsDist ls a m d) (he:Ed ls m b e) {d':Int} (h2:IsDist ls a b d'):d'<=d+e:=by
  obtain ⟨vs,w⟩:=h1.has;exact h2.le _ _ (.snoc w he)
theorem IsDist.feas {d:Int} (hF:Feas ls h) (h1:IsDist ls a b d):h b-h a<=d:=by
  obtain ⟨vs,w⟩:=h1.has;exact w.le hF
end Go.Nm
-- libL/DC2.lean
namespace Go.Nm
/-- A net as it may be. -/
structure NetOk (n:Int) (ls:List Line):Prop where
  marks:1<=n/\n<=12
  few:ls.length<=30
  rng:Rng n ls
  ne:∀ l,l∈ls->l.src ≠ l.dst
  day:∀ l,l∈ls->0<=l.day/\l.day<=40000
  rise:∀ l,l∈ls->-1000000<=l.rise/\l.rise<=1000000
  err:∀ l,l∈ls->0<=l.err/\l.err<=10000
variable {ls:List Line} {n a b c:Int} {h:Int->Int}
theorem NetOk.ed (hN:NetOk n ls):∀ a b c,Ed ls a b c->-1010000<=c/\c<=1010000:=by
  rintro a b c ⟨l,hl,⟨_,_,rfl⟩ | ⟨_,_,rfl⟩⟩
  · have:=hN.rise l hl; have:=hN.err l hl; omega
  · have:=hN.rise l hl; have:=hN.err l hl; omega
/-- What is known of a row at work. -/
structure BF (ls:List Line) (n a:Int) (D:Int->Int) (k:Int):Prop where
  top:∀ v,0<=v->v<n->D v<=1099511627776
  snd:∀ v,0<=v->v<n->D v<1099511627776->∃ vs,Wk ls a (v :: vs) (D v)
  low:∀ v,0<=v->v<n->-(1010000*k)<=D v
  own:D a<=0
  up:∀ v,0<=v->v<n->D v<1099511627776->D v<=1010000*k
theorem BF.init (ls:List Line) (n a:Int):BF ls n a (fun v=>if v=a then 0 else 1099511627776) 0 where
  top v _ _:=by first | (split <;> omega) | (dsimp only; split <;> omega)
  snd v _ _ hv:=by
    try dsimp only at hv ⊢
    split at hv
    · rename_i e; subst e; rw [if_pos rfl]; exact ⟨[],.one⟩
    · omega
  low v _ _:=by first | (split <;> omega) | (dsimp only; split <;> omega)
  own:=by rw [if_pos rfl]; exact Int.le_refl _
  up v _ _:=by first | (split <;> omega) | (dsimp only; split <;> omega)
theorem BF.congr {D D':Int->Int} {k:Int} (hB:BF ls n a D k) (ha:0<=a/\a<n) (hN:Rng n ls) (e:∀ v,0<=v->v<n->D' v=D v):BF ls n a D' k where
  top v h0 h1:=by rw [e v h0 h1]; exact hB.top v h0 h1
  snd v h0 h1:=by rw [e v h0 h1]; exact hB.snd v h0 h1
  low v h0 h1:=by rw [e v h0 h1]; exact hB.low v h0 h1
  own:=by rw [e a ha.1 ha.2]; exact hB.own
  up v h0 h1:=by rw [e v h0 h1]; exact hB.up v h0 h1
theorem BF.mono {D:Int->Int} {k k':Int} (hB:BF ls n a D k) (hk:k<=k'):BF ls n a D k':=⟨hB.top,hB.snd,fun v h0 h1=>by have:=hB.low v h0 h1; omega,hB.own,fun v h0 h1 h2=>by have:=hB.up v h0 h1 h2; omega⟩
theorem BF.relax {D:Int->Int} {k m g e:Int} (hB:BF ls n a D k) (hk:0<=k) (he:Ed ls m g e) (hb:-1010000<=e/\e<=1010000) (hm:0<=m/\m<n) (hg:0<=g/\g<n) (h1:D m<1099511627776) (h2:D m+e<D g):BF ls n a (fun v=>if v=g then D m+e else D v) (k+1) where
  top v h0 h3:=by
    try dsimp only
    split
    · have:=hB.top g hg.1 hg.2; omega
    · exact hB.top v h0 h3
  snd v h0 h3 hv:=by
    try dsimp only at hv ⊢
    split at hv
    · rename_i e; subst e
      rw [if_pos rfl];obtain ⟨vs,w⟩:=hB.snd m hm.1 hm.2 h1;exact ⟨_,.snoc w he⟩
    · rename_i e; rw [if_neg e]; exact hB.snd v h0 h3 hv
  low v h0 h3:=by
    try dsimp only
    split
    · have:=hB.low m hm.1 hm.2; omega
    · have:=hB.low v h0 h3; omega
  own:=by
    try dsimp only
    split
    · rename_i e; subst e; have:=hB.own; omega
    · exact hB.own
  up v h0 h3 hv:=by
    try dsimp only at hv ⊢
    split at hv
    · rename_i e; rw [if_pos e]; have:=hB.up m hm.1 hm.2 h1; omega
    · rename_i e; rw [if_neg e]; have:=hB.up v h0 h3 hv; omega
/-- Walks of so many legs are told. -/
def Cov (ls:List Line) (a:Int) (D:Int->Int) (r:Nat):Prop:=∀ vs b c,Wk ls a (b :: vs) c->vs.length<=r->D b<=c
theorem Cov.zero {D:Int->Int} (h:D a<=0):Cov ls a D 0:=by
  intro vs b c w hl;have:vs=[]:=List.length_eq_zero_iff.1 (Nat.le_zero.1 hl);subst this;cases w;exact h
theorem Cov.next {D D':Int->Int} {r:Nat} (hN:NetOk n ls) (hr:r<=1000) (hC:Cov ls a D r) (ha:0<=a/\a<n) (hle:∀ v,0<=v->v<n->D' v<=D v) (hE:∀ m g e,Ed ls m g e->D m<1099511627776->D' g<=D m+e):Cov ls a D' (r+1):=by
  intro vs b c w hl;cases w with
  | one=>exact Int.le_trans (hle _ ha.1 ha.2) (hC [] _ _ .one (Nat.zero_le _))
  | snoc w he =>
    rename_i m ws c0 e
    have h1:=hC _ _ _ w (by simpa using hl);have h2:=w.size hN.ed;simp only [List.length_cons] at h2 hl;have h3:D m<1099511627776:=by omega
    have:=hE _ _ _ he h3;omega
/-- At the end. -/
structure Done (ls:List Line) (n a:Int) (D:Int->Int):Prop where
  far:∀ v,0<=v->v<n->D v ≠ 1099511627776->D v<1099511627776
  dist:∀ v,0<=v->v<n->D v<1099511627776->IsDist ls a v (D v)
  tied:∀ v,0<=v->v<n->Tied ls a v->D v<1099511627776
theorem BF.done {D:Int->Int} {k:Int} {r N:Nat} (hN:NetOk n ls) (hF:Feas ls h) (e:(N:Int)=n) (ha:0<=a/\a<n) (hB:BF ls n a D k) (hC:Cov ls a D r) (hr:N<=r+1):Done ls n a D:=by
  have hle:∀ vs b c,Wk ls a (b :: vs) c->D b<=c/\D b<1099511627776:=by
    intro vs b c w;obtain ⟨vs',c',w',h1,h2,h3⟩:=w.few (n:=N) hF (by rw [e]; exact hN.rng) (by rw [e]; exact ha);have h4:=hC _ _ _ w' (by omega);have h5:=w'.size hN.ed;simp only [List.length_cons] at h5;have:=hN.marks;exact ⟨by omega,by omega⟩
  refine ⟨fun v h0 h1 h2=>?_,fun v h0 h1 h2=>⟨hB.snd v h0 h1 h2,fun vs c w=>(hle vs v c w).1⟩,fun v h0 h1 ⟨vs,c,w⟩=>(hle vs v c w).2⟩;have:=hB.top v h0 h1;omega
/-- Rows that no leg makes less. -/
structure Tight (ls:List Line) (n:Int) (T:Int->Int->Int):Prop where
  leg:∀ a m g e,0<=a->a<n->Ed ls m g e->T a m<1099511627776->T a g<=T a m+e
  zero:∀ a,0<=a->a<n->T a a=0
theorem Tight.feas {T:Int->Int->Int} (hN:NetOk n ls) (hS:Tight ls n T) (ht:∀ a v,0<=a->a<n->0<=v->v<n->T a v<=1099511627776) (f:Int->Int)
    (hf:∀ v,0<=v->v<n->(0<=f v/\f v<n)/\T (f v) v<1099511627776/\∀ u,0<=u->u<f v->¬ T u v<1099511627776) (hb:∀ a m g e,0<=a->a<n->Ed ls m g e->T a m<1099511627776->T a m+e<1099511627776):Feas ls (fun v=>T (f v) v):=by
  refine feas_of fun m g e he=>?_;have hr:=he.rng hN.rng;have hm:=hf m hr.1.1 hr.1.2;have hg:=hf g hr.2.1 hr.2.2;have step:∀ u v,Ed ls u v e∨(∃ e',Ed ls u v e')->True:=fun _ _ _=>trivial;have same:f m=f g:=by
    have key:∀ u v e',Ed ls u v e'->f v<=f u:=by
      intro u v e' h';have hr':=h'.rng hN.rng;have h1:=hf u hr'.1.1 hr'.1.2;have h2:=hf v hr'.2.1 hr'.2.2;have h3:=hS.leg _ _ _ _ h1.1.1 h1.1.2 h' h1.2.1;have h4:=hb _ _ _ _ h1.1.1 h1.1.2 h' h1.2.1;rcases Int.lt_or_le (f u) (f v) with hlt | hge
      · exact absurd (by omega) (h2.2.2 (f u) h1.1.1 hlt)
      · exact hge
    obtain ⟨e',hr'⟩:=he.rev;have:=key _ _ _ he;have:=key _ _ _ hr';omega
  try dsimp only
  have h3:=hS.leg (f m) m g e hm.1.1 hm.1.2 he hm.2.1;rw [← same];omega
/-! ### Legs, and the last legs of shortest walks -/
def LegOk (ls:List Line) (g:Leg):Prop:=0<=g.line/\g.line<(ls.length:Int)
def lnOf (ls:List Line) (g:Leg):Line:=ls.getD (Int.toNat g.line) default
def sOf (ls:List Line) (g:Leg):Int:=legEnd g.back (lnOf ls g)
def gOf (ls:List Line) (g:Leg):Int:=legEnd (!g.back) (lnOf ls g)
def rOf (ls:List Line) (g:Leg):Int:=bif g.back then (lnOf ls g).err-(lnOf ls g).rise else (lnOf ls g).err+(lnOf ls g).rise
theorem LegOk.mem {g:Leg} (h:LegOk ls g):lnOf ls g∈ls:=by
  unfold lnOf;have hl:Int.toNat g.line<ls.length:=by have:=h.1; have:=h.2; omega
  rw [getD_el ls hl];exact List.getElem_mem hl
theorem LegOk.ed {g:Leg} (h:LegOk ls g):Ed ls (sOf ls g) (gOf ls g) (rOf ls g):=by
  refine ⟨lnOf ls g,h.mem,?_⟩;unfold sOf gOf rOf legEnd;cases g.back with
  | true=>exact .inr ⟨rfl,rfl,rfl⟩
  | false=>exact .inl ⟨rfl,rfl,rfl⟩
theorem leg_of (he:Ed ls a b c):∃ (i:Nat) (k:Bool),i<ls.length/\sOf ls ⟨i,k⟩=a/\gOf ls ⟨i,k⟩=b/\rOf ls ⟨i,k⟩=c:=by
  obtain ⟨l,hl,h⟩:=he;obtain ⟨i,hi,rfl⟩:=mem_getD hl default;rcases h with ⟨rfl,rfl,rfl⟩ | ⟨rfl,rfl,rfl⟩
  · exact ⟨i,false,hi,rfl,rfl,rfl⟩
  · exact ⟨i,true,hi,rfl,rfl,rfl⟩
/-- The last legs lead back to the first mark. -/
inductive Ch (ls:List Line) (a:Int) (by_:Int->Leg):Int->Prop
  | root:Ch ls a by_ a
  | up {v:Int} (hv:v ≠ a) (h:Ch ls a by_ (sOf ls (by_ v))):Ch ls a by_ v
structure ByOk (ls:List Line) (n a:Int) (D:Int->Int) (by_:Int->Leg):Prop where
  leg:∀ v,0<=v->v<n->v ≠ a->D v<1099511627776->LegOk ls (by_ v)/\gOf ls (by_ v)=v/\D (sOf ls (by_ v))+rOf ls (by_ v)<=D v/\D (sOf ls (by_ v))<1099511627776
  chn:∀ h,Feas ls h->∀ v,0<=v->v<n->D v<1099511627776->Ch ls a by_ v
theorem ByOk.init (ls:List Line) (n a:Int) (by_:Int->Leg):ByOk ls n a (fun v=>if v=a then 0 else 1099511627776) by_ where
  leg v _ _ hv h:=by rw [if_neg hv] at h; omega
  chn h _ v _ _ hd:=by
    by_cases e:v=a
    · subst e; exact .root
    · rw [if_neg e] at hd; omega
theorem Ch.congr {by_ by':Int->Leg} (e:∀ v,0<=v->v<n->by' v=by_ v) (hR:∀ v,0<=v->v<n->v ≠ a->Ch ls a by_ v->0<=sOf ls (by_ v)/\sOf ls (by_ v)<n) {v:Int} (h0:0<=v/\v<n) (h:Ch ls a by_ v):Ch ls a by' v:=by
  induction h with
  | root=>exact .root
  | @up v hv hc ih=>exact .up hv (by rw [e v h0.1 h0.2]; exact ih (hR v h0.1 h0.2 hv (.up hv hc)))
theorem ByOk.congr {D D':Int->Int} {by_ by':Int->Leg} (hN:NetOk n ls) (hB:ByOk ls n a D by_) (e:∀ v,0<=v->v<n->D' v=D v) (e':∀ v,0<=v->v<n->by' v=by_ v):ByOk ls n a D' by' where
  leg v h0 h1 hv hd:=by
    rw [e v h0 h1] at hd ⊢;rw [e' v h0 h1];obtain ⟨h2,h3,h4,h5⟩:=hB.leg v h0 h1 hv hd;have hr:=(h2.ed.rng hN.rng).1;rw [e _ hr.1 hr.2];exact ⟨h2,h3,h4,h5⟩
  chn h hF v h0 h1 hd:=by
    rw [e v h0 h1] at hd;have hc:=hB.chn h hF v h0 h1 hd;have key:∀ v,Ch ls a by_ v->0<=v->v<n->D v<1099511627776->Ch ls a by' v:=by
      intro v hc;induction hc with
      | root=>exact fun _ _ _=>.root
      | @up v hv hc ih =>
        intro h0 h1 hd;obtain ⟨h2,h3,h4,h5⟩:=hB.leg v h0 h1 hv hd;have hr:=(h2.ed.rng hN.rng).1;exact .up hv (by rw [e' v h0 h1]; exact ih hr.1 hr.2 h5)
    exact key v hc h0 h1 hd
theorem ByOk.relax {D:Int->Int} {by_:Int->Leg} {k:Int} {x:Leg} (hN:NetOk n ls) (hB:ByOk ls n a D by_) (hD:BF ls n a D k) (hx:LegOk ls x) (h1:D (sOf ls x)<1099511627776) (h2:D (sOf ls x)+rOf ls x<D (gOf ls x)) :
    ByOk ls n a (fun v=>if v=gOf ls x then D (sOf ls x)+rOf ls x else D v) (fun v=>if v=gOf ls x then x else by_ v):=by
  have he:=hx.ed;have hr:=he.rng hN.rng;have hne:sOf ls x ≠ gOf ls x:=by
    unfold sOf gOf legEnd;have:=hN.ne _ hx.mem;cases x.back with
    | true=>exact fun e=>this e.symm
    | false=>exact this
  have hle:∀ v,(if v=gOf ls x then D (sOf ls x)+rOf ls x else D v)<=D v:=fun v=>by
    split
    · rename_i e; rw [e]; omega
    · exact Int.le_refl _
  refine ⟨fun v h0 h3 hv hd=>?_,fun h hF v h0 h3 hd=>?_⟩
  · by_cases e:v=gOf ls x
    · subst e;simp only [if_true] at hd ⊢;rw [if_neg hne];exact ⟨hx,trivial,Int.le_refl _,h1⟩
    · simp only [if_neg e] at hd ⊢;obtain ⟨g1,g2,g3,g4⟩:=hB.leg v h0 h3 hv hd;have:=hle (sOf ls (by_ v));exact ⟨g1,g2,by omega,by omega⟩
  · -- the last legs lead to the first mark without the one that is turned
    have hga:gOf ls x ≠ a:=by
      intro e;obtain ⟨vs,w⟩:=hD.snd _ hr.1.1 hr.1.2 h1;have q1:=(Wk.snoc w he).le hF;have q2:=hD.own;rw [e] at q1 h2;omega
    have key:∀ u,Ch ls a by_ u->0<=u->u<n->D u<1099511627776->∀ vs c,Wk ls u (sOf ls x :: vs) c->D u+c<=D (sOf ls x)->Ch ls a (fun v=>if v=gOf ls x then x else by_ v) u:=by
      intro u hc;induction hc with
      | root=>exact fun _ _ _ _ _ _ _=>.root
      | @up u hu hc ih =>
        intro h0 h3 hd vs c w hle;obtain ⟨g1,g2,g3,g4⟩:=hB.leg u h0 h3 hu hd;have hr':=(g1.ed.rng hN.rng).1;have hug:u ≠ gOf ls x:=by
          intro e;have q1:=(Wk.snoc w he).le hF;rw [e] at q1 hle;omega
        refine .up hu ?_;rw [if_neg hug];have e1:=g1.ed;rw [g2] at e1;obtain ⟨us,hw⟩:=(Wk.edge e1).app w;exact ih hr'.1 hr'.2 g4 us _ hw (by omega)
    have hm:Ch ls a (fun v=>if v=gOf ls x then x else by_ v) (sOf ls x):=key _ (hB.chn h hF _ hr.1.1 hr.1.2 h1) hr.1.1 hr.1.2 h1 [] 0 .one (by omega);have hg:Ch ls a (fun v=>if v=gOf ls x then x else by_ v) (gOf ls x):=.up hga (by rw [if_pos rfl]; exact hm);have all:∀ u,Ch ls a by_ u->Ch ls a (fun v=>if v=gOf ls x then x else by_ v) u:=by
      intro u hc;induction hc with
      | root=>exact .root
      | @up u hu hc ih =>
        by_cases e:u=gOf ls x
        · rw [e]; exact hg
        · exact .up hu (by rw [if_neg e]; exact ih)
    by_cases e:v=gOf ls x
    · rw [e]; exact hg
    · simp only [if_neg e] at hd;exact all v (hB.chn h hF v h0 h3 hd)
end Go.Nm
-- libL/DC3.lean
namespace Go.Nm
def rw_ (can:List Int) (a v:Int):Int:=can.getD (Int.toNat a*13+Int.toNat v) 0
def rb_ (by_:List Leg) (a v:Int):Leg:=by_.getD (Int.toNat a*13+Int.toNat v) default
variable {ls:List Line} {n a:Int}
structure FI (ls:List Line) (n a:Int) (can0:List Int) (by0:List Leg) (k:Int) (can:List Int) (by_:List Leg):Prop where
  lc:can.length=169
  lb:by_.length=169
  oth:∀ i,(i<Int.toNat a*13∨Int.toNat a*13+13<=i)->can.getD i 0=can0.getD i 0/\by_.getD i default=by0.getD i default
  bf:BF ls n a (rw_ can a) k
  bo:ByOk ls n a (rw_ can a) (rb_ by_ a)
theorem FI.mono {can0 can:List Int} {by0 by_:List Leg} {k k':Int} (h:FI ls n a can0 by0 k can by_) (hk:k<=k'):FI ls n a can0 by0 k' can by_:=⟨h.lc,h.lb,h.oth,h.bf.mono hk,h.bo⟩
theorem rw_set {can:List Int} (hl:can.length=169) {a g:Int} (ha:0<=a/\a<12) (hg:0<=g/\g<13) (x:Int) (v:Int) (h0:0<=v) (h1:v<13):rw_ (can.set (Int.toNat a*13+Int.toNat g) x) a v=if v=g then x else rw_ can a v:=by
  unfold rw_;rw [gset _ _ _ _ _ (by omega)];by_cases e:v=g
  · rw [if_pos e,if_pos (by rw [e])]
  · rw [if_neg e,if_neg (by omega)]
theorem rb_set {by_:List Leg} (hl:by_.length=169) {a g:Int} (ha:0<=a/\a<12) (hg:0<=g/\g<13) (x:Leg) (v:Int) (h0:0<=v) (h1:v<13):rb_ (by_.set (Int.toNat a*13+Int.toNat g) x) a v=if v=g then x else rb_ by_ a v:=by
  unfold rb_;rw [gset _ _ _ _ _ (by omega)];by_cases e:v=g
  · rw [if_pos e,if_pos (by rw [e])]
  · rw [if_neg e,if_neg (by omega)]
theorem FI.relax {can0 can:List Int} {by0 by_:List Leg} {k:Int} {x:Leg} (hN:NetOk n ls) (ha:0<=a/\a<n) (h:FI ls n a can0 by0 k can by_) (hk:0<=k) (hx:LegOk ls x) (h1:rw_ can a (sOf ls x)<1099511627776) (h2:rw_ can a (sOf ls x)+rOf ls x<rw_ can a (gOf ls x)) :
    FI ls n a can0 by0 (k+1) (can.set (Int.toNat a*13+Int.toNat (gOf ls x)) (rw_ can a (sOf ls x)+rOf ls x)) (by_.set (Int.toNat a*13+Int.toNat (gOf ls x)) x):=by
  have hm:=hN.marks;have hr:=hx.ed.rng hN.rng;have e1:∀ v,0<=v->v<n->rw_ (can.set (Int.toNat a*13+Int.toNat (gOf ls x)) (rw_ can a (sOf ls x)+rOf ls x)) a v=if v=gOf ls x then rw_ can a (sOf ls x)+rOf ls x else rw_ can a v:=fun v h0 h3=>rw_set h.lc (by omega) (by omega) _ v h0 (by omega)
  have e2:∀ v,0<=v->v<n->rb_ (by_.set (Int.toNat a*13+Int.toNat (gOf ls x)) x) a v=if v=gOf ls x then x else rb_ by_ a v:=fun v h0 h3=>rb_set h.lb (by omega) (by omega) _ v h0 (by omega)
  refine ⟨by rw [List.length_set]; exact h.lc,by rw [List.length_set]; exact h.lb,fun i hi=>?_,?_,?_⟩
  · rw [gset _ _ _ _ _ (by rw [h.lc]; omega),gset _ _ _ _ _ (by rw [h.lb]; omega),if_neg (by omega),if_neg (by omega)];exact h.oth i hi
  · exact (h.bf.relax hk hx.ed (hN.ed _ _ _ hx.ed) hr.1 hr.2 h1 h2).congr ha hN.rng e1
  · exact (h.bo.relax hN h.bf hx h1 h2).congr hN e1 e2
/-- These legs make nothing less than they did when the round began. -/
def Rlx (ls:List Line) (D0 D:Int->Int) (pr:Nat->Bool->Prop):Prop:=∀ (i:Nat) (k:Bool),i<ls.length->pr i k->D0 (sOf ls ⟨i,k⟩)<1099511627776->D (gOf ls ⟨i,k⟩)<=D0 (sOf ls ⟨i,k⟩)+rOf ls ⟨i,k⟩
theorem Rlx.le {D0 D D':Int->Int} {pr pr':Nat->Bool->Prop} (hR:Rng n ls) (h:Rlx ls D0 D pr) (hle:∀ v,0<=v->v<n->D' v<=D v) (hp:∀ i k,i<ls.length->pr' i k->pr i k):Rlx ls D0 D' pr':=fun i k hi hpr hd=>by
  have hx:LegOk ls ⟨i,k⟩:=⟨by show (0:Int)<=(i:Int); omega,by show (i:Int)<_; omega⟩
  have hr:=(hx.ed.rng hR).2;have:=h i k hi (hp i k hi hpr) hd;have:=hle _ hr.1 hr.2;omega
theorem Rlx.all {D0 D:Int->Int} (h:Rlx ls D0 D (fun _ _=>True)):∀ m g e,Ed ls m g e->D0 m<1099511627776->D g<=D0 m+e:=by
  intro m g e he hd;obtain ⟨i,k,hi,rfl,rfl,rfl⟩:=leg_of he;exact h i k hi trivial hd
end Go.Nm
-- libL/DC4.lean
namespace Go.Nm
variable {ls:List Line} {n a:Int}
theorem Cov.congr {D D':Int->Int} {r:Nat} (hR:Rng n ls) (ha:0<=a/\a<n) (h:Cov ls a D r) (e:∀ v,0<=v->v<n->D' v=D v):Cov ls a D' r:=fun vs b c w hl=>by
  have:=w.rng hR ha b (by simp);rw [e b this.1 this.2];exact h vs b c w hl
def Agr (ls:List Line):Prop:=∃ h,Feas ls h
structure Row (ls:List Line) (n a:Int) (D:Int->Int) (by_:Int->Leg):Prop where
  bf:BF ls n a D 8640
  cov:Cov ls a D (Int.toNat n)
  bo:ByOk ls n a D by_
theorem Row.congr {D D':Int->Int} {b b':Int->Leg} (hN:NetOk n ls) (ha:0<=a/\a<n) (h:Row ls n a D b) (e:∀ v,0<=v->v<n->D' v=D v) (e':∀ v,0<=v->v<n->b' v=b v):Row ls n a D' b' :=
  ⟨h.bf.congr ha hN.rng e,h.cov.congr hN.rng ha e,h.bo.congr hN e e'⟩
structure Wkd (ls:List Line) (n:Int) (can:List Int) (by_:List Leg):Prop where
  lc:can.length=169
  lb:by_.length=169
  row:∀ a,0<=a->a<n->Row ls n a (rw_ can a) (rb_ by_ a)
theorem Wkd.done {can:List Int} {by_:List Leg} (hN:NetOk n ls) (hW:Wkd ls n can by_) (hA:Agr ls) (ha:0<=a/\a<n):Done ls n a (rw_ can a):=by
  obtain ⟨h,hF⟩:=hA;have hr:=hW.row a ha.1 ha.2;have hm:=hN.marks;exact hr.bf.done (N:=Int.toNat n) hN hF (by omega) ha hr.cov (by omega)
def Rx (ls:List Line) (can:List Int) (a:Int) (x:Leg):Prop:=rw_ can a (sOf ls x)<1099511627776/\rw_ can a (sOf ls x)+rOf ls x<rw_ can a (gOf ls x)
theorem Wkd.agr_no {can:List Int} {by_:List Leg} (hN:NetOk n ls) (hW:Wkd ls n can by_) (hA:Agr ls) (ha:0<=a/\a<n) {x:Leg} (hx:LegOk ls x):¬ Rx ls can a x:=by
  rintro ⟨h1,h2⟩;have hD:=hW.done hN hA ha;have hr:=hx.ed.rng hN.rng;have d1:=hD.dist _ hr.1.1 hr.1.2 h1;have ht:Tied ls a (gOf ls x):=d1.tied.trans (.ed hx.ed);have d2:=hD.dist _ hr.2.1 hr.2.2 (hD.tied _ hr.2.1 hr.2.2 ht);have:=d1.step hx.ed d2;omega
theorem Wkd.agr_zero {can:List Int} {by_:List Leg} (hN:NetOk n ls) (hW:Wkd ls n can by_) (hA:Agr ls) (ha:0<=a/\a<n):rw_ can a a=0:=by
  have hD:=hW.done hN hA ha;have h1:=(hW.row a ha.1 ha.2).bf.own;obtain ⟨h,hF⟩:=hA;exact (hD.dist a ha.1 ha.2 (by omega)).uniq (.self hF)
theorem Wkd.agr_of {can:List Int} {by_:List Leg} (hN:NetOk n ls) (hW:Wkd ls n can by_) (h1:∀ a,0<=a->a<n->∀ x,LegOk ls x->¬ Rx ls can a x) (h2:∀ a,0<=a->a<n->¬ rw_ can a a<0) :
    ∃ f:Int->Int,(∀ v,0<=v->v<n->(0<=f v/\f v<n)/\rw_ can (f v) v<1099511627776/\∀ u,0<=u->u<f v->¬ rw_ can u v<1099511627776)/\Feas ls (fun v=>rw_ can (f v) v):=by
  have hS:Tight ls n (rw_ can):=by
    refine ⟨fun a m g e h0 h3 he hd=>?_,fun a h0 h3=>?_⟩
    · obtain ⟨i,k,hi,rfl,rfl,rfl⟩:=leg_of he;have:=h1 a h0 h3 ⟨i,k⟩ ⟨by show (0:Int)<=(i:Int); omega,by show (i:Int)<_; omega⟩;unfold Rx at this;omega
    · have:=h2 a h0 h3;have:=(hW.row a h0 h3).bf.own;omega
  have hex:∀ v,0<=v->v<n->∃ u:Nat,((u:Int)<n/\rw_ can u v<1099511627776)/\∀ k:Nat,((k:Int)<n/\rw_ can k v<1099511627776)->u<=k:=by
    intro v h0 h3;refine least_nat ⟨v.toNat,by omega,?_⟩;rw [Int.toNat_of_nonneg h0,hS.zero v h0 h3];omega
  refine ⟨fun v=>if h:0<=v/\v<n then (((hex v h.1 h.2).choose:Nat):Int) else 0,?_,?_⟩
  · intro v h0 h3;dsimp only;rw [dif_pos ⟨h0,h3⟩];obtain ⟨⟨g1,g2⟩,g3⟩:=(hex v h0 h3).choose_spec;refine ⟨⟨by omega,g1⟩,g2,fun u hu0 hu1 hu=>?_⟩;have:=g3 u.toNat (by rw [Int.toNat_of_nonneg hu0]; exact ⟨by omega,hu⟩);omega
  · refine hS.feas hN (fun a v h0 h3 h4 h5=>(hW.row a h0 h3).bf.top v h4 h5) _ ?_ (fun a m g e h0 h3 he hd=>?_)
    · intro v h0 h3
      try dsimp only
      rw [dif_pos ⟨h0,h3⟩];obtain ⟨⟨g1,g2⟩,g3⟩:=(hex v h0 h3).choose_spec;refine ⟨⟨by omega,g1⟩,g2,fun u hu0 hu1 hu=>?_⟩;have:=g3 u.toNat (by rw [Int.toNat_of_nonneg hu0]; exact ⟨by omega,hu⟩);omega
    · have hr:=he.rng hN.rng;have:=(hW.row a h0 h3).bf.up m hr.1.1 hr.1.2 hd;have:=hN.ed _ _ _ he;omega
end Go.Nm
-- libL/DF.lean
namespace Go.Nm
/-- A place of a table. -/
def tb (l:List (List Int)) (a b:Nat):Int:=(l.getD a []).getD b 0
structure Sq (N:Nat) (l:List (List Int)):Prop where
  len:l.length=N
  rows:∀ a,a<N->(l.getD a []).length=N
theorem Sq.set {N a b:Nat} {l:List (List Int)} (h:Sq N l) (ha:a<N) (x:Int):Sq N (l.set a ((l.getD a []).set b x)):=by
  refine ⟨by rw [List.length_set]; exact h.len,fun i hi=>?_⟩;rw [gset _ _ _ _ _ (by rw [h.len]; exact ha)];by_cases e:i=a
  · rw [if_pos e,List.length_set]; exact h.rows a ha
  · rw [if_neg e]; exact h.rows i hi
/-- One step. -/
def up (k a b:Nat) (l:List (List Int)):List (List Int) :=
  if tb l a k<1000000000000/\tb l k b<1000000000000 then l.set a ((l.getD a []).set b (max (-1000000000000) (min (tb l a b) (tb l a k+tb l k b)))) else l
def bd:Nat->Int
  | 0=>1010000
  | k+1=>2*bd k
theorem bd_pos:∀ k,0<bd k
  | 0=>by decide
  | k+1=>by have:=bd_pos k; unfold bd; omega
theorem bd_le:∀ k,k<=12->bd k<=5000000000:=by decide
/-- A table in which the first k marks were gone through. -/
structure RT (N k:Nat) (T0 T:Nat->Nat->Int):Prop where
  lo:∀ a b,a<N->b<N->-bd k<=T a b
  hi:∀ a b,a<N->b<N->T a b=1000000000000∨T a b<=bd k
  cl:∀ a b j,a<N->b<N->j<N->j<k->T a j<1000000000000->T j b<1000000000000->T a b<=T a j+T j b
  le:∀ a b,a<N->b<N->T a b<=T0 a b
def FT (k:Nat) (T:Nat->Nat->Int) (a b:Nat):Int:=if T a k<1000000000000/\T k b<1000000000000 then min (T a b) (T a k+T k b) else T a b
theorem FT_row {k b:Nat} {T:Nat->Nat->Int} (h:0<=T k k):FT k T k b=T k b:=by
  unfold FT;split <;> omega
theorem FT_col {k a:Nat} {T:Nat->Nat->Int} (h:0<=T k k):FT k T a k=T a k:=by
  unfold FT;split <;> omega
theorem FT_le (k:Nat) (T:Nat->Nat->Int) (a b:Nat):FT k T a b<=T a b:=by
  unfold FT;split <;> omega
theorem RT.next {N k:Nat} {T0 T:Nat->Nat->Int} (h:RT N k T0 T) (hk:k<N) (hN:N<=12) (hp:0<=T k k):RT N (k+1) T0 (FT k T):=by
  have hb:=bd_le (k+1) (by omega);have hb0:=bd_pos k;have e2:bd (k+1)=2*bd k:=rfl;refine ⟨fun a b ha hb=>?_,fun a b ha hb=>?_,fun a b j ha hb hj hjk h1 h2=>?_,fun a b ha hb=>Int.le_trans (FT_le k T a b) (h.le a b ha hb)⟩
  · have l1:=h.lo a b ha hb;have l2:=h.lo a k ha hk;have l3:=h.lo k b hk hb;unfold FT;split <;> omega
  · have l1:=h.hi a b ha hb;have l2:=h.hi a k ha hk;have l3:=h.hi k b hk hb;unfold FT;split <;> omega
  · have kj:=h.lo k j hk hj;have jk:=h.lo j k hj hk;have ak:=h.lo a k ha hk;have kb:=h.lo k b hk hb;have hkj:=h.hi k j hk hj;have hjk':=h.hi j k hj hk;have hak:=h.hi a k ha hk;have hkb:=h.hi k b hk hb;have haj:=h.hi a j ha hj;have hjb:=h.hi j b hj hb;have hab:=h.hi a b ha hb;by_cases e:j=k
    · subst e;rw [FT_col hp] at h1 ⊢;rw [FT_row hp] at h2 ⊢;unfold FT;rw [if_pos ⟨h1,h2⟩];omega
    · have hjk2:j<k:=by omega
      have c1:=h.cl a b j ha hb hj hjk2;have c2:=h.cl k b j hk hb hj hjk2;have c3:=h.cl a k j ha hk hj hjk2;have c4:=h.cl k k j hk hk hj hjk2;unfold FT at h1 h2 ⊢;split at h1 <;> split at h2 <;> split <;> (try split) <;> (try split) <;> omega
/-- A table through which all marks were gone, without a mark that is lower than itself, gives heights. -/
theorem RT.feas {N:Nat} {ls:List Line} {T0 T:Nat->Nat->Int} (h:RT N N T0 T) (hN:1<=N) (hR:Rng N ls) (h0:∀ a b c,Ed ls (a:Nat) (b:Nat) c->T0 a b<=c) (hc:∀ a b c,Ed ls a b c->c<=1010000) (hd:∀ a,a<N->T a a<=0):Agr ls:=by
  have col:∀ v:Nat,∀ m:Nat,m<=N->1<=m->∃ a,a<m/\∀ x,x<m->T a v<=T x v:=by
    intro v m;induction m with
    | zero=>intro _ h; omega
    | succ m ih =>
      intro hm _;by_cases e:m=0
      · subst e; exact ⟨0,by omega,fun x hx=>by rw [show x=0 by omega]; exact Int.le_refl _⟩
      · obtain ⟨a,ha,hx⟩:=ih (by omega) (by omega);by_cases c:T m v<T a v
        · refine ⟨m,by omega,fun x hx'=>?_⟩;by_cases e2:x=m
          · rw [e2]; exact Int.le_refl _
          · have:=hx x (by omega); omega
        · refine ⟨a,by omega,fun x hx'=>?_⟩;by_cases e2:x=m
          · rw [e2]; omega
          · exact hx x (by omega)
  have pick:∀ v:Nat,∃ a,a<N/\∀ x,x<N->T a v<=T x v:=fun v=>col v N (Nat.le_refl _) hN;refine ⟨fun v=>T (pick v.toNat).choose v.toNat,feas_of fun m g c he=>?_⟩;have hr:=he.rng hR;obtain ⟨m,rfl⟩:∃ k:Nat,m=k:=⟨m.toNat,by omega⟩
  obtain ⟨g,rfl⟩:∃ k:Nat,g=k:=⟨g.toNat,by omega⟩
  simp only [Int.toNat_natCast];obtain ⟨p1,p2⟩:=(pick m).choose_spec;obtain ⟨q1,q2⟩:=(pick g).choose_spec;generalize (pick m).choose=p at *;generalize (pick g).choose=q at *;have hm:m<N:=by omega
  have hg:g<N:=by omega
  have e1:=p2 m hm;have e2:=hd m hm;have e3:=q2 p p1;have e4:=h.le m g hm hg;have e5:=h0 m g c he;have e6:=hc _ _ _ he;have:=h.cl p g m p1 hg hm hm (by omega) (by omega);omega
end Go.Nm
-- libL/LP.lean
namespace Go.Proofs.YtaolcidinlnklaaGreat
open Go Go.Nm
variable {ls:List Line} {n:Int}
theorem start_ends {g:Leg} (hg:LegOk ls g):(zbH n ls g).Ends (sOf ls g):=by
  unfold zbH;exact M.i_grd (gA2 hg.1 hg.2) M.i_pure
theorem goal_ends {g:Leg} (hg:LegOk ls g):(zaC n ls g).Ends (gOf ls g):=by
  unfold zaC;exact M.i_grd (gA2 hg.1 hg.2) M.i_pure
theorem rise_ends {N:Int} (hN:NetOk N ls) {g:Leg} (hg:LegOk ls g):(zbc n ls g).Ends (rOf ls g):=by
  unfold zbc;have h1:=hN.rise _ hg.mem;have h2:=hN.err _ hg.mem;unfold lnOf at h1 h2;refine M.i_grd (gA2 hg.1 hg.2) (M.i_if (fun hb=>?_) (fun hb=>?_))
  · unfold rOf; rw [hb];exact M.i_grd (gA2 (by omega) (by omega)) M.i_pure
  · unfold rOf; rw [hb];exact M.i_grd (gA2 (by omega) (by omega)) M.i_pure
theorem sum2_ends {x y:Int} (h1:-1000000000000000<=x/\x<=1000000000000000) (h2:-1000000000000000<=y/\y<=1000000000000000):(zb6 [x,y]).Ends (x+y):=by
  unfold zb6;refine M.i_bind (a:=x+y) ?_ M.i_pure;refine M.i_next (s':=(0+x,0+1)) ?_ (M.i_next (s':=(0+x+y,0+1+1)) ?_ (M.i_stop ?_))
  · simp only [zbj];exact M.i_t (by simp) (M.i_grd (by simp) (M.i_grd (gA2 (by simp; omega) (by simp; omega)) M.i_pure))
  · simp only [zbj];exact M.i_t (by simp) (M.i_grd (by simp) (M.i_grd (gA2 (by simp; omega) (by simp; omega)) M.i_pure))
  · simp only [zbj];rw [show x+y=0+x+y by omega];exact M.i_f (by simp) M.i_pure
/-- A walk over the legs that begin at a mark. -/
theorem legs_out {S X:Type} {bd:S->Leg->M (S ⊕ X)} {m:Int} (J:Nat->S->Prop) (QX:X->Prop)
    (step:∀ (i:Nat) (k:Bool) (s:S),i<ls.length->sOf ls ⟨i,k⟩=m->J (2*i+k.toNat) s->(bd s ⟨i,k⟩).Out (fun r=>match r with | .inl s'=>J (2*i+k.toNat+1) s' | .inr x=>QX x))
    (skip:∀ (i:Nat) (k:Bool) (s:S),i<ls.length->sOf ls ⟨i,k⟩ ≠ m->J (2*i+k.toNat) s->J (2*i+k.toNat+1) s)
    {s:S} (h:J 0 s):(zap (M.yl bd) (.inl s) n ls m).Out (fun r=>match r with | .inl s'=>J (2*ls.length) s' | .inr x=>QX x):=by
  unfold zap;refine M.o_bind (P:=fun y=>match y with | .inl t=>∃ x,t = .inr x/\QX x | .inr t=>∃ s,t = .inl s/\J (2*ls.length) s) ?_ ?_
  · refine M.o_for ls.length (fun i st=>st.1=i/\∃ s,st.2 = .inl s/\J (2*i) s) ?_ ?_ ⟨rfl,s,rfl,h⟩
    · rintro i ⟨s2,t⟩ hi ⟨rfl,s,rfl,hJ⟩;dsimp only at hi hJ;have one:∀ (k:Bool) (s:S),J (2*s2+k.toNat) s->(M.bind (zbH n ls ⟨s2,k⟩) fun r2=>M.bind (M.opt (r2==m) (M.yl bd (.inl s) ⟨s2,k⟩) (false,.inl s)) fun (go,t) =>
          bif ((r2==m)&&(!go)) then (M.pure (.inr (.inl t))) else (M.pure (.inl (k.toNat+1,t)))).Out
          (fun y:((Nat × (S ⊕ X)) ⊕ ((S ⊕ X) ⊕ (S ⊕ X)))=>match y with | .inl st=>st.1=k.toNat+1/\∃ s,st.2 = .inl s/\J (2*s2+(k.toNat+1)) s | .inr (.inl t)=>∃ x,t = .inr x/\QX x | .inr (.inr _)=>False):=by
        intro k s hJ;refine M.o_bindE (start_ends ⟨by show (0:Int)<=(s2:Int); omega,by show (s2:Int)<_; omega⟩) ?_;by_cases hm:sOf ls ⟨s2,k⟩=m
        · have hb:(sOf ls ⟨s2,k⟩==m)=true:=by rw [beq_iff_eq]; exact hm
          rw [hb];refine M.o_bind (P:=fun y=>match y.1 with | true=>∃ s,y.2 = .inl s/\J (2*s2+k.toNat+1) s | false=>∃ x,y.2 = .inr x/\QX x) ?_ ?_
          · refine M.o_bind (step s2 k s hi hm hJ) ?_;rintro (s' | x) hs
            · exact M.o_pure ⟨s',rfl,hs⟩
            · exact M.o_pure ⟨x,rfl,hs⟩
          · rintro ⟨go,t⟩ hy;cases go with
            | true=>exact M.o_pure ⟨rfl,hy⟩
            | false=>exact M.o_pure hy
        · have hb:(sOf ls ⟨s2,k⟩==m)=false:=by rw [beq_eq_false_iff_ne]; exact hm
          rw [hb];refine M.o_bindE (a:=(false,.inl s)) (M.i_opt (fun h=>by cases h) (fun _=>rfl)) ?_;exact M.o_pure ⟨rfl,s,rfl,skip s2 k s hi hm hJ⟩
      simp only [za9];refine M.o_t (by simpa using hi) ?_;refine M.o_bind (P:=fun y=>match y with | .inl t=>∃ x,t = .inr x/\QX x | .inr t=>∃ s,t = .inl s/\J (2*(s2+1)) s) ?_ ?_
      · refine M.o_for 2 (fun j st=>st.1=j/\∃ s,st.2 = .inl s/\J (2*s2+j) s) ?_ ?_ ⟨rfl,s,rfl,hJ⟩
        · rintro j ⟨s3,t⟩ hj ⟨rfl,s,rfl,hJ⟩;dsimp only at hj hJ;simp only [zbg];refine M.o_t (by simp; omega) (M.o_grd (by simp; omega) ?_);rcases (show s3=0∨s3=1 by omega) with rfl | rfl
          · exact M.o_mono (one false s hJ) (fun y hy=>by rcases y with st | t | t; exact hy; exact hy; exact hy.elim)
          · exact M.o_mono (one true s hJ) (fun y hy=>by rcases y with st | t | t; exact hy; exact hy; exact hy.elim)
        · rintro ⟨s3,t⟩ ⟨rfl,s,rfl,hJ⟩;simp only [zbg];exact M.o_f (by simp) (M.o_pure ⟨s,rfl,hJ⟩)
      · rintro (t | t) hy
        · exact M.o_pure hy
        · exact M.o_pure ⟨rfl,hy⟩
    · rintro ⟨s2,t⟩ ⟨rfl,s,rfl,hJ⟩;simp only [za9];exact M.o_f (by simp) (M.o_pure ⟨s,rfl,hJ⟩)
  · rintro (t | t) hy
    · obtain ⟨x,rfl,hx⟩:=hy;exact M.o_pure hx
    · obtain ⟨s,rfl,hs⟩:=hy;exact M.o_pure hs
end Go.Proofs.YtaolcidinlnklaaGreat
-- libL/LP2.lean
namespace Go.Proofs.YtaolcidinlnklaaGreat
open Go Go.Nm
variable {ls:List Line} {n a:Int}
theorem ij {i:Nat} {k:Bool} (hi:i<ls.length):LegOk ls ⟨i,k⟩:=⟨by show (0:Int)<=(i:Int); omega,by show (i:Int)<_; omega⟩
/-- One leg. -/
theorem fill_leg (hN:NetOk n ls) (ha:0<=a/\a<n) {can0 can:List Int} {by0 by_:List Leg} {k:Int} {m i:Nat} {b:Bool} (hi:i<ls.length) (hs:sOf ls ⟨i,b⟩=(m:Int)) (hk:0<=k/\k<=100000) (h:FI ls n a can0 by0 k can by_) (hd:rw_ can a m<1099511627776) :
    (zai n ls a m (can,by_) ⟨i,b⟩).Out (fun r=>match r with | .inl s=>FI ls n a can0 by0 (k+1) s.1 s.2/\(∀ v,0<=v->v<n->rw_ s.1 a v<=rw_ can a v)/\rw_ s.1 a (gOf ls ⟨i,b⟩)<=rw_ can a m+rOf ls ⟨i,b⟩ | .inr _=>False):=by
  have hx:LegOk ls ⟨i,b⟩:=ij hi;have hr:=hx.ed.rng hN.rng;have hm:=hN.marks;have hc:=hN.ed _ _ _ hx.ed;have hlo:=h.bf.low m (by omega) (by rw [← hs]; exact hr.1.2);simp only [zai];refine M.o_bindE (rise_ends hN hx) ?_;refine M.o_bindE (a:=rw_ can a m+rOf ls ⟨i,b⟩) (sum2_ends (x:=can.getD (Int.toNat a*13+m) 0) (by unfold rw_ at hlo hd; rw [Int.toNat_natCast] at hlo hd; omega) (by omega)) ?_;refine M.o_bindE (goal_ends hx) ?_;refine M.o_grd (gA2 (by omega) (by omega)) ?_;refine M.o_if (fun hb=>?_) (fun hb=>?_)
  · have hb:=of_decide_eq_true hb;refine M.o_bindE (goal_ends hx) (M.o_bindE (goal_ends hx) (M.o_grd (gA2 (by omega) (by omega)) (M.o_grd (gA2 (by omega) (by omega)) (M.o_pure ?_))));have h1:=h.relax hN ha hk.1 hx (by rw [hs]; exact hd) (by rw [hs]; exact hb);rw [hs] at h1;have e1:∀ v,0<=v->v<n->rw_ (can.set (Int.toNat a*13+Int.toNat (gOf ls ⟨i,b⟩)) (rw_ can a m+rOf ls ⟨i,b⟩)) a v=if v=gOf ls ⟨i,b⟩ then rw_ can a m+rOf ls ⟨i,b⟩ else rw_ can a v:=fun v h0 h3=>rw_set h.lc (by omega) (by omega) _ v h0 (by omega)
    refine ⟨h1,fun v h0 h3=>?_,?_⟩
    · dsimp only;rw [e1 v h0 h3];split
      · rename_i e
        rw [e];exact Int.le_of_lt hb
      · exact Int.le_refl _
    · dsimp only;rw [e1 _ hr.2.1 hr.2.2,if_pos rfl];exact Int.le_refl _
  · have hb:=of_decide_eq_false hb;refine M.o_pure ⟨h.mono (by omega),fun v _ _=>Int.le_refl _,?_⟩;dsimp only;unfold rw_ at *;omega
/-- The legs at a mark. -/
theorem fill_mark (hN:NetOk n ls) (ha:0<=a/\a<n) {can0 can:List Int} {by0 by_:List Leg} {k:Int} {m:Nat} (hm:(m:Int)<n) (hk:0<=k/\k<=90000) (h:FI ls n a can0 by0 k can by_) {D0:Int->Int} (hle:∀ v,0<=v->v<n->rw_ can a v<=D0 v) (hR:Rlx ls D0 (rw_ can a) (fun i b=>sOf ls ⟨i,b⟩<(m:Int))) (hd:rw_ can a m<1099511627776) :
    (zap (M.yl (zai n ls a m)) (.inl (can,by_)) n ls m).Out (fun r=>match r with | .inl s=>FI ls n a can0 by0 (k+60) s.1 s.2/\(∀ v,0<=v->v<n->rw_ s.1 a v<=D0 v)/\Rlx ls D0 (rw_ s.1 a) (fun i b=>sOf ls ⟨i,b⟩<(m:Int)+1) | .inr _=>False):=by
  have hf:=hN.few;refine M.o_mono (legs_out (m:=(m:Int)) (fun idx s=>FI ls n a can0 by0 (k+idx) s.1 s.2/\(∀ v,0<=v->v<n->rw_ s.1 a v<=D0 v)/\rw_ s.1 a m<1099511627776/\Rlx ls D0 (rw_ s.1 a) (fun i b=>sOf ls ⟨i,b⟩<(m:Int)∨(sOf ls ⟨i,b⟩=(m:Int)/\2*i+b.toNat<idx))) (fun _=>False) ?_ ?_ (s:=(can,by_)) ⟨h.mono (by omega),hle,hd,hR.le hN.rng (fun v _ _=>Int.le_refl _) (fun i b _ hp=>by rcases hp with hp | ⟨_,hp⟩; exact hp; omega)⟩) ?_
  · rintro i b ⟨s,s2⟩ hi hs ⟨hF,hle,hd,hR⟩;dsimp only at hF hle hd hR;have hb2:b.toNat<=1:=by cases b <;> decide
    refine M.o_mono (fill_leg hN ha hi hs (by omega) hF hd) ?_;rintro (⟨t,t2⟩ | x) hy
    · obtain ⟨h1,h2,h3⟩:=hy;dsimp only at h1 h2 h3 ⊢;refine ⟨h1.mono (by omega),fun v h0 h4=>Int.le_trans (h2 v h0 h4) (hle v h0 h4),Int.lt_of_le_of_lt (h2 m (by omega) hm) hd,fun i' b' hi' hp hd0=>?_⟩;have hr':=((ij (k:=b') hi').ed.rng hN.rng).2;by_cases e:sOf ls ⟨i',b'⟩<(m:Int)∨(sOf ls ⟨i',b'⟩=(m:Int)/\2*i'+b'.toNat<2*i+b.toNat)
      · have:=hR i' b' hi' e hd0;have:=h2 _ hr'.1 hr'.2;omega
      · have hb3:b'.toNat<=1:=by cases b' <;> decide
        have e2:i'=i/\b'=b:=by
          have:2*i'+b'.toNat=2*i+b.toNat:=by omega
          refine ⟨by omega,?_⟩;have:b'.toNat=b.toNat:=by omega
          cases b <;> cases b' <;> simp_all
        obtain ⟨rfl,rfl⟩:=e2;rw [hs] at hd0 ⊢;have:=hle m (by omega) hm;omega
    · exact hy.elim
  · rintro i b ⟨s,s2⟩ hi hs ⟨hF,hle,hd,hR⟩;refine ⟨hF.mono (by omega),hle,hd,hR.le hN.rng (fun v _ _=>Int.le_refl _) (fun i' b' hi' hp=>?_)⟩;rcases hp with hp | ⟨hp,hp2⟩
    · exact .inl hp
    · have hb2:b.toNat<=1:=by cases b <;> decide
      have hb3:b'.toNat<=1:=by cases b' <;> decide
      refine .inr ⟨hp,?_⟩;rcases Nat.lt_or_ge (2*i'+b'.toNat) (2*i+b.toNat) with h | h
      · exact h
      · exfalso;have:2*i'+b'.toNat=2*i+b.toNat:=by omega
        have e1:i'=i:=by omega
        subst e1;have e2:b'=b:=by
          have:b'.toNat=b.toNat:=by omega
          cases b <;> cases b' <;> simp_all
        subst e2;exact hs hp
  · rintro (s | x) hy
    · obtain ⟨h1,h2,h3,h4⟩:=hy;refine ⟨h1.mono (by omega),h2,h4.le hN.rng (fun v _ _=>Int.le_refl _) (fun i b hi hp=>?_)⟩;have hb2:b.toNat<=1:=by cases b <;> decide
      by_cases e:sOf ls ⟨i,b⟩<(m:Int)
      · exact .inl e
      · exact .inr ⟨by omega,by omega⟩
    · exact hy.elim
/-- A row. -/
theorem fill_out (hN:NetOk n ls) (ha:0<=a/\a<n) {can:List Int} {by_:List Leg} (lc:can.length=169) (lb:by_.length=169) (h0:∀ v,0<=v->v<n->rw_ can a v=if v=a then 0 else 1099511627776) :
    (za2 n ls can by_ a).Out (fun r=>FI ls n a can by_ 8640 r.1 r.2/\Cov ls a (rw_ r.1 a) (Int.toNat n)):=by
  have hm:=hN.marks;have hI:FI ls n a can by_ 0 can by_:=⟨lc,lb,fun _ _=>⟨rfl,rfl⟩,(BF.init ls n a).congr ha hN.rng h0,(ByOk.init ls n a (rb_ by_ a)).congr hN h0 (fun _ _ _=>rfl)⟩
  unfold za2;refine M.o_grd (gA2 (by omega) (by omega)) ?_;refine M.o_bind (P:=fun r=>FI ls n a can by_ 8640 r.1 r.2/\Cov ls a (rw_ r.1 a) (Int.toNat n)) ?_ (fun y hy=>M.o_pure hy);refine M.o_for (Int.toNat n) (fun r st=>st.2.2=r/\FI ls n a can by_ (720*r) st.1 st.2.1/\Cov ls a (rw_ st.1 a) r) ?_ ?_ (s:=(can,by_,0)) ⟨rfl,hI.mono (by simp),Cov.zero (by rw [h0 a ha.1 ha.2,if_pos rfl]; exact Int.le_refl _)⟩
  · rintro r ⟨c,y,r'⟩ hr ⟨rfl,hF,hC⟩;dsimp only at hr hF hC;simp only [zbs];refine M.o_t (by simp; omega) ?_;refine M.o_bind (P:=fun q=>FI ls n a can by_ (720*(r'+1)) q.1 q.2/\Cov ls a (rw_ q.1 a) (r'+1)) ?_ ?_
    · refine M.o_for (Int.toNat n) (fun m st=>st.1=m/\FI ls n a can by_ (720*r'+60*m) st.2.1 st.2.2/\(∀ v,0<=v->v<n->rw_ st.2.1 a v<=rw_ c a v)/\Rlx ls (rw_ c a) (rw_ st.2.1 a) (fun i b=>sOf ls ⟨i,b⟩<(m:Int))) ?_ ?_ (s:=(0,c,y)) ⟨rfl,hF.mono (by simp),fun v _ _=>Int.le_refl _,fun i b hi hp _=>by have:=((ij (k:=b) hi).ed.rng hN.rng).1; omega⟩
      · rintro m ⟨m',s,s2⟩ hmn ⟨rfl,hF,hle,hR⟩;dsimp only at hmn hF hle hR;simp only [zbw];refine M.o_t (by simp; omega) (M.o_grd (gA2 (by omega) (by omega)) (M.o_if (fun hb=>?_) (fun hb=>?_)))
        · have hb:=beq_iff_eq.1 hb;refine M.o_grd (gA2 (by omega) (by omega)) (M.o_pure ⟨rfl,hF.mono (by omega),hle,fun i b hi hp hd=>?_⟩);by_cases e:sOf ls ⟨i,b⟩<(m':Int)
          · exact hR i b hi e hd
          · exfalso;have e2:sOf ls ⟨i,b⟩=(m':Int):=by omega
            have:=hle m' (by omega) (by omega);rw [e2] at hd;unfold rw_ at this hd;rw [Int.toNat_natCast] at this hd;omega
        · have hb:=beq_eq_false_iff_ne.1 hb;have htop:=hF.bf.top m' (by omega) (by omega);have hd:rw_ s a m'<1099511627776:=by
            unfold rw_ at htop ⊢;rw [Int.toNat_natCast] at htop ⊢;omega
          refine M.o_bindE (a:=(m':Int)) M.i_pure ?_;refine M.o_bind (fill_mark hN ha (m:=m') (by omega) (by omega) hF hle hR hd) ?_;rintro (⟨t,t2⟩ | x) hy
          · refine M.o_grd (gA2 (by omega) (by omega)) (M.o_pure ⟨rfl,hy.1.mono (by omega),hy.2.1,hy.2.2.le hN.rng (fun v _ _=>Int.le_refl _) (fun i b _ hp=>by omega)⟩)
          · exact hy.elim
      · rintro ⟨m',s,s2⟩ ⟨rfl,hF,hle,hR⟩;dsimp only at hF hle hR;simp only [zbw];refine M.o_f (by simp; omega) (M.o_pure ⟨hF.mono (by omega),?_⟩);refine hC.next hN (by omega) ha hle ?_;refine Rlx.all (hR.le hN.rng (fun v _ _=>Int.le_refl _) (fun i b hi _=>?_));have:=((ij (k:=b) hi).ed.rng hN.rng).1;omega
    · rintro ⟨q,q2⟩ ⟨h1,h2⟩;exact M.o_grd (gA2 (by omega) (by omega)) (M.o_pure ⟨rfl,h1.mono (by omega),h2⟩)
  · rintro ⟨c,y,r'⟩ ⟨rfl,hF,hC⟩;simp only [zbs];exact M.o_f (by simp; omega) (M.o_pure ⟨hF.mono (by omega),hC⟩)
end Go.Proofs.YtaolcidinlnklaaGreat
-- libL/LP3.lean
namespace Go.Proofs.YtaolcidinlnklaaGreat
open Go Go.Nm
variable {ls:List Line} {n a:Int}
theorem rw_nat (can:List Int) (i j:Nat):rw_ can i j=can.getD (i*13+j) 0:=by unfold rw_; rw [Int.toNat_natCast,Int.toNat_natCast]
theorem worked_out (hN:NetOk n ls):(zbZ n ls).Out (fun r=>r.1=n/\Wkd ls n r.2.1 r.2.2):=by
  have hm:=hN.marks;unfold zbZ;refine M.o_bind (P:=fun c=>c.length=169/\∀ i j:Nat,(i:Int)<n->(j:Int)<n->c.getD (i*13+j) 0=if j=i then 0 else 1099511627776) ?_ ?_
  · refine M.o_for (Int.toNat n) (fun i st=>st.2=i/\st.1.length=169/\∀ i' j:Nat,i'<i->(j:Int)<n->st.1.getD (i'*13+j) 0=if j=i' then 0 else 1099511627776) ?_ ?_ (s:=(List.replicate 169 0,0)) ⟨rfl,List.length_replicate,fun i' j h=>by omega⟩
    · rintro i ⟨c,i0⟩ hi ⟨rfl,hl,hc⟩;dsimp only at hi hl hc;simp only [zcu];refine M.o_t (by simp; omega) ?_;refine M.o_bind (P:=fun d=>d.length=169/\(∀ i' j:Nat,i'<i0->(j:Int)<n->d.getD (i'*13+j) 0=if j=i' then 0 else 1099511627776)/\∀ j:Nat,(j:Int)<n->d.getD (i0*13+j) 0=1099511627776) ?_ ?_
      · refine M.o_for (Int.toNat n) (fun j st=>st.2=j/\st.1.length=169/\(∀ i' j:Nat,i'<i0->(j:Int)<n->st.1.getD (i'*13+j) 0=if j=i' then 0 else 1099511627776)/\∀ j':Nat,j'<j->st.1.getD (i0*13+j') 0=1099511627776) ?_ ?_ (s:=(c,0)) ⟨rfl,hl,hc,fun j h=>by omega⟩
        · rintro j ⟨d,j0⟩ hj ⟨rfl,hl,hd,he⟩;dsimp only at hj hl hd he;simp only [zb8];refine M.o_t (by simp; omega) (M.o_grd (gA2 (by omega) (by omega)) (M.o_grd (gA2 (by omega) (by omega)) (M.o_grd (gA2 (by omega) (by omega)) (M.o_pure ⟨rfl,by simpa using hl,fun i' j h1 h2=>?_,fun j' h1=>?_⟩))))
          · dsimp only;rw [gset _ _ _ _ _ (by omega),if_neg (by omega)];exact hd i' j h1 h2
          · dsimp only;rw [gset _ _ _ _ _ (by omega)];by_cases e:j'=j0
            · rw [e,if_pos rfl]
            · rw [if_neg (by omega)]; exact he j' (by omega)
        · rintro ⟨d,j0⟩ ⟨rfl,hl,hd,he⟩;simp only [zb8];exact M.o_f (by simp; omega) (M.o_pure ⟨hl,hd,fun j h=>he j (by omega)⟩)
      · rintro d ⟨hl,hd,he⟩;refine M.o_grd (gA2 (by omega) (by omega)) (M.o_grd (gA2 (by omega) (by omega)) (M.o_pure ⟨rfl,by simpa using hl,fun i' j h1 h2=>?_⟩));dsimp only;rw [gset _ _ _ _ _ (by omega)];by_cases e:i'=i0
        · subst e;by_cases e2:j=i'
          · subst e2; rw [if_pos rfl,if_pos rfl]
          · rw [if_neg (by omega),if_neg e2]; exact he j h2
        · rw [if_neg (by omega)]; exact hd i' j (by omega) h2
    · rintro ⟨c,i0⟩ ⟨rfl,hl,hc⟩;simp only [zcu];exact M.o_f (by simp; omega) (M.o_pure ⟨hl,fun i j h1 h2=>hc i j (by omega) h2⟩)
  · rintro c ⟨hl,hc⟩;refine M.o_bind (P:=fun r=>Wkd ls n r.1 r.2) ?_ (fun r hr=>M.o_pure ⟨rfl,hr⟩);refine M.o_for (Int.toNat n) (fun i st=>st.2.2=i/\st.1.length=169/\st.2.1.length=169/\(∀ a:Nat,a<i->Row ls n a (rw_ st.1 a) (rb_ st.2.1 a))/\∀ a j:Nat,i<=a->(a:Int)<n->(j:Int)<n->st.1.getD (a*13+j) 0=if j=a then 0 else 1099511627776) ?_ ?_ (s:=(c,List.replicate 169 default,0)) ⟨rfl,hl,List.length_replicate,fun a h=>by omega,fun a j _ h1 h2=>hc a j h1 h2⟩
    · rintro i ⟨c,y,i0⟩ hi ⟨rfl,hl,hy,hd,hc⟩;dsimp only at hi hl hy hd hc;simp only [zb3];refine M.o_t (by simp; omega) ?_;refine M.o_bind (fill_out hN (a:=(i0:Int)) (by omega) hl hy ?_) ?_
      · intro v h0 h1;have:=hc i0 v.toNat (Nat.le_refl _) (by omega) (by omega);unfold rw_;rw [Int.toNat_natCast,this];by_cases e:v=(i0:Int)
        · rw [if_pos e,if_pos (by omega)]
        · rw [if_neg e,if_neg (by omega)]
      · rintro ⟨q,q2⟩ ⟨hF,hC⟩;refine M.o_grd (gA2 (by omega) (by omega)) (M.o_pure ⟨rfl,hF.lc,hF.lb,fun a h=>?_,fun a j h1 h2 h3=>?_⟩)
        · by_cases e:a=i0
          · subst e; exact ⟨hF.bf,hC,hF.bo⟩
          · refine (hd a (by omega)).congr hN (by omega) (fun v h0 h1=>?_) (fun v h0 h1=>?_)
            · have:=(hF.oth (a*13+v.toNat) (by rw [Int.toNat_natCast]; omega)).1;unfold rw_; rw [Int.toNat_natCast]; exact this
            · have:=(hF.oth (a*13+v.toNat) (by rw [Int.toNat_natCast]; omega)).2;unfold rb_; rw [Int.toNat_natCast]; exact this
        · have:=(hF.oth (a*13+j) (by rw [Int.toNat_natCast]; omega)).1;dsimp only;rw [this];exact hc a j (by omega) h2 h3
    · rintro ⟨c,y,i0⟩ ⟨rfl,hl,hy,hd,hc⟩;simp only [zb3];refine M.o_f (by simp; omega) (M.o_pure ⟨hl,hy,fun a h0 h1=>?_⟩);have:=hd a.toNat (by omega)
      rwa [Int.toNat_of_nonneg h0] at this
theorem open_out (hN:NetOk n ls) {can:List Int} {by_:List Leg} (hW:Wkd ls n can by_):(za4 n ls can by_).Out (fun b=>b=true↔¬ Agr ls):=by
  have hm:=hN.marks;have leg:∀ (m i:Nat) (b:Bool),i<ls.length->sOf ls ⟨i,b⟩=(m:Int)->(zau n ls can m () ⟨i,b⟩).Out (fun r=>match r with | .inl _=>∀ a,0<=a->a<n->¬ Rx ls can a ⟨i,b⟩ | .inr _=>∃ a,(0<=a/\a<n)/\Rx ls can a ⟨i,b⟩):=by
    intro m i b hi hs;have hx:LegOk ls ⟨i,b⟩:=ij hi;have hr:=hx.ed.rng hN.rng;have hc:=hN.ed _ _ _ hx.ed;simp only [zau];refine M.o_bind (P:=fun y=>match y with | .inl _=>∃ a,(0<=a/\a<n)/\Rx ls can a ⟨i,b⟩ | .inr _=>∀ a,0<=a->a<n->¬ Rx ls can a ⟨i,b⟩) ?_ (fun y hy=>by rcases y with y | y <;> exact M.o_pure hy);refine M.o_for (Int.toNat n) (fun k s=>s=k/\∀ a:Nat,a<k->¬ Rx ls can a ⟨i,b⟩) ?_ ?_ (s:=0) ⟨rfl,fun a h=>by omega⟩
    · rintro k s hk ⟨rfl,hJ⟩;have e0:rw_ can s (sOf ls ⟨i,b⟩)=can.getD (s*13+m) 0:=by rw [hs]; exact rw_nat can s m
      have e1:rw_ can s (gOf ls ⟨i,b⟩)=can.getD (s*13+Int.toNat (gOf ls ⟨i,b⟩)) 0:=by unfold rw_; rw [Int.toNat_natCast]
      have hlo:=(hW.row s (by omega) (by omega)).bf.low (sOf ls ⟨i,b⟩) hr.1.1 hr.1.2;rw [e0] at hlo;simp only [zdc];refine M.o_t (by simp; omega) (M.o_grd (gA2 (by omega) (by omega)) (M.o_grd (gA2 (by omega) (by omega)) ?_));by_cases hd:can.getD (s*13+m) 0<1099511627776
      · have hd':decide (can.getD (s*13+m) 0<1099511627776)=true:=decide_eq_true hd;rw [hd'];refine M.o_bindE (a:=rOf ls ⟨i,b⟩) (M.i_opt (fun _=>rise_ends hN hx) (fun h=>by cases h)) (M.o_grd (gOr2 (by omega) (by omega)) (M.o_bindE (a:=gOf ls ⟨i,b⟩) (M.i_opt (fun _=>goal_ends hx) (fun h=>by cases h)) (M.o_grd (gOr2 (by omega) (by omega)) ?_)));by_cases h2:can.getD (s*13+m) 0+rOf ls ⟨i,b⟩<can.getD (s*13+Int.toNat (gOf ls ⟨i,b⟩)) 0
        · exact M.o_t (by rw [Bool.true_and]; exact decide_eq_true h2) (M.o_pure ⟨s,by omega,by unfold Rx; rw [e0,e1]; exact ⟨hd,h2⟩⟩)
        · refine M.o_f (by rw [Bool.true_and]; exact decide_eq_false h2) (M.o_grd (gA2 (by omega) (by omega)) (M.o_pure ⟨rfl,fun a h=>?_⟩));by_cases e:a=s
          · rw [e]; unfold Rx; rw [e0,e1]; exact fun h=>h2 h.2
          · exact hJ a (by omega)
      · have hd':decide (can.getD (s*13+m) 0<1099511627776)=false:=decide_eq_false hd;rw [hd'];refine M.o_bindE (a:=0) (M.i_opt (fun h=>by cases h) (fun _=>rfl)) (M.o_grd (by simp) (M.o_bindE (a:=0) (M.i_opt (fun h=>by cases h) (fun _=>rfl)) (M.o_grd (by simp) ?_)));refine M.o_f (by simp) (M.o_grd (gA2 (by omega) (by omega)) (M.o_pure ⟨rfl,fun a h=>?_⟩));by_cases e:a=s
        · rw [e]; unfold Rx; rw [e0]; exact fun h=>hd h.1
        · exact hJ a (by omega)
    · rintro s ⟨rfl,hJ⟩;simp only [zdc];refine M.o_f (by simp; omega) (M.o_pure fun a h0 h1=>?_);have:=hJ a.toNat (by omega)
      rwa [Int.toNat_of_nonneg h0] at this
  have no_of:(∃ x,LegOk ls x/\∃ a,(0<=a/\a<n)/\Rx ls can a x)->¬ Agr ls:=by
    rintro ⟨x,hx,a,ha,hR⟩ hA;exact hW.agr_no hN hA ha hx hR
  unfold za4;refine M.o_bind (P:=fun y=>match y with | .inl _=>¬ Agr ls | .inr _=>Agr ls) ?_ (fun y hy=>by
    rcases y with y | y
    · exact M.o_pure ⟨fun _=>hy,fun _=>rfl⟩
    · exact M.o_pure ⟨fun h=>(by cases h),fun h=>absurd hy h⟩)
  refine M.o_for (Int.toNat n) (fun m s=>s=m/\(∀ i b,i<ls.length->sOf ls ⟨i,b⟩<(m:Int)->∀ a,0<=a->a<n->¬ Rx ls can a ⟨i,b⟩)/\∀ a:Nat,a<m->¬ rw_ can a a<0) ?_ ?_ (s:=0) ⟨rfl,fun i b hi h=>by have:=((ij (k:=b) hi).ed.rng hN.rng).1; omega,fun a h=>by omega⟩
  · rintro m s hmn ⟨rfl,h1,h2⟩;simp only [zcp];refine M.o_t (by simp; omega) (M.o_bindE (a:=(s:Int)) M.i_pure ?_);refine M.o_bind (legs_out (m:=(s:Int)) (fun idx _=>∀ i b,i<ls.length->sOf ls ⟨i,b⟩=(s:Int)->2*i+b.toNat<idx->∀ a,0<=a->a<n->¬ Rx ls can a ⟨i,b⟩) (fun _=>¬ Agr ls) ?_ ?_ (s:=()) (fun i b _ _ h=>by omega)) ?_
    · intro i b _ hi hs hJ;refine M.o_mono (leg s i b hi hs) ?_;rintro (x | x) hx
      · intro i' b' hi' hs' hlt;by_cases e:2*i'+b'.toNat<2*i+b.toNat
        · exact hJ i' b' hi' hs' e
        · have hb2:b.toNat<=1:=by cases b <;> decide
          have hb3:b'.toNat<=1:=by cases b' <;> decide
          have e1:i'=i:=by omega
          subst e1;have e2:b'=b:=by
            have:b'.toNat=b.toNat:=by omega
            cases b <;> cases b' <;> simp_all
          subst e2;exact hx
      · exact no_of ⟨_,ij hi,hx⟩
    · intro i b _ hi hs hJ i' b' hi' hs' hlt;refine hJ i' b' hi' hs' ?_;have hb2:b.toNat<=1:=by cases b <;> decide
      have hb3:b'.toNat<=1:=by cases b' <;> decide
      rcases Nat.lt_or_ge (2*i'+b'.toNat) (2*i+b.toNat) with h | h
      · exact h
      · exfalso;have e1:i'=i:=by omega
        subst e1;have e2:b'=b:=by
          have:b'.toNat=b.toNat:=by omega
          cases b <;> cases b' <;> simp_all
        subst e2;exact hs hs'
    · rintro (x | x) hx
      · refine M.o_grd (gA2 (by omega) (by omega)) ?_;by_cases hd:rw_ can s s<0
        · refine M.o_t (decide_eq_true (by rw [← rw_nat]; exact hd)) (M.o_pure fun hA=>?_);have:=hW.agr_zero hN hA (a:=(s:Int)) (by omega);omega
        · refine M.o_f (decide_eq_false (by rw [← rw_nat]; exact hd)) (M.o_grd (gA2 (by omega) (by omega)) (M.o_pure ⟨rfl,fun i b hi h=>?_,fun a h=>?_⟩))
          · by_cases e:sOf ls ⟨i,b⟩<(s:Int)
            · exact h1 i b hi e
            · have hb2:b.toNat<=1:=by cases b <;> decide
              exact hx i b hi (by omega) (by omega)
          · by_cases e:a=s
            · rw [e]; exact hd
            · exact h2 a (by omega)
      · exact M.o_pure hx
  · rintro s ⟨rfl,h1,h2⟩;simp only [zcp];refine M.o_f (by simp; omega) (M.o_pure ?_);obtain ⟨f,_,hF⟩:=hW.agr_of hN (fun a h0 h3 x hx=>by
      obtain ⟨l,k⟩:=x;have hx':=hx;obtain ⟨l0,l1⟩:=hx;dsimp only at l0 l1;have e:l=((l.toNat:Nat):Int):=by omega
      rw [e] at hx' ⊢;exact h1 l.toNat k (by omega) (by have:=(hx'.ed.rng hN.rng).1; omega) a h0 h3) (fun a h0 h3=>by
      have:=h2 a.toNat (by omega)
      rwa [Int.toNat_of_nonneg h0] at this)
    exact ⟨_,hF⟩
end Go.Proofs.YtaolcidinlnklaaGreat
-- libL/LP4.lean
namespace Go.Nm
/-- A line, as it may be in a net. -/
def okLine (n:Int) (l:Line):Bool:=(((((decide (0<=l.src)&&decide (l.src<=n-1))&&(decide (0<=l.dst)&&decide (l.dst<=n-1)))&&(l.src != l.dst))&&(decide (0<=l.day)&&decide (l.day<=40000)))&&(decide (-1000000<=l.rise)&&decide (l.rise<=1000000)))&&(decide (0<=l.err)&&decide (l.err<=10000))
def chkE (n:Int) (ls:List Line):Int:=bif (!(decide (1<=n)&&decide (n<=12)))||decide (30<(ls.length:Int)) then 3 else bif !(ls.all (okLine n)) then 20 else 0
theorem okLine_iff {n:Int} {l:Line}:okLine n l=true↔((((((0<=l.src/\l.src<=n-1)/\(0<=l.dst/\l.dst<=n-1))/\l.src ≠ l.dst)/\(0<=l.day/\l.day<=40000))/\(-1000000<=l.rise/\l.rise<=1000000))/\(0<=l.err/\l.err<=10000)):=by
  unfold okLine;simp only [Bool.and_eq_true,decide_eq_true_eq,bne_iff_ne,ne_eq]
theorem chk_ok {n:Int} {ls:List Line}:chkE n ls=0↔NetOk n ls:=by
  unfold chkE;cases h1:(!(decide (1<=n)&&decide (n<=12)))||decide (30<(ls.length:Int)) with
  | true =>
    simp only [Bool.or_eq_true,Bool.not_eq_true',Bool.and_eq_false_iff,decide_eq_false_iff_not,decide_eq_true_eq] at h1;refine ⟨fun h=>by simp at h,fun h=>?_⟩;have:=h.marks;have:=h.few;omega
  | false =>
    simp only [Bool.or_eq_false_iff,Bool.not_eq_false',Bool.and_eq_true,decide_eq_false_iff_not,decide_eq_true_eq] at h1;cases h2:ls.all (okLine n) with
    | true =>
      rw [List.all_eq_true] at h2;have h3:=fun l hl=>okLine_iff.1 (h2 l hl);exact ⟨fun _=>⟨h1.1,by omega,fun l hl=>by have:=h3 l hl; omega,fun l hl=>(h3 l hl).1.1.1.2,fun l hl=>(h3 l hl).1.1.2,fun l hl=>(h3 l hl).1.2,fun l hl=>(h3 l hl).2⟩,fun _=>rfl⟩
    | false =>
      rw [List.all_eq_false] at h2;obtain ⟨l,hl,h3⟩:=h2;refine ⟨fun h=>by simp at h,fun h=>absurd (okLine_iff.2 ?_) h3⟩;have:=h.rng l hl;exact ⟨⟨⟨⟨⟨⟨this.1.1,by omega⟩,⟨this.2.1,by omega⟩⟩,h.ne l hl⟩,h.day l hl⟩,h.rise l hl⟩,h.err l hl⟩
/-- What is said of two marks. -/
structure Btw (ls:List Line) (a b:Int) (r:Int × Int × Int):Prop where
  no:¬ Agr ls->r=(0,0,7)
  far:Agr ls->¬ Tied ls a b->r=(0,0,5)
  yes:Agr ls->Tied ls a b->r.2.2=0/\IsDist ls a b r.2.1/\IsDist ls b a (-r.1)
end Go.Nm
namespace Go.Proofs.YtaolcidinlnklaaGreat
open Go Go.Nm
variable {ls:List Line} {n a:Int}
theorem in_ends (x lo hi:Int):(zar x lo hi).Ends (decide (lo<=x)&&decide (x<=hi)):=M.i_pure
theorem index_line {f:Line->M Bool} {q:Line->Bool} (h:∀ x,x∈ls->(f x).Ends (q x)):(zci ls f).Out (fun r=>decide (0<=r)=ls.any q):=by
  unfold zci;refine M.o_bind (P:=fun y=>match y with | .inl r=>decide (0<=r)=ls.any q | .inr _=>ls.any q=false) ?_ (fun y hy=>by
    rcases y with y | y
    · exact M.o_pure hy
    · exact M.o_pure (by rw [hy]; rfl))
  refine M.o_for ls.length (fun i s=>s=i/\(ls.take i).any q=false) ?_ ?_ (s:=0) ⟨rfl,by simp⟩
  · rintro i s hi ⟨rfl,hJ⟩;simp only [zbU];refine M.o_t (by simpa using hi) (M.o_grd (by simpa using hi) (M.o_bindE (h (ls.getD s default) (by rw [getD_el ls hi]; exact List.getElem_mem hi)) (M.o_if (fun hb=>?_) (fun hb=>?_))))
    · refine M.o_pure ?_;dsimp only;rw [show ls.any q=true from List.any_eq_true.2 ⟨_,by rw [getD_el ls hi]; exact List.getElem_mem hi,hb⟩];exact decide_eq_true (by omega)
    · refine M.o_pure ⟨rfl,?_⟩;rw [← take_succ_D ls s hi default,List.any_append,hJ];simp only [List.any_cons,List.any_nil,Bool.or_false,Bool.false_or];exact hb
  · rintro s ⟨rfl,hJ⟩;simp only [zbU];rw [List.take_length] at hJ;exact M.o_f (by simp) (M.o_pure hJ)
theorem every_line {so:Line->M Bool} {p:Line->Bool} (h:∀ x,x∈ls->(so x).Ends (p x)):(zde ls so).Ends (ls.all p):=by
  unfold zde zeq;obtain ⟨r,h1,h2⟩:=index_line (ls:=ls) (f:=fun x=>zbJ x so) (q:=fun x=>!(p x)) (fun x hx=>by unfold zbJ; exact M.i_bind (h x hx) M.i_pure);refine M.i_bind (M.i_bind h1 M.i_pure) ?_;rw [h2,List.any_eq_not_all_not];simp only [Bool.not_not];exact M.i_pure
theorem check_ends (n:Int) (ls:List Line):(zbE n ls).Ends (chkE n ls):=by
  unfold zbE chkE;refine M.i_bind (in_ends _ _ _) (M.i_if (fun hb=>?_) (fun hb=>?_))
  · rw [hb]; exact M.i_pure
  · rw [hb];simp only [Bool.or_eq_false_iff,Bool.not_eq_false',Bool.and_eq_true,decide_eq_false_iff_not,decide_eq_true_eq] at hb;refine M.i_bind (every_line (p:=okLine n) fun l _=>?_) (M.i_if (fun h2=>by rw [h2]; exact M.i_pure) (fun h2=>by rw [h2]; exact M.i_pure));have mk:∀ x:Int,(za5 x n ls).Ends (decide (0<=x)&&decide (x<=n-1)):=fun x=>by
      unfold za5;exact M.i_grd (gA2 (by omega) (by omega)) (M.i_bind (in_ends _ _ _) M.i_pure)
    unfold zdo;have opt:∀ {c:Bool} {m:M Bool} {b:Bool},m.Ends b->(M.opt c m false).Ends (c&&b):=fun {c m b} h=>M.i_opt (fun e=>by rw [e,Bool.true_and]; exact h) (fun e=>by rw [e]; rfl);refine M.i_bind (mk l.src) (M.i_bind (opt (mk l.dst)) (M.i_bind (opt (in_ends _ _ _)) (M.i_bind (opt (in_ends _ _ _)) (M.i_bind (opt (in_ends _ _ _)) ?_))));have e:okLine n l=_:=rfl;unfold okLine;generalize (decide (0<=l.src)&&decide (l.src<=n-1))=b1;generalize (decide (0<=l.dst)&&decide (l.dst<=n-1))=b2;generalize (l.src != l.dst)=b3;generalize (decide (0<=l.day)&&decide (l.day<=40000))=b4;generalize (decide (-1000000<=l.rise)&&decide (l.rise<=1000000))=b5;generalize (decide (0<=l.err)&&decide (l.err<=10000))=b6;cases b1 <;> cases b2 <;> cases b3 <;> cases b4 <;> cases b5 <;> cases b6 <;> exact M.i_pure
theorem opened_out (hN:NetOk n ls):(zcM n ls).Out (fun y=>∃ can by_,y = .inr (n,can,by_,0)/\Wkd ls n can by_):=by
  unfold zcM;refine M.o_bindE (check_ends n ls) ?_;rw [chk_ok.2 hN];refine M.o_f (by decide) (M.o_bind (worked_out hN) ?_);rintro ⟨r0,c,b⟩ ⟨rfl,hW⟩;exact M.o_pure ⟨c,b,rfl,hW⟩
theorem between_out (hN:NetOk n ls) {f t:Int} (hf:0<=f/\f<n) (ht:0<=t/\t<n):(zbp n ls f t).Out (Btw ls f t):=by
  have hm:=hN.marks;unfold zbp;refine M.o_bind (P:=fun y=>∃ can by_ e,y = .inr (n,can,by_,e)/\Wkd ls n can by_/\(¬ Agr ls->e=7)/\(Agr ls->e=if rw_ can f t=1099511627776 then 5 else 0)) ?_ ?_
  · unfold zdR;refine M.o_bindE (check_ends n ls) ?_;rw [chk_ok.2 hN];refine M.o_f (by decide) (M.o_grd (gA2 (by omega) (by omega)) (M.o_bindE (in_ends _ _ _) ?_));rw [show (decide (0<=f)&&decide (f<=n-1))=true from gA2 (by omega) (by omega)];refine M.o_bindE (a:=true) (M.i_opt (fun _=>by rw [← show (decide (0<=t)&&decide (t<=n-1))=true from gA2 (by omega) (by omega)]; exact in_ends _ _ _) (fun h=>by cases h)) ?_;refine M.o_f (by simp) ?_;refine M.o_bind (P:=fun y=>∃ can by_ e,y = .inr (n,can,by_,e)/\Wkd ls n can by_/\(¬ Agr ls->e=7)/\(Agr ls->e=0)) ?_ ?_
    · unfold zeC;refine M.o_bind (opened_out hN) ?_;rintro y ⟨c,b,rfl,hW⟩;dsimp only;refine M.o_bind (P:=fun r=>r=true↔¬ Agr ls) (by
        obtain ⟨r,h1,h2⟩:=open_out hN hW;exact ⟨r,M.i_opt (fun _=>h1) (fun h=>by simp at h),h2⟩) ?_
      intro r hr;cases r with
      | true=>exact M.o_t rfl (M.o_pure ⟨c,b,7,rfl,hW,fun _=>rfl,fun h=>absurd h (hr.1 rfl)⟩)
      | false=>exact M.o_f rfl (M.o_pure ⟨c,b,0,rfl,hW,fun h=>absurd (hr.2 h) (by decide),fun _=>rfl⟩)
    · rintro y ⟨c,b,e,rfl,hW,h1,h2⟩;dsimp only;refine M.o_grd (gOr2 (by omega) (by omega)) (M.o_grd (gOr2 (by omega) (by omega)) ?_);by_cases hA:Agr ls
      · have:=h2 hA;subst this;by_cases e:rw_ c f t=1099511627776
        · exact M.o_t (by unfold rw_ at e; rw [e]; rfl) (M.o_pure ⟨c,b,5,rfl,hW,fun h=>absurd hA h,fun _=>by rw [if_pos e]⟩)
        · exact M.o_f (by unfold rw_ at e; simpa using e) (M.o_pure ⟨c,b,0,rfl,hW,fun h=>absurd hA h,fun _=>by rw [if_neg e]⟩)
      · have:=h1 hA;subst this;exact M.o_f (by simp) (M.o_pure ⟨c,b,7,rfl,hW,fun _=>rfl,fun h=>absurd h hA⟩)
  · rintro y ⟨c,b,e,rfl,hW,h1,h2⟩;dsimp only;by_cases hA:Agr ls
    · have hD:=hW.done hN hA hf;have hD2:=hW.done hN hA ht;by_cases e5:rw_ c f t=1099511627776
      · have:=h2 hA;rw [if_pos e5] at this;subst this;refine M.o_t (by decide) (M.o_pure ⟨fun h=>absurd hA h,fun _ _=>rfl,fun _ hT=>?_⟩);have:=hD.tied t ht.1 ht.2 hT;omega
      · have:=h2 hA;rw [if_neg e5] at this;subst this;have hlt:=hD.far t ht.1 ht.2 e5;have d1:=hD.dist t ht.1 ht.2 hlt;have hlt2:=hD2.tied f hf.1 hf.2 d1.tied.symm;have d2:=hD2.dist f hf.1 hf.2 hlt2;have b1:=(hW.row t ht.1 ht.2).bf.low f hf.1 hf.2;unfold rw_ at hlt2 b1;refine M.o_f (by decide) (M.o_grd (gA2 (by omega) (by omega)) (M.o_grd (gA2 (by omega) (by omega)) (M.o_grd (gA2 (by omega) (by omega)) (M.o_pure ⟨fun h=>absurd hA h,fun _ h=>absurd d1.tied h,fun _ _=>⟨rfl,d1,?_⟩⟩))));dsimp only;rw [Int.neg_neg];exact d2
    · have:=h1 hA;subst this;exact M.o_t (by decide) (M.o_pure ⟨fun _=>rfl,fun h=>absurd h hA,fun h=>absurd h hA⟩)
end Go.Proofs.YtaolcidinlnklaaGreat
-- libL/LM.lean
namespace Go.Nm
def hOf (hs:List Int) (v:Int):Int:=hs.getD (Int.toNat v) 0
structure LnOk (n:Int) (hs:List Int) (l:Line):Prop where
  src:0<=l.src/\l.src<n
  dst:0<=l.dst/\l.dst<n
  ne:l.src ≠ l.dst
  day:0<=l.day/\l.day<30
  err:0<=l.err/\l.err<=8
  lo:l.rise-l.err<=hOf hs l.dst-hOf hs l.src
  hi:hOf hs l.dst-hOf hs l.src<=l.rise+l.err
structure HsOk (n:Int) (hs:List Int):Prop where
  len:(hs.length:Int)=n
  zero:hs.getD 0 0=0
  bnd:∀ v,-300<=hOf hs v/\hOf hs v<=300
/-- What a net of numbers is like. -/
structure MadeN (most n:Int) (ls:List Line) (hs:List Int):Prop where
  two:2<=n/\n<=most
  hh:HsOk n hs
  one:1<=ls.length/\ls.length<=14
  ln:∀ l,l∈ls->LnOk n hs l
theorem LnOk.rise {n:Int} {hs:List Int} {l:Line} (h:LnOk n hs l) (hh:HsOk n hs):-700<=l.rise/\l.rise<=700:=by
  have h1:=hh.bnd l.src;have h2:=hh.bnd l.dst;have:=h.err;have:=h.lo;have:=h.hi;omega
theorem net_ok {most n:Int} {ls:List Line} {hs:List Int} (hm:1<=n/\n<=12) (hh:HsOk n hs) (hl:ls.length<=30) (h:∀ l,l∈ls->LnOk n hs l):NetOk n ls :=
  ⟨hm,hl,fun l hl=>⟨(h l hl).src,(h l hl).dst⟩,fun l hl=>(h l hl).ne,fun l hl=>by have:=(h l hl).day; omega,fun l hl=>by have:=(h l hl).rise hh; omega,fun l hl=>by have:=(h l hl).err; omega⟩
theorem feas_ln {n:Int} {ls:List Line} {hs:List Int} (h:∀ l,l∈ls->LnOk n hs l):Feas ls (hOf hs):=fun l hl=>⟨(h l hl).lo,(h l hl).hi⟩
theorem MadeN.ok {most n:Int} {ls:List Line} {hs:List Int} (h:MadeN most n ls hs) (hm:most<=12):NetOk n ls:=net_ok (most:=0) (by have:=h.two; omega) h.hh (by have:=h.one; omega) h.ln
theorem MadeN.agr {most n:Int} {ls:List Line} {hs:List Int} (h:MadeN most n ls hs):Agr ls:=⟨_,feas_ln h.ln⟩
theorem modne {a j n:Int} (ha:0<=a/\a<n) (hj:1<=j/\j<n):(0<=(a+j) % n/\(a+j) % n<n)/\(a+j) % n ≠ a:=by
  have h1:=Int.emod_nonneg (a+j) (show n ≠ 0 by omega);have h2:=Int.emod_lt_of_pos (a+j) (show 0<n by omega);refine ⟨⟨h1,h2⟩,fun e=>?_⟩;by_cases h:a+j<n
  · rw [Int.emod_eq_of_lt (by omega) h] at e; omega
  · rw [← Int.sub_emod_right,Int.emod_eq_of_lt (by omega) (by omega)] at e; omega
end Go.Nm
namespace Go.Proofs.YtaolcidinlnklaaGreat
open Go Go.Nm
theorem zfT {b:List UInt8} {c u x n:Int} {hs:List Int} {a t day:Int} (h:SOk c u x) (hc:c<=100000000000) (hh:HsOk n hs) (ha:0<=a/\a<n) (ht:0<=t/\t<n) (hne:a ≠ t) (hd:0<=day/\day<30) :
    (zdp b u x hs a t day).Out (fun y=>LnOk n hs ⟨y.1,y.2.1,y.2.2.1,y.2.2.2.1,y.2.2.2.2.1⟩/\SOk (c+2) y.2.2.2.2.2.1 y.2.2.2.2.2.2):=by
  have hl:=hh.len;have b1:=hh.bnd a;have b2:=hh.bnd t;unfold hOf at b1 b2;unfold zdp;refine M.o_bind (next_out h (by omega) (by omega)) ?_;rintro ⟨r2,u1,x1⟩ ⟨ok,hlt,_⟩;dsimp only at ok hlt ⊢;have hlt:=hlt (by omega);refine M.o_grd (gA2 (by omega) (by omega)) (M.o_grd (gA2 (by omega) (by omega)) (M.o_grd (gA2 (by omega) (by omega)) (M.o_grd (gA2 (by omega) (by omega)) ?_)));refine M.o_bind (within_out ok (by omega) (by omega) (by omega) (by omega)) ?_;rintro ⟨r3,u2,x2⟩ ⟨ok2,h1,h2⟩;dsimp only at ok2 h1 h2 ⊢;refine M.o_grd (gA2 (by omega) (by omega)) (M.o_pure ⟨⟨ha,ht,hne,hd,by dsimp only; omega,?_,?_⟩,ok2.mono (by omega)⟩)
  · unfold hOf; dsimp only; omega
  · unfold hOf; dsimp only; omega
theorem made_out {b:List UInt8} {c u x most:Int} (h:SOk c u x) (hc:c<=100000000) (h2:2<=most) (h12:most<=12):(zcC b u x most).Out (fun y=>MadeN most y.1 y.2.1 y.2.2.1/\SOk (c+2000) y.2.2.2.1 y.2.2.2.2):=by
  unfold zcC;refine M.o_bind (within_out h (by omega) (by omega) h2 (by omega)) ?_;rintro ⟨n,u1,x1⟩ ⟨hs,r0,r1⟩;dsimp only at hs r0 r1 ⊢;refine M.o_bind (P:=fun y=>HsOk n y.2.2.2/\SOk (c+100) y.1 y.2.1) ?_ ?_
  · refine M.o_for (Int.toNat n-1) (fun i st=>st.2.2.length=i+1/\SOk (c+1+i) st.1 st.2.1/\st.2.2.getD 0 0=0/\∀ j:Nat,-300<=st.2.2.getD j 0/\st.2.2.getD j 0<=300) ?_ ?_ (s:=(u1,x1,[0])) ⟨rfl,hs.mono (by simp),rfl,fun j=>?_⟩
    · rintro i ⟨u,x,l⟩ hi ⟨hl,ok,hz,hb⟩;dsimp only at hl ok hz hb;simp only [zbN];refine M.o_t (decide_eq_true (by omega)) (M.o_bind (within_out ok (by omega) (by omega) (by omega) (by omega)) ?_);rintro ⟨r3,u2,x2⟩ ⟨ok2,h1,h2⟩;dsimp only at ok2 h1 h2 ⊢;refine M.o_grdD (by simp only [List.length_cons,List.length_nil]; omega) (M.o_pure ⟨by simp [hl],ok2.mono (by omega),?_,fun j=>?_⟩)
      · dsimp only;simp only [List.getD_eq_getElem?_getD] at hz ⊢;rw [List.getElem?_append_left (by omega)]; exact hz
      · dsimp only;have:=hb j;simp only [List.getD_eq_getElem?_getD] at this ⊢;by_cases e:j<l.length
        · rw [List.getElem?_append_left e]; exact this
        · rw [List.getElem?_append_right (by omega)];by_cases e2:j-l.length=0
          · rw [e2]; simp; omega
          · rw [List.getElem?_eq_none (by simp; omega)]; simp
    · rintro ⟨u,x,l⟩ ⟨hl,ok,hz,hb⟩;dsimp only at hl ok hz hb;simp only [zbN];exact M.o_f (decide_eq_false (by omega)) (M.o_pure ⟨⟨by dsimp only; omega,hz,fun v=>hb _⟩,ok.mono (by omega)⟩)
    · cases j with
      | zero=>simp
      | succ j=>simp
  · rintro ⟨u,x,l2,l3⟩ ⟨hh,ok⟩;dsimp only at hh ok ⊢;refine M.o_bind (within_out ok (by omega) (by omega) (by omega) (by omega)) ?_;rintro ⟨k,u3,x3⟩ ⟨ok3,k0,k1⟩;dsimp only at ok3 k0 k1 ⊢;refine M.o_bind (P:=fun y=>(1<=y.2.1.length/\y.2.1.length<=14)/\(∀ l,l∈y.2.1->LnOk n l3 l)/\SOk (c+2000) y.2.2.1 y.2.2.2) ?_ (fun y hy=>M.o_pure ⟨⟨⟨by dsimp only; omega,by dsimp only; omega⟩,hh,hy.1,hy.2.1⟩,hy.2.2⟩);refine M.o_for (Int.toNat k) (fun i st=>st.2.2.1=i/\st.2.2.2.length=i/\SOk (c+101+10*i) st.1 st.2.1/\∀ l,l∈st.2.2.2->LnOk n l3 l) ?_ ?_ (s:=(u3,x3,0,[])) ⟨rfl,rfl,ok3.mono (by omega),fun l hl=>by simp at hl⟩
    · rintro i ⟨u,x,j,l⟩ hi ⟨rfl,hl,ok,hj⟩;dsimp only at hi hl ok hj;simp only [zbQ];refine M.o_t (decide_eq_true (by omega)) (M.o_bind (next_out ok (by omega) (by omega)) ?_);rintro ⟨r5,u5,x5⟩ ⟨ok5,h5,_⟩;dsimp only at ok5 h5 ⊢;have h5:=h5 (by omega);refine M.o_grd (gA2 (by omega) (by omega)) (M.o_grd (gA2 (by omega) (by omega)) (M.o_bind (next_out ok5 (by omega) (by omega)) ?_));rintro ⟨r6,u6,x6⟩ ⟨ok6,h6,_⟩;dsimp only at ok6 h6 ⊢;have h6:=h6 (by omega);refine M.o_grd (gA2 (by omega) (by omega)) (M.o_grd (gA2 (by omega) (by omega)) (M.o_bind (next_out ok6 (by omega) (by omega)) ?_));rintro ⟨r7,u7,x7⟩ ⟨ok7,h7,_⟩;dsimp only at ok7 h7 ⊢;have h7:=h7 (by omega);have hm:=modne (a:=r5) (j:=1+r6) (n:=n) (by omega) (by omega);rw [← Int.add_assoc] at hm;refine M.o_bind (zfT ok7 (by omega) hh (a:=r5) (t:=(r5+1+r6) % n) (by omega) hm.1 (fun e=>hm.2 e.symm) h7) ?_;rintro ⟨y0,y1,y2,y3,y4,y5,y6⟩ ⟨hln,ok8⟩;dsimp only at hln ok8 ⊢;refine M.o_grdD (by simp only [List.length_cons,List.length_nil]; omega) (M.o_grd (gA2 (by omega) (by omega)) (M.o_pure ⟨rfl,by simp [hl],ok8.mono (by omega),fun l' hl'=>?_⟩));simp only [List.mem_append,List.mem_cons,List.not_mem_nil,or_false] at hl';rcases hl' with hl' | rfl
      · exact hj l' hl'
      · exact hln
    · rintro ⟨u,x,j,l⟩ ⟨rfl,hl,ok,hj⟩;dsimp only at hl ok hj;simp only [zbQ];exact M.o_f (decide_eq_false (by omega)) (M.o_pure ⟨by dsimp only; omega,hj,ok.mono (by omega)⟩)
end Go.Proofs.YtaolcidinlnklaaGreat
-- libL/DC5.lean
namespace Go.Nm
variable {ls ks:List Line} {a b d:Int}
theorem Tied.edge {u v c:Int} (he:Ed ls u v c):Tied ls a u↔Tied ls a v:=⟨fun t=>t.trans (.ed he),fun t=>by obtain ⟨c',hr⟩:=he.rev; exact t.trans (.ed hr)⟩
theorem Wk.map {f:Int->Int} (hE:∀ a b c,Ed ks a b c->Ed ls (f a) (f b) c) {vs:List Int} {c:Int} (w:Wk ks a vs c):Wk ls (f a) (vs.map f) c:=by
  induction w with
  | one=>exact .one
  | snoc _ he ih=>exact .snoc ih (hE _ _ _ he)
/-! ### Nets that are joined at one mark -/
section
variable {N M there joint:Int} (hN:Rng N ls) (hM:Rng M ks) (hj:0<=joint/\joint<N) (ht:0<=there/\there<M)
include hN hM hj ht
end
end Go.Nm
-- libL/LJJ.lean
namespace Go.Proofs.YtaolcidinlnklaaGreat
open Go Go.Nm
theorem btw_zero {ls:List Line} {a b:Int} {r:Int × Int × Int} (h:Btw ls a b r) (hA:Agr ls):(r.2.2=0/\Tied ls a b/\IsDist ls a b r.2.1/\IsDist ls b a (-r.1))∨(r=(0,0,5)/\¬ Tied ls a b):=by
  by_cases t:Tied ls a b
  · have:=h.yes hA t;exact .inl ⟨this.1,t,this.2⟩
  · exact .inr ⟨h.far hA t,t⟩
theorem dist_size {ls:List Line} {n a b d:Int} (hN:NetOk n ls) (hA:Agr ls) (ha:0<=a/\a<n) (h:IsDist ls a b d):-100000000<=d/\d<=100000000:=by
  obtain ⟨hh,hF⟩:=hA;obtain ⟨vs,w⟩:=h.has;obtain ⟨vs',c',w',h1,-,h2⟩:=w.few (n:=n.toNat) hF (by rw [Int.toNat_of_nonneg (by omega)]; exact hN.rng) (by omega);have h3:=h.le _ _ w';have h4:=w'.size hN.ed;have:=hN.marks;rw [List.length_cons] at h4;omega
end Go.Proofs.YtaolcidinlnklaaGreat
-- libD/GA.lean
namespace Go.Nm
theorem M.Out.ends {α:Type} {m:M α} {a:α} (h:m.Out (fun r=>r=a)):m.Ends a:=by
  obtain ⟨r,h1,rfl⟩:=h;exact h1
namespace Fl
/-- The greatest whole number whose square is at most a number. -/
def rtN:Nat->Nat
  | 0=>0
  | n+1=>if (rtN n+1)*(rtN n+1)<=n+1 then rtN n+1 else rtN n
theorem rtN_spec:∀ n,rtN n*rtN n<=n/\n<(rtN n+1)*(rtN n+1)
  | 0=>by decide
  | n + 1 => by
    obtain ⟨h1,h2⟩:=rtN_spec n;unfold rtN;split
    · rename_i h
      refine ⟨h,?_⟩;have:(rtN n+1+1)*(rtN n+1+1)=(rtN n+1)*(rtN n+1)+2*(rtN n+1)+1:=by
        simp only [Nat.add_mul,Nat.mul_add,Nat.mul_one,Nat.one_mul]; omega
      omega
    · rename_i h
      exact ⟨by omega,by omega⟩
def rt (n:Int):Int:=rtN n.toNat
theorem rt_nn (n:Int):0<=rt n:=Int.natCast_nonneg _
theorem rt_le {n:Int} (h:0<=n):rt n*rt n<=n:=by
  have:=(rtN_spec n.toNat).1;unfold rt;have h2:((rtN n.toNat*rtN n.toNat:Nat):Int)<=(n.toNat:Int):=Int.ofNat_le.2 this;rw [Int.natCast_mul] at h2;omega
theorem rt_lt {n:Int} (h:0<=n):n<(rt n+1)*(rt n+1):=by
  have:=(rtN_spec n.toNat).2;unfold rt;have h2:(n.toNat:Int)<(((rtN n.toNat+1)*(rtN n.toNat+1):Nat):Int):=Int.ofNat_lt.2 this;rw [Int.natCast_mul,Int.natCast_add] at h2;simp only [Int.ofNat_eq_natCast,Int.cast_ofNat_Int,Int.natCast_one] at h2;omega
theorem sq_mono {a b:Int} (h0:0<=a) (h:a<=b):a*a<=b*b:=Int.mul_le_mul h h h0 (by omega)
theorem rt_uniq {n x:Int} (h0:0<=x) (h1:x*x<=n) (h2:n<(x+1)*(x+1)):rt n=x:=by
  have hn:0<=n:=Int.le_trans (Int.mul_nonneg h0 h0) h1;have a:=rt_le hn;have b:=rt_lt hn;have c:=rt_nn n;rcases Int.lt_trichotomy (rt n) x with e | e | e
  · have:=sq_mono (by omega:0<=rt n+1) (by omega:rt n+1<=x);omega
  · exact e
  · have:=sq_mono (by omega:0<=x+1) (by omega:x+1<=rt n);omega
theorem rt_mono {a b:Int} (h0:0<=a) (h:a<=b):rt a<=rt b:=by
  rcases Int.lt_or_le (rt b) (rt a) with e | e
  · have h1:=rt_le h0;have h2:=rt_lt (by omega:0<=b);have:=sq_mono (by have:=rt_nn b; omega:0<=rt b+1) (by omega:rt b+1<=rt a);omega
  · exact e
theorem div_mono {a b d e:Int} (ha:0<=a) (h:a<=b) (he:0<e) (hd:e<=d):a / d<=b / e:=by
  refine Int.le_ediv_of_mul_le he ?_;have h1:0<=a / d:=Int.ediv_nonneg ha (by omega);have h2:a / d*e<=a / d*d:=Int.mul_le_mul_of_nonneg_left hd h1;have h3:a / d*d<=a:=Int.ediv_mul_le a (by omega);omega
/-- Rows whose stages rise and whose numbers do not fall. -/
def Rows:List FRow->Prop
  | []=>True
  | [a]=>0<=a.stage/\a.stage<=2000/\0<=a.carry/\a.carry<=100000
  | a :: b :: r=>0<=a.stage/\a.stage<b.stage/\0<=a.carry/\a.carry<=b.carry/\Rows (b :: r)
theorem Rows.head {a:FRow} {r:List FRow} (h:Rows (a :: r)):0<=a.stage/\a.stage<=2000/\0<=a.carry/\a.carry<=100000:=by
  induction r generalizing a with
  | nil=>exact h
  | cons b r ih =>
    obtain ⟨h1,h2,h3,h4,h5⟩:=h;have:=ih h5;omega
/-- What is carried between two rows. -/
def ip (a b:FRow) (s:Int):Int:=a.carry+(b.carry-a.carry)*(s-a.stage) / (b.stage-a.stage)
def go:FRow->List FRow->Int->Int
  | a,[],_=>a.carry
  | a,b :: r,s=>if s<b.stage then ip a b s else go b r s
def car:List FRow->Int->Int
  | [],_=>0
  | a :: r,s=>if s<a.stage then 0 else go a r s
theorem ip_mono {a b:FRow} {s t:Int} (h0:a.stage<=s) (h:s<=t) (h1:t<=b.stage) (hs:a.stage<b.stage) (hc:a.carry<=b.carry):a.carry<=ip a b s/\ip a b s<=ip a b t/\ip a b t<=b.carry:=by
  unfold ip;have n1:0<=(b.carry-a.carry)*(s-a.stage):=Int.mul_nonneg (by omega) (by omega);have n2:(b.carry-a.carry)*(s-a.stage)<=(b.carry-a.carry)*(t-a.stage):=Int.mul_le_mul_of_nonneg_left (by omega) (by omega);have n3:(b.carry-a.carry)*(t-a.stage)<=(b.carry-a.carry)*(b.stage-a.stage):=Int.mul_le_mul_of_nonneg_left (by omega) (by omega);have d1:0<=(b.carry-a.carry)*(s-a.stage) / (b.stage-a.stage):=Int.ediv_nonneg n1 (by omega);have d2:=div_mono n1 n2 (by omega:0<b.stage-a.stage) (Int.le_refl _);have d3:=div_mono (Int.le_trans n1 n2) n3 (by omega:0<b.stage-a.stage) (Int.le_refl _);rw [Int.mul_ediv_cancel _ (by omega:b.stage-a.stage ≠ 0)] at d3;omega
theorem go_mono {r:List FRow} {a:FRow} (h:Rows (a :: r)) {s t:Int} (h0:a.stage<=s) (hst:s<=t):a.carry<=go a r s/\go a r s<=go a r t/\go a r t<=100000:=by
  induction r generalizing a s with
  | nil=>have:=h.head; exact ⟨Int.le_refl _,Int.le_refl _,this.2.2.2⟩
  | cons b r ih =>
    have hh:=h;obtain ⟨h1,h2,h3,h4,h5⟩:=h;have hb:=h5.head;unfold go;by_cases e:s<b.stage
    · rw [if_pos e];by_cases e':t<b.stage
      · rw [if_pos e'];have:=ip_mono (a:=a) (b:=b) h0 hst (by omega) h2 h4;omega
      · rw [if_neg e'];have k1:=ip_mono (a:=a) (b:=b) h0 (Int.le_refl s) (by omega) h2 h4;have k2:=ih h5 (s:=t) (by omega) (Int.le_refl t);omega
    · rw [if_neg e,if_neg (by omega)];have:=ih h5 (s:=s) (by omega) hst;omega
theorem car_mono {rows:List FRow} (h:Rows rows) {s t:Int} (hst:s<=t):0<=car rows s/\car rows s<=car rows t/\car rows t<=100000:=by
  cases rows with
  | nil=>exact ⟨Int.le_refl _,Int.le_refl _,show (0:Int)<=100000 by omega⟩
  | cons a r =>
    have hh:=h.head;have hc:∀ s,car (a :: r) s=if s<a.stage then 0 else go a r s:=fun _=>rfl
    rw [hc,hc];by_cases e:s<a.stage
    · rw [if_pos e];by_cases e':t<a.stage
      · rw [if_pos e']; omega
      · rw [if_neg e'];have:=go_mono h (s:=t) (by omega) (Int.le_refl t);omega
    · rw [if_neg e,if_neg (by omega)];have:=go_mono h (s:=s) (by omega) hst;omega
end Fl
end Go.Nm
-- libD/GB.lean
namespace Go.Nm
namespace Fl
theorem Rows.pw:∀ {l:List FRow},Rows l->l.Pairwise (fun a b=>a.stage<b.stage)
  | [],_=>List.Pairwise.nil
  | [a],_=>List.pairwise_singleton _ _
  | a :: b :: r,h=>by
    obtain ⟨h1,h2,h3,h4,h5⟩:=h;have ih:=h5.pw;refine List.Pairwise.cons (fun x hx=>?_) ih;rcases List.mem_cons.1 hx with rfl | hx
    · exact h2
    · have:=(List.pairwise_cons.1 ih).1 x hx;omega
theorem Rows.lt {l:List FRow} (h:Rows l) {i j:Nat} (hij:i<j) (hj:j<l.length):(l.getD i default).stage<(l.getD j default).stage:=by
  rw [getD_el l (by omega),getD_el l hj];exact (List.pairwise_iff_getElem.1 h.pw) i j (by omega) hj hij
theorem Rows.el:∀ {l:List FRow},Rows l->∀ j,j<l.length->0<=(l.getD j default).stage/\(l.getD j default).stage<=2000/\0<=(l.getD j default).carry/\(l.getD j default).carry<=100000
  | [],_,j,hj=>by simp at hj
  | a :: r,h,0,_=>h.head
  | [a],_,j+1,hj=>by simp at hj
  | a :: b :: r,h,j+1,hj=>h.2.2.2.2.el j (by simp at hj ⊢; omega)
theorem Rows.cm:∀ {l:List FRow},Rows l->∀ j,j+1<l.length->(l.getD j default).carry<=(l.getD (j+1) default).carry
  | [],_,j,hj=>by simp at hj
  | [a],_,j,hj=>by simp at hj
  | a :: b :: r,h,0,_=>h.2.2.2.1
  | a :: b :: r,h,j+1,hj=>h.2.2.2.2.cm j (by simp at hj ⊢; omega)
theorem go_btw:∀ (r:List FRow) (a:FRow),Rows (a :: r)->∀ (k:Nat) (s:Int),k+1<(a :: r).length->((a :: r).getD k default).stage<=s->s<((a :: r).getD (k+1) default).stage →
    go a r s=ip ((a :: r).getD k default) ((a :: r).getD (k+1) default) s
  | [],_,_,k,_,hk,_,_=>by simp at hk
  | b :: r,a,h,0,s,_,h1,h2=>by
    exact if_pos (show s<b.stage from h2)
  | b :: r,a,h,k+1,s,hk,h1,h2=>by
    have hb:b.stage<=s:=by
      cases k with
      | zero=>exact h1
      | succ k =>
        have:=Rows.lt h (i:=1) (j:=k+2) (by omega) (by simp at hk ⊢; omega);have e:((a :: b :: r).getD 1 default).stage=b.stage:=rfl;have e2:((a :: b :: r).getD (k+2) default).stage<=s:=h1;omega
    show (if s<b.stage then ip a b s else go b r s)=_;rw [if_neg (by omega)];exact go_btw r b h.2.2.2.2 k s (by simp at hk ⊢; omega) h1 h2
theorem go_last:∀ (r:List FRow) (a:FRow),Rows (a :: r)->∀ (s:Int),((a :: r).getD r.length default).stage<=s->go a r s=((a :: r).getD r.length default).carry
  | [],_,_,_,_=>rfl
  | b :: r,a,h,s,h1=>by
    have hb:b.stage<=s:=by
      cases r with
      | nil=>exact h1
      | cons c r =>
        have:=Rows.lt h (i:=1) (j:=r.length+2) (by omega) (by simp);have e:((a :: b :: c :: r).getD 1 default).stage=b.stage:=rfl;have e2:((a :: b :: c :: r).getD (r.length+2) default).stage<=s:=h1;omega
    show (if s<b.stage then ip a b s else go b r s)=_;rw [if_neg (by omega)];exact go_last r b h.2.2.2.2 s h1
theorem car_zero {l:List FRow} {s:Int} (h:l ≠ []) (h1:s<(l.getD 0 default).stage):car l s=0:=by
  cases l with
  | nil=>exact absurd rfl h
  | cons a r=>exact if_pos h1
theorem car_btw {l:List FRow} (h:Rows l) {k:Nat} {s:Int} (hk:k+1<l.length) (h1:(l.getD k default).stage<=s) (h2:s<(l.getD (k+1) default).stage):car l s=ip (l.getD k default) (l.getD (k+1) default) s:=by
  cases l with
  | nil=>simp at hk
  | cons a r =>
    have h0:a.stage<=s:=by
      cases k with
      | zero=>exact h1
      | succ k =>
        have:=Rows.lt h (i:=0) (j:=k+1) (by omega) (by omega);have e:((a :: r).getD 0 default).stage=a.stage:=rfl;omega
    exact (if_neg (by omega)).trans (go_btw r a h k s hk h1 h2)
theorem car_last {l:List FRow} (h:Rows l) {k:Nat} {s:Int} (hk:k+1=l.length) (h1:(l.getD k default).stage<=s):car l s=(l.getD k default).carry:=by
  cases l with
  | nil=>simp at hk
  | cons a r =>
    have hk':k=r.length:=by simp at hk; omega
    subst hk';have h0:a.stage<=s:=by
      rcases Nat.eq_zero_or_pos r.length with e | e
      · rw [e] at h1; exact h1
      · have:=Rows.lt h (i:=0) (j:=r.length) e (by simp);have e:((a :: r).getD 0 default).stage=a.stage:=rfl;omega
    exact (if_neg (by omega)).trans (go_last r a h s h1)
theorem car_met {l:List FRow} (h:Rows l) {k:Nat} {s:Int} (hk:k<l.length) (h1:(l.getD k default).stage=s):car l s=(l.getD k default).carry:=by
  by_cases e:k+1<l.length
  · have:=Rows.lt h (i:=k) (j:=k+1) (by omega) e;rw [car_btw h e (by omega) (by omega)];unfold ip;rw [h1,Int.sub_self,Int.mul_zero,Int.zero_ediv,Int.add_zero]
  · exact car_last h (by omega) (by omega)
end Fl
end Go.Nm
namespace Go.Proofs.YtaolcidinlnklaaGreat
open Go Go.Nm
theorem root_ends {n:Int} (h0:0<=n) (h1:n<4611686018427387904):(zc0 n).Ends (Fl.rt n):=by
  unfold zc0;refine M.i_bind (M.Out.ends ?_) M.i_pure;refine M.o_iter (fun m (s:Int × Int)=>0<=s.1/\s.1<=s.2/\s.2<=2147483648/\m=(s.2-s.1).toNat/\s.1*s.1<=n/\n<(s.2+1)*(s.2+1)) ?_ _ (0,2147483648) ⟨by decide,by decide,by decide,rfl,by simpa using h0,Int.lt_trans h1 (by decide)⟩;rintro m ⟨l,h⟩ ⟨a,b,c,rfl,e,f⟩;dsimp only at a b c e f ⊢;simp only [zeA];refine M.o_if (fun hb=>?_) (fun hb=>?_)
  · have hb:=of_decide_eq_true hb;have q1:l<l+(h-l+1) / 2:=by omega
    have q2:l+(h-l+1) / 2<=h:=by omega
    refine M.o_grd (gA2 (by omega) (by omega)) (M.o_grd (gA2 (by omega) (by omega)) (M.o_grd (gA3 (by omega) (by omega) (by decide)) ?_));generalize l+(h-l+1) / 2=q at q1 q2 ⊢;have s1:0<=q*q:=Int.mul_nonneg (by omega) (by omega);have s2:q*q<=2147483648*2147483648:=Fl.sq_mono (by omega) (by omega);refine M.o_grd (gA2 (by omega) (by omega)) (M.o_grd (gA2 (by omega) (by omega)) (M.o_if (fun hc=>?_) (fun hc=>?_)))
    · have hc:=of_decide_eq_true hc;exact M.o_pure ⟨(h-q).toNat,by omega,by dsimp only; omega,by dsimp only; omega,by dsimp only; omega,rfl,hc,f⟩
    · have hc:=of_decide_eq_false hc;refine M.o_grd (gA2 (by omega) (by omega)) (M.o_pure ⟨(q-1-l).toNat,by omega,by dsimp only; omega,by dsimp only; omega,by dsimp only; omega,rfl,e,?_⟩);dsimp only;rw [show q-1+1=q by omega];omega
  · have hb:=of_decide_eq_false hb;obtain rfl:l=h:=by omega
    exact M.o_pure (Fl.rt_uniq a e f).symm
theorem cmp_ends (x y:Int):(m_cmp_Compare_int x y).Ends (if x<y then -1 else if y<x then 1 else 0):=by
  unfold m_cmp_Compare_int m_cmp_isNaN_int;refine M.i_bind (a:=false) (by rw [show false=(x != x) by simp]; exact M.i_pure) (M.i_bind (a:=false) (by rw [show false=(y != y) by simp]; exact M.i_pure) (M.i_f rfl (M.i_f rfl ?_)));by_cases h:x<y
  · rw [if_pos h];exact M.i_t (decide_eq_true h) M.i_pure
  · rw [if_neg h];refine M.i_f (decide_eq_false h) ?_;by_cases h':y<x
    · rw [if_pos h'];exact M.i_t (decide_eq_true h') M.i_pure
    · rw [if_neg h'];exact M.i_f (decide_eq_false h') M.i_pure
theorem cmp1_ends (r:FRow) (s:Int):(zbo r s).Ends (if r.stage<s then -1 else if s<r.stage then 1 else 0):=by
  unfold zbo;exact M.i_bind (cmp_ends _ _) M.i_pure
theorem bs_out {rows:List FRow} (hr:Fl.Rows rows) (hl:rows.length<=1000) (s:Int):(zcy rows s).Out (fun x=>∃ k:Nat,x.1=k/\k<=rows.length ∧
    (∀ j,j<k->(rows.getD j default).stage<s)/\(∀ j,k<=j->j<rows.length->s<=(rows.getD j default).stage)/\(x.2=true->k<rows.length/\(rows.getD k default).stage=s)/\(x.2=false->k<rows.length->s<(rows.getD k default).stage)):=by
  unfold zcy;refine M.o_bind (P:=fun (i:Int)=>∃ k:Nat,i=(k:Int)/\k<=rows.length/\(∀ j,j<k->(rows.getD j default).stage<s)/\(∀ j,k<=j->j<rows.length->s<=(rows.getD j default).stage)) ?_ ?_
  · refine M.o_iter (fun m (x:Int × Int)=>∃ i j:Nat,x=((i:Int),(j:Int))/\i<=j/\j<=rows.length/\m=j-i/\(∀ q,q<i->(rows.getD q default).stage<s)/\(∀ q,j<=q->q<rows.length->s<=(rows.getD q default).stage)) ?_ _ (0,(rows.length:Int)) ⟨0,rows.length,rfl,Nat.zero_le _,Nat.le_refl _,rfl,fun q hq=>by omega,fun q h1 h2=>by omega⟩;rintro m _ ⟨i,j,rfl,hij,hj,rfl,lo,hi⟩;simp only [zea];refine M.o_if (fun hb=>?_) (fun hb=>?_)
    · have hb:=of_decide_eq_true hb;have e:((i:Int)+(j:Int)) / 2=(((i+j) / 2:Nat):Int):=by omega
      have k1:i<=(i+j) / 2:=by omega
      have k2:(i+j) / 2<j:=by omega
      rw [e];generalize (i+j) / 2=k at k1 k2 ⊢;refine M.o_grd (gA2 (by omega) (by omega)) (M.o_grd (gA2 (by omega) (by omega)) (M.o_grd (gA2 (by omega) (by omega)) (M.o_grd (gA2 (by omega) (by omega)) (M.o_bindE (cmp1_ends _ s) ?_))));rw [Int.toNat_natCast];by_cases hs:(rows.getD k default).stage<s
      · rw [if_pos hs];refine M.o_t rfl (M.o_pure ⟨j-(k+1),by omega,k+1,j,rfl,by omega,hj,rfl,fun q hq=>?_,hi⟩);rcases Nat.lt_or_eq_of_le (Nat.le_of_lt_succ hq) with e | rfl
        · have:=hr.lt e (by omega);omega
        · exact hs
      · rw [if_neg hs];refine M.o_f (by split <;> decide) (M.o_pure ⟨k-i,by omega,i,k,rfl,k1,by omega,rfl,lo,fun q h1 h2=>?_⟩);rcases Nat.lt_or_eq_of_le h1 with e | rfl
        · have:=hr.lt e h2;omega
        · omega
    · have hb:=of_decide_eq_false hb;exact M.o_pure ⟨i,rfl,by omega,lo,fun q h1 h2=>hi q (by omega) h2⟩
  · rintro _ ⟨k,rfl,hk,lo,hi⟩;by_cases hl':k<rows.length
    · have hd:decide ((k:Int)<(rows.length:Int))=true:=decide_eq_true (by omega);refine M.o_grd (gOr2 (by omega) (by omega)) (M.o_bindE (M.i_opt (fun _=>cmp1_ends _ s) (fun h=>by rw [hd] at h; cases h)) (M.o_pure ⟨k,rfl,hk,lo,hi,fun h=>?_,fun h _=>?_⟩))
      · dsimp only at h;rw [hd,Bool.true_and,Int.toNat_natCast,beq_iff_eq] at h;have:=hi k (Nat.le_refl _) hl';refine ⟨hl',?_⟩;split at h
        · cases h
        · split at h
          · cases h
          · omega
      · dsimp only at h;rw [hd,Bool.true_and,Int.toNat_natCast,beq_eq_false_iff_ne] at h;have:=hi k (Nat.le_refl _) hl';split at h
        · omega
        · split at h
          · assumption
          · exact absurd rfl h
    · have hd:decide ((k:Int)<(rows.length:Int))=false:=decide_eq_false (by omega);refine M.o_grd (by rw [hd]; rfl) (M.o_bindE (M.i_opt (fun h=>by rw [hd] at h; cases h) (fun _=>rfl)) (M.o_pure ⟨k,rfl,hk,lo,hi,fun h=>?_,fun _ h=>absurd h hl'⟩));dsimp only at h;rw [hd] at h;cases h
theorem carry_ends {S:List Sect} {M':List Mrk} {R':List Rch} {i s:Int} (h0:0<=i) (h1:i<S.length) (hr:Fl.Rows (S.getD (Int.toNat i) default).rows) (hn:(S.getD (Int.toNat i) default).rows ≠ []) (hl:(S.getD (Int.toNat i) default).rows.length<=1000) (hs:-2000000<=s/\s<=2000000) :
    (zaa S M' R' ⟨i,s⟩).Ends (Fl.car (S.getD (Int.toNat i) default).rows s):=by
  refine M.Out.ends ?_;unfold zaa;dsimp only;generalize hrr:(S.getD (Int.toNat i) default).rows=rows at hr hn hl ⊢;refine M.o_grd (gA2 h0 h1) (M.o_bind (bs_out hr hl s) ?_);rintro ⟨_,met⟩ ⟨k,rfl,hk,lo,hi,m1,m2⟩;dsimp only at m1 m2 ⊢;have hpos:0<rows.length:=List.length_pos_iff.2 hn;refine M.o_if (fun hm=>?_) (fun hm=>?_)
  · obtain ⟨k1,k2⟩:=m1 hm;refine M.o_grd (gA2 (by omega) (by omega)) (M.o_pure ?_);rw [Int.toNat_natCast,Fl.car_met hr k1 k2]
  refine M.o_if (fun he=>?_) (fun he=>?_)
  · rw [beq_iff_eq] at he;have hk':k=rows.length:=by omega
    have e:Int.toNat ((k:Int)-1)=k-1:=by omega
    refine M.o_grd (gA2 (by omega) (by omega)) (M.o_grd (gA2 (by omega) (by omega)) (M.o_pure ?_));rw [e];exact (Fl.car_last hr (k:=k-1) (by omega) (by have:=lo (k-1) (by omega); omega)).symm
  · rw [beq_eq_false_iff_ne] at he;have hk':k<rows.length:=by omega
    have hgt:=m2 hm hk';refine M.o_if (fun hp=>?_) (fun hp=>?_)
    · have hp:=of_decide_eq_true hp;obtain ⟨q,rfl⟩:∃ q,k=q+1:=⟨k-1,by omega⟩
      have e:Int.toNat (((q+1:Nat):Int)-1)=q:=by omega
      have hlo:=lo q (by omega);rw [e,Int.toNat_natCast,Fl.car_btw hr hk' (by omega) hgt];have ea:=hr.el q (by omega);have eb:=hr.el (q+1) hk';have ec:=hr.cm q hk';have es:=hr.lt (i:=q) (j:=q+1) (by omega) hk';generalize rows.getD q default=a at ea ec es hlo ⊢;generalize rows.getD (q+1) default=b at eb ec es hgt ⊢;have n1:0<=(b.carry-a.carry)*(s-a.stage):=Int.mul_nonneg (by omega) (by omega);have n2:(b.carry-a.carry)*(s-a.stage)<=100000*2000:=Int.mul_le_mul (by omega) (by omega) (by omega) (by omega);have k1:=Fl.ip_mono (a:=a) (b:=b) (s:=s) (t:=s) (by omega) (Int.le_refl _) (by omega) es ec;unfold Fl.ip at k1 ⊢;exact M.o_grd (gA2 (by omega) (by omega)) (M.o_grd (gA2 (by omega) (by omega)) (M.o_grd (gA2 (by omega) (by omega)) (M.o_grd (gA2 (by omega) (by omega)) (M.o_grd (gA2 (by omega) (by omega)) (M.o_grd (gA2 (by omega) (by omega)) (M.o_grd (gA2 (by omega) (by omega)) (M.o_grd (gA3 (by omega) (by omega) (by omega)) (M.o_grd (gA2 (by omega) (by omega)) (M.o_pure rfl)))))))))
    · have hp:=of_decide_eq_false hp;obtain rfl:k=0:=by omega
      exact M.o_pure (Fl.car_zero hn hgt).symm
end Go.Proofs.YtaolcidinlnklaaGreat
-- libD/GC.lean
namespace Go.Nm
namespace Fl
/-- Sections that are right. -/
structure Secs (S:List Sect):Prop where
  n:2<=S.length/\S.length<=6
  rows:∀ i,i<S.length->Rows (S.getD i default).rows/\2<=(S.getD i default).rows.length/\(S.getD i default).rows.length<=8
  place:∀ i,i<S.length->0<=(S.getD i default).place/\(S.getD i default).place<=10000
  up:∀ i j,i<j->j<S.length->(S.getD i default).place<(S.getD j default).place
structure Rok (S:List Sect) (r:Rch):Prop where
  u0:0<=r.up
  ud:r.up<r.down
  d1:r.down<S.length
  l1:1<=r.lo
  lh:r.lo<=r.hi
  h4:r.hi<=400
structure Mok (m:Mrk):Prop where
  p0:0<=m.place
  p1:m.place<=10000
  l0:0<=m.lo
  lh:m.lo<=m.hi
  h2:m.hi<=2000
structure Site (S:List Sect) (M:List Mrk) (R:List Rch):Prop where
  s:Secs S
  m:1<=M.length/\M.length<=16
  r:1<=R.length/\R.length<=6
  mks:∀ x∈M,Mok x
  rks:∀ x∈R,Rok S x
/-- The flow of a case. -/
def fl (S:List Sect) (r:Rch) (c:Cas):Int :=
  let a:=car (S.getD (Int.toNat r.up) default).rows c.up
  let b:=car (S.getD (Int.toNat r.down) default).rows c.down
  rt (10000*(bif r.narrow then b else a)*b*(c.up-c.down) / ((bif r.narrow then c.roughdown else c.roughup)*c.roughdown*((S.getD (Int.toNat r.down) default).place-(S.getD (Int.toNat r.up) default).place)))
/-- A case that lies in bounds. -/
structure Cok (c:Cas):Prop where
  d0:0<=c.down
  du:c.down<=c.up
  u2:c.up<=2000
  r1:1<=c.roughup
  r2:1<=c.roughdown
  r3:c.roughup<=400
  r4:c.roughdown<=400
theorem num_bd {a b d:Int} (ha:0<=a/\a<=100000) (hb:0<=b/\b<=100000) (hd:0<=d/\d<=2000) :
    0<=10000*a*b/\10000*a*b<=100000000000000/\0<=10000*a*b*d/\10000*a*b*d<=200000000000000000:=by
  have h1:0<=10000*a*b:=Int.mul_nonneg (by omega) hb.1;have h2:10000*a*b<=1000000000*100000:=Int.mul_le_mul (by omega) hb.2 hb.1 (by omega);have h3:0<=10000*a*b*d:=Int.mul_nonneg h1 hd.1;have h4:10000*a*b*d<=100000000000000*2000:=Int.mul_le_mul (by omega) hd.2 hd.1 (by omega);omega
theorem den_bd {a b d:Int} (ha:1<=a/\a<=400) (hb:1<=b/\b<=400) (hd:1<=d/\d<=10000):1<=a*b/\a*b<=160000/\1<=a*b*d/\a*b*d<=1600000000:=by
  have h1:1*1<=a*b:=Int.mul_le_mul ha.1 hb.1 (by omega) (by omega);have h2:a*b<=400*400:=Int.mul_le_mul ha.2 hb.2 (by omega) (by omega);have h3:1*1<=a*b*d:=Int.mul_le_mul (by omega) hd.1 (by omega) (by omega);have h4:a*b*d<=160000*10000:=Int.mul_le_mul (by omega) hd.2 (by omega) (by omega);omega
section
variable {S:List Sect} {r:Rch}
theorem Rok.iu (h:Rok S r):Int.toNat r.up<S.length:=by have:=h.u0; have:=h.ud; have:=h.d1; omega
theorem Rok.id (h:Rok S r):Int.toNat r.down<S.length:=by have:=h.u0; have:=h.ud; have:=h.d1; omega
theorem far (hS:Secs S) (h:Rok S r):1<=(S.getD (Int.toNat r.down) default).place-(S.getD (Int.toNat r.up) default).place/\(S.getD (Int.toNat r.down) default).place-(S.getD (Int.toNat r.up) default).place<=10000:=by
  have h1:=hS.up (Int.toNat r.up) (Int.toNat r.down) (by have:=h.u0; have:=h.ud; omega) h.id;have h2:=hS.place _ h.id;have h3:=hS.place _ h.iu;omega
theorem carU (hS:Secs S) (h:Rok S r) (s:Int):0<=car (S.getD (Int.toNat r.up) default).rows s/\car (S.getD (Int.toNat r.up) default).rows s<=100000:=by
  have:=car_mono (hS.rows _ h.iu).1 (Int.le_refl s);omega
theorem carD (hS:Secs S) (h:Rok S r) (s:Int):0<=car (S.getD (Int.toNat r.down) default).rows s/\car (S.getD (Int.toNat r.down) default).rows s<=100000:=by
  have:=car_mono (hS.rows _ h.id).1 (Int.le_refl s);omega
theorem fl_nn (c:Cas):0<=fl S r c:=rt_nn _
/-- A flow rises with the upper stage, and falls with both roughnesses. -/
theorem fl_mono (hS:Secs S) (h:Rok S r) {c e:Cas} (hc:Cok c) (he:Cok e) (hd:c.down=e.down) (hu:c.up<=e.up) (h1:e.roughup<=c.roughup) (h2:e.roughdown<=c.roughdown):fl S r c<=fl S r e:=by
  have k1:=car_mono (hS.rows _ h.iu).1 hu;have k2:=carD hS h c.down;have k3:=far hS h;have q1:=hc.du;have q2:=he.u2;have q3:=hc.d0;have q4:=he.r1;have q5:=he.r2;have q6:=hc.r3;have q7:=hc.r4;unfold fl;dsimp only;rw [← hd];generalize car (S.getD (Int.toNat r.up) default).rows c.up=a at k1 ⊢;generalize car (S.getD (Int.toNat r.up) default).rows e.up=a' at k1 ⊢;generalize car (S.getD (Int.toNat r.down) default).rows c.down=b at k2 ⊢;generalize (S.getD (Int.toNat r.down) default).place-(S.getD (Int.toNat r.up) default).place=f at k3 ⊢;cases r.narrow with
  | true =>
    dsimp only [cond];have n:=num_bd k2 k2 (d:=c.up-c.down) (by omega);have n':=num_bd k2 k2 (d:=e.up-c.down) (by omega);have le:10000*b*b*(c.up-c.down)<=10000*b*b*(e.up-c.down):=Int.mul_le_mul_of_nonneg_left (by omega) n.1;have d:=den_bd (a:=e.roughdown) (b:=e.roughdown) (d:=f) (by omega) (by omega) k3;have dl:e.roughdown*e.roughdown*f<=c.roughdown*c.roughdown*f:=Int.mul_le_mul_of_nonneg_right (sq_mono (by omega) h2) (by omega);exact rt_mono (Int.ediv_nonneg n.2.2.1 (by omega)) (div_mono n.2.2.1 le (by omega) dl)
  | false =>
    dsimp only [cond];have n:=num_bd (a:=a) (b:=b) (by omega) k2 (d:=c.up-c.down) (by omega);have n':=num_bd (a:=a') (b:=b) (by omega) k2 (d:=e.up-c.down) (by omega);have l1:10000*a*b<=10000*a'*b:=Int.mul_le_mul_of_nonneg_right (by omega) k2.1;have le:10000*a*b*(c.up-c.down)<=10000*a'*b*(e.up-c.down):=Int.mul_le_mul l1 (by omega) (by omega) n'.1;have d:=den_bd (a:=e.roughup) (b:=e.roughdown) (d:=f) (by omega) (by omega) k3;have l2:e.roughup*e.roughdown<=c.roughup*c.roughdown:=Int.mul_le_mul h1 h2 (by omega) (by omega);have dl:e.roughup*e.roughdown*f<=c.roughup*c.roughdown*f:=Int.mul_le_mul_of_nonneg_right l2 (by omega);exact rt_mono (Int.ediv_nonneg n.2.2.1 (by omega)) (div_mono n.2.2.1 le (by omega) dl)
end
def stLo (M:List Mrk) (ms:List Int) (p:Int):Int:=ms.foldl (fun a k=>if p<=(M.getD (Int.toNat k) default).place then max a (M.getD (Int.toNat k) default).lo else a) 0
def stHi (M:List Mrk) (ms:List Int) (p:Int):Int:=ms.foldl (fun a k=>if (M.getD (Int.toNat k) default).place<=p then min a (M.getD (Int.toNat k) default).hi else a) 2000
end Fl
end Go.Nm
namespace Go.Proofs.YtaolcidinlnklaaGreat
open Go Go.Nm
theorem flow_ends {S:List Sect} {M':List Mrk} {R':List Rch} {r:Rch} {c:Cas} (hS:Fl.Secs S) (h:Fl.Rok S r) (hc:Fl.Cok c):(zaK S M' R' r c).Ends (Fl.fl S r c):=by
  have hu:=hS.rows _ h.iu;have hd:=hS.rows _ h.id;have k1:=Fl.carU hS h c.up;have k2:=Fl.carD hS h c.down;have k3:=Fl.far hS h;have h0:=h.u0;have h1:=h.ud;have h2:=h.d1;obtain ⟨c1,c2,c3,c4,c5,c6,c7⟩:=hc;unfold zaK;refine M.i_bind (carry_ends (by omega) (by omega) hu.1 (by intro e; rw [e] at hu; simp at hu) (by omega) (by omega)) (M.i_bind (carry_ends (by omega) (by omega) hd.1 (by intro e; rw [e] at hd; simp at hd) (by omega) (by omega)) ?_);unfold Fl.fl;dsimp only;generalize Fl.car (S.getD (Int.toNat r.up) default).rows c.up=a at k1 ⊢;generalize Fl.car (S.getD (Int.toNat r.down) default).rows c.down=b at k2 ⊢;have key:∀ s a:Int,(0<=a/\a<=100000)->(1<=s/\s<=400)->(zaS S M' R' r c b s a).Ends (Fl.rt (10000*a*b*(c.up-c.down) / (s*c.roughdown*((S.getD (Int.toNat r.down) default).place-(S.getD (Int.toNat r.up) default).place)))):=fun s a ha hs=>by
    unfold zaS;have n:=Fl.num_bd ha k2 (d:=c.up-c.down) (by omega);have d:=Fl.den_bd hs (b:=c.roughdown) (by omega) k3;refine M.i_grd (gA2 (by omega) (by omega)) (M.i_grd (gA2 (by omega) (by omega)) (M.i_grd (gA2 (by omega) (by omega)) ?_));generalize (S.getD (Int.toNat r.down) default).place-(S.getD (Int.toNat r.up) default).place=f at d k3 ⊢;refine M.i_grd (gA2 (by omega) (by omega)) (M.i_grd (gA2 (by omega) (by omega)) (M.i_grd (gA2 (by omega) (by omega)) (M.i_grd (gA2 (by omega) (by omega)) (M.i_grd (gA2 (by omega) (by omega)) (M.i_grd (gA2 (by omega) (by omega)) (M.i_grd (gA3 (by omega) (by omega) (by omega)) (M.i_bind (root_ends (Int.ediv_nonneg n.2.2.1 (by omega)) ?_) M.i_pure)))))));have:=Fl.div_mono n.2.2.1 (Int.le_refl _) (by decide:(0:Int)<1) (by omega:(1:Int)<=s*c.roughdown*f);rw [Int.ediv_one] at this;omega
  cases hn:r.narrow with
  | true=>exact key _ _ k2 ⟨c5,c7⟩
  | false=>exact key _ _ k1 ⟨c4,c6⟩
theorem least_ends (a b:Int):(zaQ a [b]).Ends (min a b):=by
  unfold zaQ;refine M.i_bind (M.i_next (s':=(min a b,1)) ?_ (M.i_stop ?_)) M.i_pure
  · simp only [zdq];exact M.i_t (by simp) (M.i_grd (by simp) M.i_pure)
  · simp only [zdq];exact M.i_f (by simp) M.i_pure
theorem stages_ends {S:List Sect} {M':List Mrk} {R':List Rch} {ms:List Int} {i:Int} (hm:∀ k∈ms,0<=k/\k<M'.length) (h0:0<=i) (h1:i<S.length) :
    (zaB S M' R' ms i).Ends (Fl.stLo M' ms (S.getD (Int.toNat i) default).place,Fl.stHi M' ms (S.getD (Int.toNat i) default).place):=by
  unfold zaB;refine M.i_bind (a:=(Fl.stLo M' ms (S.getD (Int.toNat i) default).place,Fl.stHi M' ms (S.getD (Int.toNat i) default).place)) ?_ M.i_pure;refine M.i_for (fun j=>(Fl.stLo M' (ms.take j) (S.getD (Int.toNat i) default).place,Fl.stHi M' (ms.take j) (S.getD (Int.toNat i) default).place,j)) ms.length (fun j hj=>?_) ?_
  · have hk:=hm (ms.getD j 0) (by rw [getD_el ms hj]; exact List.getElem_mem hj);simp only [zcx];refine M.i_t (decide_eq_true (by omega)) (M.i_grd (decide_eq_true (by omega)) (M.i_grd (gA2 hk.1 hk.2) (M.i_grd (gA2 h0 h1) ?_)));have el:Fl.stLo M' (ms.take (j+1)) (S.getD (Int.toNat i) default).place=if (S.getD (Int.toNat i) default).place<=(M'.getD (Int.toNat (ms.getD j 0)) default).place then max (Fl.stLo M' (ms.take j) (S.getD (Int.toNat i) default).place) (M'.getD (Int.toNat (ms.getD j 0)) default).lo else Fl.stLo M' (ms.take j) (S.getD (Int.toNat i) default).place:=by
      rw [← take_succ_D ms j hj 0];unfold Fl.stLo;rw [List.foldl_append];rfl
    have eh:Fl.stHi M' (ms.take (j+1)) (S.getD (Int.toNat i) default).place=if (M'.getD (Int.toNat (ms.getD j 0)) default).place<=(S.getD (Int.toNat i) default).place then min (Fl.stHi M' (ms.take j) (S.getD (Int.toNat i) default).place) (M'.getD (Int.toNat (ms.getD j 0)) default).hi else Fl.stHi M' (ms.take j) (S.getD (Int.toNat i) default).place:=by
      rw [← take_succ_D ms j hj 0];unfold Fl.stHi;rw [List.foldl_append];rfl
    rw [el,eh];refine M.i_if (fun hc=>?_) (fun hc=>?_)
    · have hc:=of_decide_eq_true hc;rw [if_pos hc];refine M.i_bind (least_ends _ _) (M.i_if (fun hd=>?_) (fun hd=>?_))
      · rw [if_pos (of_decide_eq_true hd)]; exact M.i_pure
      · rw [if_neg (of_decide_eq_false hd)]; exact M.i_pure
    · have hc:=of_decide_eq_false hc;rw [if_neg hc];refine M.i_if (fun hd=>?_) (fun hd=>?_)
      · rw [if_pos (of_decide_eq_true hd)]; exact M.i_pure
      · rw [if_neg (of_decide_eq_false hd)]; exact M.i_pure
  · simp only [zcx];rw [List.take_length];exact M.i_f (decide_eq_false (by omega)) M.i_pure
theorem nums_out {T X:Type} {bd:T->Int->M (T ⊕ X)} {lo hi:Int} (J:Int->T->Prop) (hl:lo<=hi+1) (h1:hi<=1000000) (h2:-1000000<=lo) {s0:T} (h0:J lo s0)
    (step:∀ x s,lo<=x->x<=hi->J x s->(bd s x).Out (fun r=>match r with | .inl s'=>J (x+1) s' | .inr _=>False)) :
    (zat (M.yl bd) (.inl s0) lo hi).Out (fun r=>match r with | .inl s=>J (hi+1) s | .inr _=>False):=by
  unfold zat;refine M.o_bind (P:=fun (x:(T ⊕ X) ⊕ (T ⊕ X))=>∃ s,x = .inr (.inl s)/\J (hi+1) s) ?_ ?_
  · refine M.o_iter (fun m (x:Int × (T ⊕ X))=>∃ s,x.2 = .inl s/\lo<=x.1/\x.1<=hi+1/\m=(hi+1-x.1).toNat/\J x.1 s) ?_ _ (lo,.inl s0) ⟨s0,rfl,Int.le_refl _,hl,rfl,h0⟩;rintro m ⟨n,t⟩ ⟨s,rfl,a,b,rfl,hj⟩;dsimp only at a b hj ⊢;simp only [zb4];refine M.o_if (fun hb=>?_) (fun hb=>?_)
    · have hb:=of_decide_eq_true hb;refine M.o_bind (P:=fun (y:Bool × (T ⊕ X))=>y.1=true/\∃ s',y.2 = .inl s'/\J (n+1) s') ?_ ?_
      · unfold M.yl;refine M.o_bind (step n s a hb hj) ?_;intro r hr;cases r with
        | inl s'=>exact M.o_pure ⟨rfl,s',rfl,hr⟩
        | inr x=>exact hr.elim
      · rintro ⟨g,t⟩ ⟨h1',s',h2',hj'⟩;dsimp only at h1' h2' ⊢;subst h1' h2';refine M.o_f rfl (M.o_grd (gA2 (by omega) (by omega)) (M.o_pure ⟨(hi+1-(n+1)).toNat,by omega,s',rfl,by dsimp only; omega,by dsimp only; omega,rfl,hj'⟩))
    · have hb:=of_decide_eq_false hb;obtain rfl:n=hi+1:=by omega
      exact M.o_pure ⟨s,rfl,hj⟩
  · rintro _ ⟨s,rfl,hj⟩;exact M.o_pure hj
end Go.Proofs.YtaolcidinlnklaaGreat
-- libD/GD.lean
namespace Go.Nm
namespace Fl
section
variable {M:List Mrk} {p:Int}
theorem lo_fold:∀ (ms:List Int) (a:Int),a<=ms.foldl (fun a k=>if p<=(M.getD (Int.toNat k) default).place then max a (M.getD (Int.toNat k) default).lo else a) a ∧
    (∀ k∈ms,p<=(M.getD (Int.toNat k) default).place->(M.getD (Int.toNat k) default).lo<=ms.foldl (fun a k=>if p<=(M.getD (Int.toNat k) default).place then max a (M.getD (Int.toNat k) default).lo else a) a) ∧
    (ms.foldl (fun a k=>if p<=(M.getD (Int.toNat k) default).place then max a (M.getD (Int.toNat k) default).lo else a) a=a∨∃ k∈ms,p<=(M.getD (Int.toNat k) default).place/\ms.foldl (fun a k=>if p<=(M.getD (Int.toNat k) default).place then max a (M.getD (Int.toNat k) default).lo else a) a=(M.getD (Int.toNat k) default).lo)
  | [],a=>⟨Int.le_refl _,fun k hk=>(List.not_mem_nil hk).elim,.inl rfl⟩
  | k :: ms,a=>by
    rw [List.foldl_cons];obtain ⟨h1,h2,h3⟩:=lo_fold ms (if p<=(M.getD (Int.toNat k) default).place then max a (M.getD (Int.toNat k) default).lo else a);by_cases hp:p<=(M.getD (Int.toNat k) default).place
    · rw [if_pos hp] at h1 h2 h3 ⊢;refine ⟨by omega,fun j hj hpj=>?_,?_⟩
      · rcases List.mem_cons.1 hj with rfl | hj
        · omega
        · exact h2 j hj hpj
      · rcases h3 with h3 | ⟨j,hj,hpj,e⟩
        · rcases Int.le_total (M.getD (Int.toNat k) default).lo a with e | e
          · left; omega
          · right; exact ⟨k,by simp,hp,by omega⟩
        · right; exact ⟨j,by simp [hj],hpj,e⟩
    · rw [if_neg hp] at h1 h2 h3 ⊢;refine ⟨h1,fun j hj hpj=>?_,?_⟩
      · rcases List.mem_cons.1 hj with rfl | hj
        · exact absurd hpj hp
        · exact h2 j hj hpj
      · rcases h3 with h3 | ⟨j,hj,hpj,e⟩
        · exact .inl h3
        · right; exact ⟨j,by simp [hj],hpj,e⟩
theorem hi_fold:∀ (ms:List Int) (a:Int),ms.foldl (fun a k=>if (M.getD (Int.toNat k) default).place<=p then min a (M.getD (Int.toNat k) default).hi else a) a<=a ∧
    (∀ k∈ms,(M.getD (Int.toNat k) default).place<=p->ms.foldl (fun a k=>if (M.getD (Int.toNat k) default).place<=p then min a (M.getD (Int.toNat k) default).hi else a) a<=(M.getD (Int.toNat k) default).hi) ∧
    (ms.foldl (fun a k=>if (M.getD (Int.toNat k) default).place<=p then min a (M.getD (Int.toNat k) default).hi else a) a=a∨∃ k∈ms,(M.getD (Int.toNat k) default).place<=p/\ms.foldl (fun a k=>if (M.getD (Int.toNat k) default).place<=p then min a (M.getD (Int.toNat k) default).hi else a) a=(M.getD (Int.toNat k) default).hi)
  | [],a=>⟨Int.le_refl _,fun k hk=>(List.not_mem_nil hk).elim,.inl rfl⟩
  | k :: ms,a=>by
    rw [List.foldl_cons];obtain ⟨h1,h2,h3⟩:=hi_fold ms (if (M.getD (Int.toNat k) default).place<=p then min a (M.getD (Int.toNat k) default).hi else a);by_cases hp:(M.getD (Int.toNat k) default).place<=p
    · rw [if_pos hp] at h1 h2 h3 ⊢;refine ⟨by omega,fun j hj hpj=>?_,?_⟩
      · rcases List.mem_cons.1 hj with rfl | hj
        · omega
        · exact h2 j hj hpj
      · rcases h3 with h3 | ⟨j,hj,hpj,e⟩
        · rcases Int.le_total a (M.getD (Int.toNat k) default).hi with e | e
          · left; omega
          · right; exact ⟨k,by simp,hp,by omega⟩
        · right; exact ⟨j,by simp [hj],hpj,e⟩
    · rw [if_neg hp] at h1 h2 h3 ⊢;refine ⟨h1,fun j hj hpj=>?_,?_⟩
      · rcases List.mem_cons.1 hj with rfl | hj
        · exact absurd hpj hp
        · exact h2 j hj hpj
      · rcases h3 with h3 | ⟨j,hj,hpj,e⟩
        · exact .inl h3
        · right; exact ⟨j,by simp [hj],hpj,e⟩
theorem stLo_nn (ms:List Int):0<=stLo M ms p:=(lo_fold ms 0).1
theorem stLo_ex (ms:List Int):stLo M ms p=0∨∃ k∈ms,p<=(M.getD (Int.toNat k) default).place/\stLo M ms p=(M.getD (Int.toNat k) default).lo:=(lo_fold ms 0).2.2
theorem stHi_le (ms:List Int):stHi M ms p<=2000:=(hi_fold ms 2000).1
theorem stHi_ex (ms:List Int):stHi M ms p=2000∨∃ k∈ms,(M.getD (Int.toNat k) default).place<=p/\stHi M ms p=(M.getD (Int.toNat k) default).hi:=(hi_fold ms 2000).2.2
end
/-- Marks that are true together. -/
def Tog (M:List Mrk) (ms:List Int):Prop:=∀ a∈ms,∀ b∈ms,¬((M.getD (Int.toNat a) default).place<=(M.getD (Int.toNat b) default).place/\(M.getD (Int.toNat a) default).hi<(M.getD (Int.toNat b) default).lo)
def Ixs (M:List Mrk) (ms:List Int):Prop:=∀ k∈ms,0<=k/\k<M.length
theorem Ixs.mok {M:List Mrk} {ms:List Int} (hk:∀ x∈M,Mok x) (h:Ixs M ms) {k:Int} (hm:k∈ms):Mok (M.getD (Int.toNat k) default):=by
  have:=h k hm;have hl:Int.toNat k<M.length:=by omega
  rw [getD_el M hl];exact hk _ (List.getElem_mem hl)
/-- What lies further up is bounded by no less from above. -/
theorem st_le {M:List Mrk} {ms:List Int} (hk:∀ x∈M,Mok x) (h:Ixs M ms) (ht:Tog M ms) {p q:Int} (hpq:q<=p):stLo M ms p<=stHi M ms q:=by
  rcases stLo_ex (M:=M) (p:=p) ms with e | ⟨a,ha,hpa,e⟩ <;> rcases stHi_ex (M:=M) (p:=q) ms with e' | ⟨b,hb,hpb,e'⟩
  · omega
  · have k1:=(h.mok hk hb).lh;have k2:=(h.mok hk hb).l0;omega
  · have:=(h.mok hk ha).lh;have:=(h.mok hk ha).h2;omega
  · have:=ht b hb a ha;rw [e,e'];rcases Int.lt_or_le (M.getD (Int.toNat b) default).hi (M.getD (Int.toNat a) default).lo with k | k
    · exact absurd ⟨by omega,k⟩ this
    · exact k
section
variable (S:List Sect) (M:List Mrk) (ms:List Int) (r:Rch)
def pu:Int:=(S.getD (Int.toNat r.up) default).place
def pd:Int:=(S.getD (Int.toNat r.down) default).place
/-- The lower stages that there can be. -/
def Dn (x:Int):Prop:=stLo M ms (pd S r)<=x/\x<=min (stHi M ms (pd S r)) (stHi M ms (pu S r))
def lc (x:Int):Cas:=⟨max (stLo M ms (pu S r)) x,x,r.hi,r.hi⟩
def hc (x:Int):Cas:=⟨stHi M ms (pu S r),x,r.lo,r.lo⟩
def IsLow (c:Cas) (n:Int):Prop:=∃ x,Dn S M ms r x/\c=lc S M ms r x/\n=fl S r c/\∀ y,Dn S M ms r y->n<=fl S r (lc S M ms r y)
def IsHigh (c:Cas) (n:Int):Prop:=∃ x,Dn S M ms r x/\c=hc S M ms r x/\n=fl S r c/\∀ y,Dn S M ms r y->fl S r (hc S M ms r y)<=n
end
section
variable {S:List Sect} {M:List Mrk} {ms:List Int} {r:Rch}
theorem lc_ok (hr:Rok S r) (hk:∀ x∈M,Mok x) (h:Ixs M ms) (ht:Tog M ms) {x:Int} (hx:Dn S M ms r x):Cok (lc S M ms r x):=by
  have h1:=stLo_nn (M:=M) (p:=pu S r) ms;have h2:=stLo_nn (M:=M) (p:=pd S r) ms;have h3:=stHi_le (M:=M) (p:=pu S r) ms;have h4:=st_le hk h ht (Int.le_refl (pu S r));obtain ⟨a,b⟩:=hx;have:=hr.l1;have:=hr.lh;have:=hr.h4;unfold lc;constructor <;> dsimp only <;> omega
theorem hc_ok (hr:Rok S r) {x:Int} (hx:Dn S M ms r x):Cok (hc S M ms r x):=by
  have h2:=stLo_nn (M:=M) (p:=pd S r) ms;have h3:=stHi_le (M:=M) (p:=pu S r) ms;obtain ⟨a,b⟩:=hx;have:=hr.l1;have:=hr.lh;have:=hr.h4;unfold hc;constructor <;> dsimp only <;> omega
theorem pu_pd (hS:Secs S) (hr:Rok S r):pu S r<pd S r:=by
  have:=far hS hr;unfold pu pd;omega
theorem Dn.ne (hS:Secs S) (hr:Rok S r) (hk:∀ x∈M,Mok x) (h:Ixs M ms) (ht:Tog M ms):Dn S M ms r (stLo M ms (pd S r)):=by
  have h1:=st_le hk h ht (Int.le_refl (pd S r));have h2:=st_le hk h ht (Int.le_of_lt (pu_pd hS hr));exact ⟨Int.le_refl _,by omega⟩
end
end Fl
end Go.Nm
namespace Go.Proofs.YtaolcidinlnklaaGreat
open Go Go.Nm
section
variable {S:List Sect} {M':List Mrk} {R':List Rch} {ms:List Int} {r:Rch}
theorem best82_out (hS:Fl.Secs S) (hr:Fl.Rok S r) (hk:∀ x∈M',Fl.Mok x) (h:Fl.Ixs M' ms) (ht:Fl.Tog M' ms) :
    (za0 S M' R' ms r).Out (fun x=>Fl.IsLow S M' ms r ⟨x.1,x.2.1,x.2.2.1,x.2.2.2.1⟩ x.2.2.2.2):=by
  have hne:=Fl.Dn.ne hS hr hk h ht;have b1:=Fl.stLo_nn (M:=M') (p:=Fl.pd S r) ms;have b2:=Fl.stHi_le (M:=M') (p:=Fl.pu S r) ms;have hlo:=hr.l1;have hlh:=hr.lh;unfold za0;have h0:=hr.u0;have h1:=hr.ud;have h2:=hr.d1;refine M.o_bindE (stages_ends h (by omega) (by omega)) (M.o_bindE (stages_ends h (by omega) (by omega)) (M.o_bindE (a:=false) (by unfold zbF; exact M.i_pure) (M.o_t rfl (M.o_bindE (least_ends _ _) (M.o_bindE (by unfold zbe; exact M.i_pure) ?_)))));dsimp only;refine M.o_bind (nums_out (lo:=Fl.stLo M' ms (Fl.pd S r)) (hi:=min (Fl.stHi M' ms (Fl.pd S r)) (Fl.stHi M' ms (Fl.pu S r))) (fun x (s:Int × Int × Int × Int × Int)=>(x=Fl.stLo M' ms (Fl.pd S r)/\s=(0,0,0,0,0))∨∃ y,Fl.Dn S M' ms r y/\y<x/\s=(Fl.fl S r (Fl.lc S M' ms r y),(Fl.lc S M' ms r y).up,(Fl.lc S M' ms r y).down,(Fl.lc S M' ms r y).roughup,(Fl.lc S M' ms r y).roughdown)/\∀ z,Fl.stLo M' ms (Fl.pd S r)<=z->z<x->Fl.fl S r (Fl.lc S M' ms r y)<=Fl.fl S r (Fl.lc S M' ms r z)) (by have:=hne.2; omega) (by omega) (by have:=hne.1; omega) (.inl ⟨rfl,rfl⟩) ?_) ?_
  · rintro x ⟨n,a,b,c,d⟩ hx1 hx2 hj;have hx:Fl.Dn S M' ms r x:=⟨hx1,hx2⟩
    simp only [zax];refine M.o_f rfl (M.o_bindE (flow_ends hS hr (Fl.lc_ok hr hk h ht hx)) ?_);rcases hj with ⟨rfl,e⟩ | ⟨y,hy,hyx,e,hz⟩
    · obtain ⟨rfl,rfl,rfl,rfl,rfl⟩:n=0/\a=0/\b=0/\c=0/\d=0:=by simpa using e
      refine M.o_bindE (M.i_opt (r:=false) (fun hc=>by simp at hc) (fun _=>rfl)) (M.o_t (by simp) (M.o_pure (.inr ⟨_,hx,by omega,rfl,fun z h1 h2=>?_⟩)));rw [show z=Fl.stLo M' ms (Fl.pd S r) by omega];exact Int.le_refl _
    · obtain ⟨e1,e2,e3,e4,e5⟩:n=Fl.fl S r (Fl.lc S M' ms r y)/\a=(Fl.lc S M' ms r y).up/\b=(Fl.lc S M' ms r y).down/\c=(Fl.lc S M' ms r y).roughup/\d=(Fl.lc S M' ms r y).roughdown:=by simpa only [Prod.mk.injEq] using e
      rw [e1,e2,e3,e4,e5];have hd:decide ((⟨(Fl.lc S M' ms r y).up,(Fl.lc S M' ms r y).down,(Fl.lc S M' ms r y).roughup,(Fl.lc S M' ms r y).roughdown⟩:Cas)=⟨0,0,0,0⟩)=false:=decide_eq_false (fun e=>by
        have:(Fl.lc S M' ms r y).roughup=0:=congrArg Cas.roughup e;have e2:(Fl.lc S M' ms r y).roughup=r.hi:=rfl;omega)
      refine M.o_bindE (M.i_opt (r:=decide (Fl.fl S r (Fl.lc S M' ms r x)<Fl.fl S r (Fl.lc S M' ms r y))) (fun _=>by unfold zbF; exact M.i_pure) (fun hc=>by rw [hd] at hc; cases hc)) ?_;refine M.o_if (fun hc=>?_) (fun hc=>?_)
      · rw [hd,Bool.false_or] at hc;have hc:=of_decide_eq_true hc;refine M.o_pure (.inr ⟨x,hx,by omega,rfl,fun z h1 h2=>?_⟩);by_cases e:z<x
        · have:=hz z h1 e;omega
        · rw [show z=x by omega];exact Int.le_refl _
      · rw [hd,Bool.false_or] at hc;have hc:=of_decide_eq_false hc;refine M.o_pure (.inr ⟨y,hy,by omega,rfl,fun z h1 h2=>?_⟩);by_cases e:z<x
        · exact hz z h1 e
        · rw [show z=x by omega];omega
  · intro s hs;cases s with
    | inr _=>exact hs.elim
    | inl s =>
      rcases hs with ⟨e,_⟩ | ⟨y,hy,_,rfl,hz⟩
      · have:=hne.2;omega
      · exact M.o_pure ⟨y,hy,rfl,rfl,fun z hz'=>hz z hz'.1 (by have:=hz'.2; omega)⟩
theorem best83_out (hS:Fl.Secs S) (hr:Fl.Rok S r) (hk:∀ x∈M',Fl.Mok x) (h:Fl.Ixs M' ms) (ht:Fl.Tog M' ms) :
    (za7 S M' R' ms r).Out (fun x=>Fl.IsHigh S M' ms r ⟨x.1,x.2.1,x.2.2.1,x.2.2.2.1⟩ x.2.2.2.2):=by
  have hne:=Fl.Dn.ne hS hr hk h ht;have b1:=Fl.stLo_nn (M:=M') (p:=Fl.pd S r) ms;have b2:=Fl.stHi_le (M:=M') (p:=Fl.pu S r) ms;have hlo:=hr.l1;have hlh:=hr.lh;unfold za7;have h0:=hr.u0;have h1:=hr.ud;have h2:=hr.d1;refine M.o_bindE (stages_ends h (by omega) (by omega)) (M.o_bindE (stages_ends h (by omega) (by omega)) (M.o_bindE (a:=true) (by unfold zbx; exact M.i_pure) (M.o_f rfl (M.o_bindE (least_ends _ _) (M.o_bindE (by unfold zbe; exact M.i_pure) ?_)))));dsimp only;refine M.o_bind (nums_out (lo:=Fl.stLo M' ms (Fl.pd S r)) (hi:=min (Fl.stHi M' ms (Fl.pd S r)) (Fl.stHi M' ms (Fl.pu S r))) (fun x (s:Int × Int × Int × Int × Int)=>(x=Fl.stLo M' ms (Fl.pd S r)/\s=(0,0,0,0,0))∨∃ y,Fl.Dn S M' ms r y/\y<x/\s=(Fl.fl S r (Fl.hc S M' ms r y),(Fl.hc S M' ms r y).up,(Fl.hc S M' ms r y).down,(Fl.hc S M' ms r y).roughup,(Fl.hc S M' ms r y).roughdown)/\∀ z,Fl.stLo M' ms (Fl.pd S r)<=z->z<x->Fl.fl S r (Fl.hc S M' ms r z)<=Fl.fl S r (Fl.hc S M' ms r y)) (by have:=hne.2; omega) (by omega) (by have:=hne.1; omega) (.inl ⟨rfl,rfl⟩) ?_) ?_
  · rintro x ⟨n,a,b,c,d⟩ hx1 hx2 hj;have hx:Fl.Dn S M' ms r x:=⟨hx1,hx2⟩
    simp only [zaz];refine M.o_t rfl (M.o_bindE (flow_ends hS hr (Fl.hc_ok hr hx)) ?_);rcases hj with ⟨rfl,e⟩ | ⟨y,hy,hyx,e,hz⟩
    · obtain ⟨rfl,rfl,rfl,rfl,rfl⟩:n=0/\a=0/\b=0/\c=0/\d=0:=by simpa using e
      refine M.o_bindE (M.i_opt (r:=false) (fun hc=>by simp at hc) (fun _=>rfl)) (M.o_t (by simp) (M.o_pure (.inr ⟨_,hx,by omega,rfl,fun z h1 h2=>?_⟩)));rw [show z=Fl.stLo M' ms (Fl.pd S r) by omega];exact Int.le_refl _
    · obtain ⟨e1,e2,e3,e4,e5⟩:n=Fl.fl S r (Fl.hc S M' ms r y)/\a=(Fl.hc S M' ms r y).up/\b=(Fl.hc S M' ms r y).down/\c=(Fl.hc S M' ms r y).roughup/\d=(Fl.hc S M' ms r y).roughdown:=by simpa only [Prod.mk.injEq] using e
      rw [e1,e2,e3,e4,e5];have hd:decide ((⟨(Fl.hc S M' ms r y).up,(Fl.hc S M' ms r y).down,(Fl.hc S M' ms r y).roughup,(Fl.hc S M' ms r y).roughdown⟩:Cas)=⟨0,0,0,0⟩)=false:=decide_eq_false (fun e=>by
        have:(Fl.hc S M' ms r y).roughup=0:=congrArg Cas.roughup e;have e2:(Fl.hc S M' ms r y).roughup=r.lo:=rfl;omega)
      refine M.o_bindE (M.i_opt (r:=decide (Fl.fl S r (Fl.hc S M' ms r y)<Fl.fl S r (Fl.hc S M' ms r x))) (fun _=>by unfold zbx; exact M.i_pure) (fun hc=>by rw [hd] at hc; cases hc)) ?_;refine M.o_if (fun hc=>?_) (fun hc=>?_)
      · rw [hd,Bool.false_or] at hc;have hc:=of_decide_eq_true hc;refine M.o_pure (.inr ⟨x,hx,by omega,rfl,fun z h1 h2=>?_⟩);by_cases e:z<x
        · have:=hz z h1 e;omega
        · rw [show z=x by omega];exact Int.le_refl _
      · rw [hd,Bool.false_or] at hc;have hc:=of_decide_eq_false hc;refine M.o_pure (.inr ⟨y,hy,by omega,rfl,fun z h1 h2=>?_⟩);by_cases e:z<x
        · exact hz z h1 e
        · rw [show z=x by omega];omega
  · intro s hs;cases s with
    | inr _=>exact hs.elim
    | inl s =>
      rcases hs with ⟨e,_⟩ | ⟨y,hy,_,rfl,hz⟩
      · have:=hne.2;omega
      · exact M.o_pure ⟨y,hy,rfl,rfl,fun z hz'=>hz z hz'.1 (by have:=hz'.2; omega)⟩
theorem peak_out (hS:Fl.Secs S) (hr:Fl.Rok S r) (hk:∀ x∈M',Fl.Mok x) (h:Fl.Ixs M' ms) (ht:Fl.Tog M' ms) :
    (zcj S M' R' ms r).Out (fun x=>(∃ c,Fl.IsLow S M' ms r c x.1)/\∃ c,Fl.IsHigh S M' ms r c x.2):=by
  unfold zcj;refine M.o_bindE (by unfold zeE; exact M.i_pure) (M.o_bind (best82_out hS hr hk h ht) ?_);rintro ⟨a,b,c,d,n⟩ h1;refine M.o_bindE (by unfold zdF; exact M.i_pure) (M.o_bind (best83_out hS hr hk h ht) ?_);rintro ⟨a',b',c',d',n'⟩ h2;exact M.o_pure ⟨⟨_,h1⟩,⟨_,h2⟩⟩
end
end Go.Proofs.YtaolcidinlnklaaGreat
-- libD/GE.lean
namespace Go.Nm
namespace Fl
theorem Rows.cle {l:List FRow} (h:Rows l) {i j:Nat} (hij:i<=j) (hj:j<l.length):(l.getD i default).carry<=(l.getD j default).carry:=by
  induction j with
  | zero=>rw [show i=0 by omega]; exact Int.le_refl _
  | succ j ih =>
    rcases Nat.lt_or_eq_of_le hij with e | rfl
    · have:=ih (by omega) (by omega);have:=h.cm j hj;omega
    · exact Int.le_refl _
/-- Marks, one behind the other. -/
def Inc (M:List Mrk) (ms:List Int):Prop:=ms.Pairwise (· < ·)/\Ixs M ms
end Fl
end Go.Nm
namespace Go.Proofs.YtaolcidinlnklaaGreat
open Go Go.Nm
theorem in_true {n a b:Int} (h1:a<=n) (h2:n<=b):(zac n a b).Ends true:=by
  have:(zac n a b).Ends (decide (a<=n)&&decide (n<=b)):=M.i_pure
  rwa [gA2 h1 h2] at this
theorem every_sect (l:List Sect) (so:Sect->M Bool) (h:∀ t∈l,(so t).Ends true):(zb0 l so).Ends true:=by
  unfold zb0 zdI zey;refine M.i_bind (a:=false) (M.i_bind (a:=-1) (M.i_bind (a:=(.inr ():Int ⊕ Unit)) ?_ M.i_pure) M.i_pure) M.i_pure;refine M.i_for (fun i=>i) l.length (fun i hi=>?_) ?_
  · simp only [zcA];have hm:l.getD i default∈l:=by rw [getD_el l hi]; exact List.getElem_mem hi
    refine M.i_t (decide_eq_true (by omega)) (M.i_grd (decide_eq_true (by omega)) (M.i_bind (a:=false) ?_ (M.i_f rfl M.i_pure)));unfold zcJ;exact M.i_bind (h _ hm) M.i_pure
  · simp only [zcA];exact M.i_f (decide_eq_false (by omega)) M.i_pure
theorem every_mark (l:List Mrk) (so:Mrk->M Bool) (h:∀ t∈l,(so t).Ends true):(zbM l so).Ends true:=by
  unfold zbM zei zd0;refine M.i_bind (a:=false) (M.i_bind (a:=-1) (M.i_bind (a:=(.inr ():Int ⊕ Unit)) ?_ M.i_pure) M.i_pure) M.i_pure;refine M.i_for (fun i=>i) l.length (fun i hi=>?_) ?_
  · simp only [zda];have hm:l.getD i default∈l:=by rw [getD_el l hi]; exact List.getElem_mem hi
    refine M.i_t (decide_eq_true (by omega)) (M.i_grd (decide_eq_true (by omega)) (M.i_bind (a:=false) ?_ (M.i_f rfl M.i_pure)));unfold zcR;exact M.i_bind (h _ hm) M.i_pure
  · simp only [zda];exact M.i_f (decide_eq_false (by omega)) M.i_pure
theorem every_reach (l:List Rch) (so:Rch->M Bool) (h:∀ t∈l,(so t).Ends true):(zcE l so).Ends true:=by
  unfold zcE zeh zev;refine M.i_bind (a:=false) (M.i_bind (a:=-1) (M.i_bind (a:=(.inr ():Int ⊕ Unit)) ?_ M.i_pure) M.i_pure) M.i_pure;refine M.i_for (fun i=>i) l.length (fun i hi=>?_) ?_
  · simp only [zbO];have hm:l.getD i default∈l:=by rw [getD_el l hi]; exact List.getElem_mem hi
    refine M.i_t (decide_eq_true (by omega)) (M.i_grd (decide_eq_true (by omega)) (M.i_bind (a:=false) ?_ (M.i_f rfl M.i_pure)));unfold zcz;exact M.i_bind (h _ hm) M.i_pure
  · simp only [zbO];exact M.i_f (decide_eq_false (by omega)) M.i_pure
theorem fevery_int (l:List Int) (so:Int->M Bool) (h:∀ t∈l,(so t).Ends true):(zbb l so).Ends true:=by
  unfold zbb zdw zeg;refine M.i_bind (a:=false) (M.i_bind (a:=-1) (M.i_bind (a:=(.inr ():Int ⊕ Unit)) ?_ M.i_pure) M.i_pure) M.i_pure;refine M.i_for (fun i=>i) l.length (fun i hi=>?_) ?_
  · simp only [zc3];have hm:l.getD i 0∈l:=by rw [getD_el l hi]; exact List.getElem_mem hi
    refine M.i_t (decide_eq_true (by omega)) (M.i_grd (decide_eq_true (by omega)) (M.i_bind (a:=false) ?_ (M.i_f rfl M.i_pure)));unfold zcV;exact M.i_bind (h _ hm) M.i_pure
  · simp only [zc3];exact M.i_f (decide_eq_false (by omega)) M.i_pure
theorem sright_ends {x:Sect} (hr:Fl.Rows x.rows) (h0:0<=x.place) (h1:x.place<=10000):(zc6 x).Ends true:=by
  refine M.Out.ends ?_;unfold zc6;refine M.o_bind (P:=fun z=>match z with | .inl _=>False | .inr (_:Int × Int)=>True) ?_ ?_
  · refine M.o_for x.rows.length (fun i (s:Int × Int × Nat)=>s.2.2=i/\-1<=s.1/\s.1<=2000/\(∀ j,i<=j->j<x.rows.length->s.1<(x.rows.getD j default).stage)/\∀ j,i<=j->j<x.rows.length->s.2.1<=(x.rows.getD j default).carry) ?_ ?_ (s:=(-1,0,0)) ⟨rfl,by decide,by decide,fun j _ hj=>by have:=hr.el j hj; dsimp only; omega,fun j _ hj=>by have:=hr.el j hj; dsimp only; omega⟩
    · rintro i ⟨a,b,_⟩ hi ⟨rfl,h2,h3,h4,h5⟩;dsimp only at hi h2 h3 h4 h5 ⊢;have e:=hr.el _ hi;have k1:=h4 _ (Nat.le_refl _) hi;have k2:=h5 _ (Nat.le_refl _) hi;simp only [zcS];refine M.o_t (decide_eq_true (by omega)) (M.o_grd (decide_eq_true (by omega)) (M.o_grd (gA2 (by omega) (by omega)) (M.o_bindE (in_true (by omega) (by omega)) (M.o_bindE (M.i_opt (fun _=>in_true (by omega) (by omega)) (fun h=>by cases h)) (M.o_f rfl (M.o_pure ⟨rfl,by dsimp only; omega,by dsimp only; omega,fun j hj hj'=>hr.lt hj hj',fun j hj hj'=>hr.cle (by omega) hj'⟩))))))
    · rintro ⟨a,b,_⟩ ⟨rfl,_⟩;simp only [zcS];exact M.o_f (decide_eq_false (by omega)) (M.o_pure trivial)
  · intro z hz;cases z with
    | inl _=>exact hz.elim
    | inr _=>exact M.o_bindE (in_true h0 h1) (M.o_pure rfl)
theorem mright_ends {m:Mrk} (h:Fl.Mok m):(zbt m).Ends true:=by
  obtain ⟨h1,h2,h3,h4,h5⟩:=h;unfold zbt zbC;exact M.i_bind (in_true h1 h2) (M.i_bind (M.i_opt (fun _=>M.i_bind (in_true h3 (by dsimp only; omega)) (M.i_bind (M.i_opt (fun _=>in_true h4 h5) (fun h=>by cases h)) M.i_pure)) (fun h=>by cases h)) M.i_pure)
theorem rright_ends {S:List Sect} {r:Rch} (hn:S.length<=6) (h:Fl.Rok S r):(zcm r (S.length:Int)).Ends true:=by
  obtain ⟨h1,h2,h3,h4,h5,h6⟩:=h;unfold zcm zbC;refine M.i_grd (gA2 (by omega) (by omega)) (M.i_bind (in_true h1 (by omega)) (M.i_grd (gOr2 (by omega) (by omega)) (M.i_bind (M.i_opt (fun _=>in_true (by omega) (by omega)) (fun h=>by cases h)) (M.i_bind (M.i_opt (fun _=>M.i_bind (in_true h4 (by dsimp only; omega)) (M.i_bind (M.i_opt (fun _=>in_true h5 h6) (fun h=>by cases h)) M.i_pure)) (fun h=>by cases h)) M.i_pure))))
section
variable {S:List Sect} {M':List Mrk} {R':List Rch} {ms:List Int} {r:Rch}
theorem fcheck_ends (h:Fl.Site S M' R'):(zcQ S M' R').Ends 0:=by
  obtain ⟨hS,hm,hr,hmk,hrk⟩:=h;obtain ⟨hn,hrows,hpl,hup⟩:=hS;unfold zcQ;refine M.i_bind (in_true (by omega) (by omega)) (M.i_bind (M.i_opt (fun _=>in_true (by omega) (by omega)) (fun h=>by cases h)) (M.i_bind (M.i_opt (fun _=>in_true (by omega) (by omega)) (fun h=>by cases h)) (M.i_bind (M.i_opt (fun _=>every_sect _ _ fun x hx=>?_) (fun h=>by cases h)) (M.i_f rfl ?_))))
  · obtain ⟨i,hi,rfl⟩:=mem_getD hx default;unfold zcL;have:=hrows i hi;exact M.i_bind (in_true (by omega) (by omega)) M.i_pure
  · refine M.Out.ends (M.o_bind (P:=fun z=>match z with | .inl _=>False | .inr (_:Unit)=>True) ?_ ?_)
    · refine M.o_for S.length (fun i (s:Int × Nat)=>s.2=i/\∀ j,i<=j->j<S.length->s.1<(S.getD j default).place) ?_ ?_ (s:=(-1,0)) ⟨rfl,fun j _ hj=>by have:=hpl j hj; dsimp only; omega⟩
      · rintro i ⟨a,_⟩ hi ⟨rfl,h2⟩;dsimp only at hi h2 ⊢;have e:=hpl _ hi;have k1:=h2 _ (Nat.le_refl _) hi;simp only [zdj];exact M.o_t (decide_eq_true (by omega)) (M.o_grd (decide_eq_true (by omega)) (M.o_bindE (sright_ends (hrows _ hi).1 e.1 e.2) (M.o_f (decide_eq_false (p:=(S.getD _ default).place<=a) (by omega)) (M.o_pure ⟨rfl,fun j hj hj'=>hup _ _ hj hj'⟩))))
      · rintro ⟨a,_⟩ ⟨rfl,_⟩;simp only [zdj];exact M.o_f (decide_eq_false (by omega)) (M.o_pure trivial)
    · intro z hz;cases z with
      | inl _=>exact hz.elim
      | inr _ =>
        refine M.o_bindE (every_mark _ _ fun x hx=>mright_ends (hmk x hx)) (M.o_bindE (M.i_opt (fun _=>every_reach _ _ fun x hx=>?_) (fun h=>by cases h)) (M.o_f rfl (M.o_pure rfl)));unfold zc7;exact M.i_bind (rright_ends hn.2 (hrk x hx)) M.i_pure
theorem fopened_ends (h:Fl.Site S M' R'):(zaR S M' R').Ends (.inr 0):=by
  unfold zaR;exact M.i_bind (fcheck_ends h) (M.i_f rfl M.i_pure)
theorem chosen_ends (h:Fl.Site S M' R') (hc:Fl.Inc M' ms):(zbX S M' R' ms).Ends (.inr 0):=by
  unfold zbX;refine M.i_bind (fopened_ends h) (M.i_bind (a:=0) (M.Out.ends ?_) M.i_pure);have hm:=h.m;refine M.o_for ms.length (fun i (s:Int × Int × Nat)=>s.1=0/\s.2.2=i/\-1<=s.2.1/\s.2.1<=16/\∀ j,i<=j->j<ms.length->s.2.1<ms.getD j 0) ?_ ?_ (s:=(0,-1,0)) ⟨rfl,rfl,by decide,by decide,fun j _ hj=>by have:=hc.2 (ms.getD j 0) (by rw [getD_el ms hj]; exact List.getElem_mem hj); dsimp only; omega⟩
  · rintro i ⟨_,a,_⟩ hi ⟨rfl,rfl,h2,h3,h4⟩;dsimp only at hi h2 h3 h4 ⊢;have e:=hc.2 (ms.getD _ 0) (by rw [getD_el ms hi]; exact List.getElem_mem hi);have k1:=h4 _ (Nat.le_refl _) hi;simp only [zc9];refine M.o_t (decide_eq_true (by omega)) (M.o_grd (decide_eq_true (by omega)) (M.o_grd (gOr2 (by omega) (by omega)) (M.o_bindE (M.i_opt (fun _=>in_true (by omega) (by omega)) (fun h=>by cases h)) (M.o_f rfl (M.o_pure ⟨rfl,rfl,by dsimp only; omega,by dsimp only; omega,fun j hj hj'=>?_⟩)))));rw [getD_el ms hi,getD_el ms hj'];exact List.pairwise_iff_getElem.1 hc.1 _ _ hi hj' hj
  · rintro ⟨_,a,_⟩ ⟨rfl,rfl,_⟩;simp only [zc9];exact M.o_f (decide_eq_false (by omega)) (M.o_pure rfl)
theorem asked_ends (h:Fl.Site S M' R') (hc:Fl.Inc M' ms) {i:Int} (h0:0<=i) (h1:i<R'.length) :
    (zbT S M' R' ms i).Ends (.inr ((R'.getD (Int.toNat i) default).up,(R'.getD (Int.toNat i) default).down,(R'.getD (Int.toNat i) default).lo,(R'.getD (Int.toNat i) default).hi,(R'.getD (Int.toNat i) default).narrow,0)):=by
  unfold zbT;exact M.i_bind (chosen_ends h hc) (M.i_bind (M.i_opt (fun _=>in_true h0 (by omega)) (fun h=>by cases h)) (M.i_f rfl (M.i_f rfl (M.i_grd (gA2 h0 h1) M.i_pure))))
theorem fahead_ends {a b:Int} (ha:0<=a/\a<M'.length) (hb:0<=b/\b<M'.length) :
    (zak S M' R' a b).Ends (decide ((M'.getD (Int.toNat a) default).place<=(M'.getD (Int.toNat b) default).place)&&decide ((M'.getD (Int.toNat a) default).hi<(M'.getD (Int.toNat b) default).lo)):=by
  unfold zak;exact M.i_grd (gA2 ha.1 ha.2) (M.i_grd (gA2 hb.1 hb.2) M.i_pure)
theorem ahead_false {a b:Int} (hx:Fl.Ixs M' ms) (ht:Fl.Tog M' ms) (ha:a∈ms) (hb:b∈ms):(zak S M' R' a b).Ends false:=by
  have:=fahead_ends (S:=S) (R':=R') (hx a ha) (hx b hb)
  rwa [show (decide ((M'.getD (Int.toNat a) default).place<=(M'.getD (Int.toNat b) default).place)&&decide ((M'.getD (Int.toNat a) default).hi<(M'.getD (Int.toNat b) default).lo))=false by
    rw [Bool.and_eq_false_iff,decide_eq_false_iff_not,decide_eq_false_iff_not];have:=ht a ha b hb;omega] at this
theorem together_ends (hx:Fl.Ixs M' ms) (ht:Fl.Tog M' ms):(zc2 S M' R' ms).Ends true:=by
  unfold zc2;refine M.i_bind (fevery_int _ _ fun a ha=>?_) M.i_pure;unfold zcH;refine M.i_bind (fevery_int _ _ fun b hb=>?_) M.i_pure;unfold zcT;exact M.i_bind (ahead_false hx ht ha hb) M.i_pure
theorem Peak_out (h:Fl.Site S M' R') (hc:Fl.Inc M' ms) (ht:Fl.Tog M' ms) {i:Int} (h0:0<=i) (h1:i<R'.length) :
    (zaW S M' R' ms i).Out (fun x=>x.2.2=0/\(∃ c,Fl.IsLow S M' ms (R'.getD (Int.toNat i) default) c x.1)/\∃ c,Fl.IsHigh S M' ms (R'.getD (Int.toNat i) default) c x.2.1):=by
  have hl:Int.toNat i<R'.length:=by omega
  have hr:Fl.Rok S (R'.getD (Int.toNat i) default):=by rw [getD_el R' hl]; exact h.rks _ (List.getElem_mem hl)
  unfold zaW;refine M.o_bindE (asked_ends h hc h0 h1) (M.o_f rfl (M.o_bindE (together_ends hc.2 ht) (M.o_f rfl (M.o_bind (peak_out h.s hr h.mks hc.2 ht) ?_))));rintro ⟨a,b⟩ hp;exact M.o_pure ⟨rfl,hp⟩
theorem Flow_ends (h:Fl.Site S M' R') {i:Int} (h0:0<=i) (h1:i<R'.length) {c:Cas} (hc:Fl.Cok c) (k1:(R'.getD (Int.toNat i) default).lo<=c.roughup) (k2:c.roughup<=(R'.getD (Int.toNat i) default).hi) (k3:(R'.getD (Int.toNat i) default).lo<=c.roughdown) (k4:c.roughdown<=(R'.getD (Int.toNat i) default).hi) :
    (zbu S M' R' i c).Ends (Fl.fl S (R'.getD (Int.toNat i) default) c,0):=by
  have hl:Int.toNat i<R'.length:=by omega
  have hr:Fl.Rok S (R'.getD (Int.toNat i) default):=by rw [getD_el R' hl]; exact h.rks _ (List.getElem_mem hl)
  unfold zbu;refine M.i_bind (fopened_ends h) (M.i_f rfl (M.i_bind (in_true h0 (by omega)) (M.i_f rfl (M.i_grd (gA2 h0 h1) (M.i_bind (a:=true) ?_ (M.i_f rfl (M.i_bind (flow_ends h.s hr hc) M.i_pure)))))));obtain ⟨c1,c2,c3,_⟩:=hc;unfold zet;exact M.i_bind (in_true (by omega) c3) (M.i_bind (M.i_opt (fun _=>in_true c1 c2) (fun h=>by cases h)) (M.i_bind (M.i_opt (fun _=>in_true k1 k2) (fun h=>by cases h)) (M.i_bind (M.i_opt (fun _=>in_true k3 k4) (fun h=>by cases h)) M.i_pure)))
end
end Go.Proofs.YtaolcidinlnklaaGreat
-- libD/GM.lean
namespace Go.Nm
namespace Fl
theorem rep_get {n i:Nat} {x d:Int} (h:i<n):(List.replicate n x).getD i d=x:=by
  simp [List.getD,List.getElem?_replicate,h]
def ones (n:Nat):List (List Int):=(List.range n).map fun i:Nat=>[(i:Int)]
def ints (n:Nat):List Int:=(List.range n).map fun i:Nat=>(i:Int)
theorem ints_len (n:Nat):(ints n).length=n:=by simp [ints]
theorem ints_succ (n:Nat):ints (n+1)=ints n++[(n:Int)]:=by unfold ints; rw [List.range_succ,List.map_append]; rfl
theorem ones_len (n:Nat):(ones n).length=n:=by simp [ones]
theorem ones_get {n i:Nat} (h:i<n):(ones n).getD i []=[(i:Int)]:=by
  rw [getD_el _ (by rw [ones_len]; exact h)];simp [ones]
end Fl
end Go.Nm
namespace Go.Proofs.YtaolcidinlnklaaGreat
open Go Go.Nm
section
variable {S:List Sect} {M':List Mrk} {R':List Rch}
theorem linked1_ends (hno:∀ a b:Int,0<=a->a<M'.length->0<=b->b<M'.length->(zak S M' R' a b).Ends false) {a:Int} (h0:0<=a) (h1:a<M'.length) (mp:Int->Option Bool) (n l:List Int) :
    (zcU a S M' R' S M' R' mp n l).Ends (false,mp,n,l):=by
  unfold zcU;refine M.i_fix ?_;simp only [zaL];refine M.i_bind (a:=(Sum.inr (mp,n,l):((Int->Option Bool) × List Int × List Int) ⊕ ((Int->Option Bool) × List Int × List Int))) ?_ M.i_pure;refine M.i_for (fun i=>(i,mp,n,l)) M'.length (fun i hi=>?_) ?_
  · simp only [za8];exact M.i_t (decide_eq_true (by omega)) (M.i_bind (hno _ _ h0 h1 (by omega) (by omega)) (M.i_t rfl M.i_pure))
  · simp only [za8];exact M.i_f (decide_eq_false (by omega)) M.i_pure
theorem linked_ends (hno:∀ a b:Int,0<=a->a<M'.length->0<=b->b<M'.length->(zak S M' R' a b).Ends false) :
    (zb2 S M' R').Ends (List.replicate 16 (-1),List.replicate 16 (-1)):=by
  unfold zb2;refine M.i_bind (a:=(List.replicate 16 (-1),List.replicate 16 (-1))) ⟨50,by kernel_rfl⟩ (M.i_bind (a:=(List.replicate 16 (-1),List.replicate 16 (-1))) ?_ M.i_pure);refine M.i_for (fun i=>(List.replicate 16 (-1),List.replicate 16 (-1),i)) M'.length (fun i hi=>?_) ?_
  · simp only [zcG];exact M.i_t (decide_eq_true (by omega)) (M.i_bind (linked1_ends hno (by omega) (by omega) _ _ _) M.i_pure)
  · simp only [zcG];exact M.i_f (decide_eq_false (by omega)) M.i_pure
theorem rows_ends (hn:M'.length<=16) (hno:∀ a b:Int,0<=a->a<M'.length->0<=b->b<M'.length->(zak S M' R' a b).Ends false) :
    (zdi S M' R').Ends (Fl.ones M'.length):=by
  unfold zdi;refine M.i_bind (linked_ends hno) (M.i_bind (a:=(Fl.ones M'.length,Fl.ones M'.length)) ?_ M.i_pure);refine M.i_for (fun i=>(i,Fl.ones i)) M'.length (fun i hi=>?_) ?_
  · simp only [zc1];refine M.i_t (decide_eq_true (by omega)) (M.i_grd (gA2 (by omega) (by omega)) (M.i_f (by rw [Fl.rep_get (by omega)]; rfl) (M.i_bind (a:=([(i:Int)],[(i:Int)])) ?_ (M.i_grd (decide_eq_true (by rw [Fl.ones_len]; simp; omega)) ?_))))
    · refine M.i_next (s':=(-1,[(i:Int)])) ?_ (M.i_stop ?_)
      · simp only [zca];refine M.i_t (by rw [bne_iff_ne]; omega) (M.i_grd (by simp) (M.i_grd (gA2 (by omega) (by omega)) ?_));rw [Int.toNat_natCast,Fl.rep_get (by omega),List.nil_append];exact M.i_pure
      · simp only [zca];exact M.i_f rfl M.i_pure
    · have e:Fl.ones (i+1)=Fl.ones i++[[(i:Int)]]:=by unfold Fl.ones; rw [List.range_succ,List.map_append]; rfl
      rw [e];exact M.i_pure
  · simp only [zc1];exact M.i_f (decide_eq_false (by omega)) M.i_pure
theorem Most_out (h:Fl.Site S M' R') (hno:∀ a b:Int,0<=a->a<M'.length->0<=b->b<M'.length->(zak S M' R' a b).Ends false) :
    (zdg S M' R').Out (fun x=>x.2=0/\x.1.length=M'.length):=by
  have hm:=h.m;unfold zdg;refine M.o_bindE (fopened_ends h) (M.o_f rfl (M.o_bindE (rows_ends hm.2 hno) (M.o_grd (gA3 (by rw [Fl.ones_len]; omega) (by rw [Fl.ones_len]; omega) (by rw [Fl.ones_len]; omega)) ?_)));rw [Fl.ones_len];refine M.o_bindE (a:=(isort (Fl.ints M'.length),List.replicate M'.length (0:Int))) (M.i_stop ?_) (M.o_pure ⟨rfl,?_⟩)
  · simp only [zes];refine M.i_bind (a:=(Sum.inr ():(List Int × List Int) ⊕ Unit)) ?_ (M.i_bind (a:=(Fl.ints M'.length,Fl.ints M'.length)) ?_ (M.i_grd (decide_eq_true (by rw [Fl.ints_len]; omega)) M.i_pure))
    · refine M.i_for (fun i=>i) M'.length (fun i hi=>?_) ?_
      · simp only [zcv,Fl.ones_len];refine M.i_t (decide_eq_true (by omega)) (M.i_grd (decide_eq_true (by omega)) (M.i_bind (a:=(Sum.inr ():Unit ⊕ Unit)) ?_ M.i_pure));refine M.i_for (fun k=>k) M'.length (fun k hk=>?_) ?_
        · simp only [zcW,Fl.ones_len,Fl.ones_get hi,Fl.ones_get hk,Fl.rep_get hi,Fl.rep_get hk,List.length_replicate];refine M.i_t (decide_eq_true (by omega)) (M.i_grd (decide_eq_true (by omega)) (M.i_grd (gOr (by omega)) (M.i_grd (gOr (by omega)) (M.i_grd (gOr (by omega)) (M.i_grd (gOr2 (by omega) (by simp)) (M.i_grd (gOr (by omega)) (M.i_grd (gOr2 (by omega) (by simp)) (M.i_bind (M.i_opt (r:=false) (fun _=>hno _ _ (by simp) (by simp; omega) (by simp) (by simp; omega)) (fun _=>rfl)) (M.i_f (Bool.and_false _) M.i_pure)))))))))
        · simp only [zcW,Fl.ones_len];exact M.i_f (decide_eq_false (by omega)) M.i_pure
      · simp only [zcv,Fl.ones_len];exact M.i_f (decide_eq_false (by omega)) M.i_pure
    · refine M.i_for (fun i=>(i,Fl.ints i)) M'.length (fun i hi=>?_) ?_
      · simp only [zcY,Fl.ones_len,Fl.ones_get hi,Fl.rep_get hi,List.length_replicate];refine M.i_t (decide_eq_true (by omega)) (M.i_grd (decide_eq_true (by omega)) (M.i_grd (decide_eq_true (by omega)) (M.i_t (decide_eq_true (by simp)) (M.i_grd (gA2 (by omega) (by simp)) (M.i_grd (decide_eq_true (by rw [Fl.ints_len]; simp; omega)) ?_)))));rw [Fl.ints_succ];exact M.i_pure
      · simp only [zcY,Fl.ones_len];exact M.i_f (decide_eq_false (by omega)) M.i_pure
  · have:=(isort_perm (Fl.ints M'.length)).length_eq;rw [this];exact Fl.ints_len _
end
end Go.Proofs.YtaolcidinlnklaaGreat
-- libD/GT.lean
namespace Go.Nm
namespace Fl
theorem Rows.snoc:∀ {l:List FRow} {a:FRow},Rows l->(∀ e∈l,e.stage<a.stage/\e.carry<=a.carry)->0<=a.stage->a.stage<=2000->0<=a.carry->a.carry<=100000->Rows (l++[a])
  | [],_,_,_,h1,h2,h3,h4=>⟨h1,h2,h3,h4⟩
  | [b],a,h,he,h1,h2,h3,h4=>by
    have:=he b (by simp);exact ⟨h.1,this.1,h.2.2.1,this.2,h1,h2,h3,h4⟩
  | b :: c :: r,a,h,he,h1,h2,h3,h4=>by
    obtain ⟨k1,k2,k3,k4,k5⟩:=h;exact ⟨k1,k2,k3,k4,k5.snoc (fun e hh=>he e (by simp [List.mem_cons.1 hh])) h1 h2 h3 h4⟩
/-- A site with what really was: stages that fall downstream, marks about them, and roughness that is allowed. -/
structure Truth (S:List Sect) (M:List Mrk) (R:List Rch) (t ro:List Int):Prop where
  site:Site S M R
  m8:M.length<=8
  tl:t.length=S.length
  rl:ro.length=S.length
  tr:∀ i,i<S.length->0<=t.getD i 0/\t.getD i 0<=400
  td:∀ i j,i<=j->j<S.length->t.getD j 0<=t.getD i 0
  gap:∀ i j,i<j->j<S.length->(S.getD i default).place+21<=(S.getD j default).place
  mt:∀ m∈M,∃ j,j<S.length/\(S.getD j default).place<=m.place/\m.place<=(S.getD j default).place+19/\m.lo<=t.getD j 0/\t.getD j 0<=m.hi
  ro0:∀ i,i<S.length->1<=ro.getD i 0/\ro.getD i 0<=400
  rt:∀ r∈R,r.lo<=ro.getD (Int.toNat r.up) 0/\r.lo<=ro.getD (Int.toNat r.down) 0/\ro.getD (Int.toNat r.up) 0<=r.hi/\ro.getD (Int.toNat r.down) 0<=r.hi
section
variable {S:List Sect} {M:List Mrk} {R:List Rch} {t ro:List Int} {ms:List Int}
theorem Truth.no (h:Truth S M R t ro) {a b:Mrk} (ha:a∈M) (hb:b∈M):¬(a.place<=b.place/\a.hi<b.lo):=by
  rintro ⟨h1,h2⟩;obtain ⟨i,i1,i2,i3,i4,i5⟩:=h.mt a ha;obtain ⟨j,j1,j2,j3,j4,j5⟩:=h.mt b hb;by_cases e:i<=j
  · have:=h.td i j e j1;omega
  · have:=h.gap j i (by omega) i1;omega
theorem Truth.tog (h:Truth S M R t ro) (hx:Ixs M ms):Tog M ms:=fun a ha b hb=>by
  have h1:=hx a ha;have h2:=hx b hb;have l1:Int.toNat a<M.length:=by omega
  have l2:Int.toNat b<M.length:=by omega
  rw [getD_el M l1,getD_el M l2];exact h.no (List.getElem_mem l1) (List.getElem_mem l2)
/-- The stage that really was lies between what the marks leave. -/
theorem Truth.bet (h:Truth S M R t ro) (hx:Ixs M ms) {i:Nat} (hi:i<S.length):stLo M ms (S.getD i default).place<=t.getD i 0/\t.getD i 0<=stHi M ms (S.getD i default).place:=by
  have key:∀ k∈ms,∃ j,j<S.length/\(S.getD j default).place<=(M.getD (Int.toNat k) default).place/\(M.getD (Int.toNat k) default).place<=(S.getD j default).place+19/\(M.getD (Int.toNat k) default).lo<=t.getD j 0/\t.getD j 0<=(M.getD (Int.toNat k) default).hi:=fun k hk=>by
    have h1:=hx k hk;have l1:Int.toNat k<M.length:=by omega
    rw [getD_el M l1];exact h.mt _ (List.getElem_mem l1)
  have ht:=h.tr i hi;constructor
  · rcases stLo_ex (M:=M) (p:=(S.getD i default).place) ms with e | ⟨k,hk,hp,e⟩
    · omega
    · obtain ⟨j,j1,j2,j3,j4,j5⟩:=key k hk;by_cases c:i<=j
      · have:=h.td i j c j1;omega
      · have:=h.gap j i (by omega) hi;omega
  · rcases stHi_ex (M:=M) (p:=(S.getD i default).place) ms with e | ⟨k,hk,hp,e⟩
    · omega
    · obtain ⟨j,j1,j2,j3,j4,j5⟩:=key k hk;by_cases c:j<=i
      · have:=h.td j i c hi;omega
      · have:=h.gap i j (by omega) j1;omega
end
end Fl
end Go.Nm
-- libD/GS.lean
namespace Go.Nm
namespace Fl
theorem getD_app {α:Type} {l:List α} {x d:α} {j:Nat} (h:j<l.length):(l++[x]).getD j d=l.getD j d:=by
  simp [List.getD,List.getElem?_append_left h]
theorem getD_appE {α:Type} {l:List α} {x d:α} {j:Nat} (h:l.length=j):(l++[x]).getD j d=x:=by
  subst h;simp [List.getD]
/-- A mark about what was. -/
def Mt (S:List Sect) (t:List Int) (m:Mrk):Prop:=Mok m/\∃ j,j<S.length/\(S.getD j default).place<=m.place/\m.place<=(S.getD j default).place+19/\m.lo<=t.getD j 0/\t.getD j 0<=m.hi
/-- What is made so far. -/
structure Mi (S:List Sect) (M:List Mrk) (t ro:List Int) (place stage:Int):Prop where
  tl:t.length=S.length
  rl:ro.length=S.length
  rows:∀ j,j<S.length->Rows (S.getD j default).rows/\2<=(S.getD j default).rows.length/\(S.getD j default).rows.length<=8
  pl:∀ j,j<S.length->0<=(S.getD j default).place/\(S.getD j default).place+21<=place
  gap:∀ i j,i<j->j<S.length->(S.getD i default).place+21<=(S.getD j default).place
  tr:∀ j,j<S.length->stage<=t.getD j 0/\t.getD j 0<=400
  td:∀ i j,i<=j->j<S.length->t.getD j 0<=t.getD i 0
  mt:∀ m∈M,Mt S t m
  m8:M.length<=8
  ro0:∀ j,j<S.length->30<=ro.getD j 0/\ro.getD j 0<=90
  p0:0<=place
  p1:place<=50+200*S.length
  s0:100<=stage+19*S.length
  s1:stage<=400
theorem Mt.app {S:List Sect} {t:List Int} {m:Mrk} {s:Sect} {v:Int} (hl:t.length=S.length) (h:Mt S t m):Mt (S++[s]) (t++[v]) m:=by
  obtain ⟨h0,j,h1,h2⟩:=h;refine ⟨h0,j,by simp; omega,?_⟩;rw [getD_app h1,getD_app (by omega)];exact h2
theorem Mi.step {S:List Sect} {M M':List Mrk} {t ro:List Int} {place stage p q r:Int} {rows:List FRow} (h:Mi S M t ro place stage) (hr:Rows rows) (h2:2<=rows.length) (h8:rows.length<=8) (hm:∀ m∈M',Mt (S++[⟨place,rows⟩]) (t++[stage]) m) (m8:M'.length<=8)
    (hp:21<=p/\p<=200) (hq:0<=q/\q<=19) (hro:30<=r/\r<=90):Mi (S++[⟨place,rows⟩]) M' (t++[stage]) (ro++[r]) (place+p) (stage-q):=by
  have e1:=h.tl;have e2:=h.rl;have p0:=h.p0;have p1:=h.p1;have s0:=h.s0;have s1:=h.s1;have split:∀ j,j<(S++[(⟨place,rows⟩:Sect)]).length->j<S.length∨j=S.length:=fun j hj=>by simp at hj; omega
  refine ⟨by simp [e1],by simp [e2],fun j hj=>?_,fun j hj=>?_,fun i j hij hj=>?_,fun j hj=>?_,fun i j hij hj=>?_,hm,m8,fun j hj=>?_,by omega,by simp; omega,by simp; omega,by omega⟩
  · rcases split j hj with e | rfl
    · rw [getD_app e]; exact h.rows j e
    · rw [getD_appE rfl]; exact ⟨hr,h2,h8⟩
  · rcases split j hj with e | rfl
    · rw [getD_app e]; have:=h.pl j e; omega
    · rw [getD_appE rfl]; dsimp only; omega
  · rcases split j hj with e | rfl
    · rw [getD_app e,getD_app (by omega)]; exact h.gap i j hij e
    · rw [getD_appE rfl,getD_app hij]; exact (h.pl i hij).2
  · rcases split j hj with e | rfl
    · rw [getD_app (by omega)]; have:=h.tr j e; omega
    · rw [getD_appE e1]; omega
  · rcases split j hj with e | rfl
    · rw [getD_app (by omega),getD_app (by omega)]; exact h.td i j hij e
    · rw [getD_appE e1];rcases Nat.lt_or_eq_of_le hij with e | rfl
      · rw [getD_app (by omega)]; exact (h.tr i e).1
      · rw [getD_appE e1]; exact Int.le_refl _
  · rcases split j hj with e | rfl
    · rw [getD_app (by omega)]; exact h.ro0 j e
    · rw [getD_appE e2]; exact hro
end Fl
end Go.Nm
namespace Go.Proofs.YtaolcidinlnklaaGreat
open Go Go.Nm
theorem b6_out {b:List UInt8} {c u x a0 c0 K:Int} (hS:SOk c u x) (hc:c<=100000) (ha:0<=a0/\a0<=60) (hc0:0<=c0/\c0<=50) (hK:2<=K/\K<=4) :
    (M.iter (zcZ b) (u,x,a0,c0,K,[])).Out (fun z=>SOk (c+10) z.1 z.2.1/\Fl.Rows z.2.2.2/\2<=z.2.2.2.length/\z.2.2.2.length<=8):=by
  refine M.o_iter (fun m (s:Int × Int × Int × Int × Int × List FRow)=>m=s.2.2.2.2.1.toNat/\0<=s.2.2.2.2.1/\s.2.2.2.2.1+s.2.2.2.2.2.length=K/\SOk (c+2*s.2.2.2.2.2.length) s.1 s.2.1/\Fl.Rows s.2.2.2.2.2/\(∀ e∈s.2.2.2.2.2,e.stage<s.2.2.1/\e.carry<=s.2.2.2.1)/\0<=s.2.2.1/\s.2.2.1<=60+200*s.2.2.2.2.2.length/\0<=s.2.2.2.1/\s.2.2.2.1<=50+2000*s.2.2.2.2.2.length) ?_ _ (u,x,a0,c0,K,[]) ⟨rfl,by dsimp only; omega,by simp,by simpa using hS,trivial,fun e he=>(List.not_mem_nil he).elim,ha.1,by simp; omega,hc0.1,by simp; omega⟩;rintro m ⟨u,x,a,ca,k,l⟩ ⟨rfl,k0,kl,hS,hr,he,a1,a2,c1,c2⟩;dsimp only at k0 kl hS hr he a1 a2 c1 c2 ⊢;simp only [zcZ];refine M.o_if (fun hb=>?_) (fun hb=>?_)
  · have hb:=of_decide_eq_true hb;refine M.o_grd (decide_eq_true (by simp; omega)) (M.o_bind (within_out hS (by omega) (by omega) (by omega) (by omega)) ?_);rintro ⟨r8,u8,x8⟩ ⟨k8,g8,g8'⟩;dsimp only at k8 g8 g8' ⊢;refine M.o_grd (gA2 (by omega) (by omega)) (M.o_bind (next_out k8 (by omega) (by omega)) ?_);rintro ⟨r9,u9,x9⟩ ⟨k9,g9,_⟩;have g9:=g9 (by omega);dsimp only at k9 g9 ⊢;refine M.o_grd (gA2 (by omega) (by omega)) (M.o_grd (gA2 (by omega) (by omega)) (M.o_pure ⟨(k-1).toNat,by omega,rfl,by dsimp only; omega,by simp; omega,k9.mono (by simp; omega),hr.snoc he a1 (by dsimp only; omega) c1 (by dsimp only; omega),fun e h=>?_,by dsimp only; omega,by simp; omega,by dsimp only; omega,by simp; omega⟩));rcases List.mem_append.1 h with h | h
    · have:=he e h;dsimp only;omega
    · rw [List.mem_singleton] at h;subst h;dsimp only;omega
  · have hb:=of_decide_eq_false hb;exact M.o_pure ⟨hS.mono (by omega),hr,by dsimp only; omega,by dsimp only; omega⟩
theorem b7_out {b:List UInt8} {c u x place stage k:Int} (P:Mrk->Prop) (hP:∀ d e f:Int,0<=d->d<=19->0<=e->e<=8->0<=f->f<=8->P ⟨place+d,max 0 (stage-e),stage+f⟩) (hS:SOk c u x) (hc:c<=100000) (hk:0<=k/\k<=2) (hp:0<=place/\place<=10000) (hs:0<=stage/\stage<=1000) {l:List Mrk} (hl:l.length<=8) (h0:∀ m∈l,P m) :
    (M.iter (zcD b 8 false place stage) (u,x,k,l)).Out (fun z=>SOk (c+8) z.1 z.2.1/\(∀ m∈z.2.2.2,P m)/\z.2.2.2.length<=8):=by
  refine M.o_iter (fun m (s:Int × Int × Int × List Mrk)=>m=s.2.2.1.toNat/\0<=s.2.2.1/\s.2.2.1<=2/\SOk (c+4*(2-s.2.2.1)) s.1 s.2.1/\(∀ m∈s.2.2.2,P m)/\s.2.2.2.length<=8) ?_ _ (u,x,k,l) ⟨rfl,hk.1,hk.2,hS.mono (by dsimp only; omega),h0,hl⟩;rintro m ⟨u,x,k,l⟩ ⟨rfl,k0,k2,hS,hm,h8⟩;dsimp only at k0 k2 hS hm h8 ⊢;simp only [zcD];refine M.o_if (fun hb=>?_) (fun hb=>?_)
  · rw [Bool.and_eq_true,decide_eq_true_eq,decide_eq_true_eq] at hb;refine M.o_bind (next_out hS (by omega) (by omega)) ?_;rintro ⟨r1,u1,x1⟩ ⟨k1,g1,_⟩;have g1:=g1 (by omega);dsimp only at k1 g1 ⊢;refine M.o_bind (next_out k1 (by omega) (by omega)) ?_;rintro ⟨r2,u2,x2⟩ ⟨kk2,g2,_⟩;have g2:=g2 (by omega);dsimp only at kk2 g2 ⊢;have hd:0<=r1*r2/\r1*r2<=19:=by
      rcases (by omega:r1=0∨r1=1) with rfl | rfl
      · simp
      · simp; omega
    generalize r1*r2=d at hd ⊢;refine M.o_grd (gA2 (by omega) (by omega)) (M.o_grd (gA2 (by omega) (by omega)) (M.o_bind (next_out kk2 (by omega) (by omega)) ?_));rintro ⟨r3,u3,x3⟩ ⟨k3,g3,_⟩;have g3:=g3 (by omega);dsimp only at k3 g3 ⊢;refine M.o_grd (gA2 (by omega) (by omega)) (M.o_bind (next_out k3 (by omega) (by omega)) ?_);rintro ⟨r4,u4,x4⟩ ⟨k4,g4,_⟩;have g4:=g4 (by omega);dsimp only at k4 g4 ⊢;refine M.o_grd (gA2 (by omega) (by omega)) (M.o_f rfl (M.o_grd (decide_eq_true (by simp; omega)) (M.o_grd (gA2 (by omega) (by omega)) (M.o_pure ⟨(k-1).toNat,by omega,rfl,by dsimp only; omega,by dsimp only; omega,k4.mono (by dsimp only; omega),fun m h=>?_,by simp; omega⟩))));rcases List.mem_append.1 h with h | h
    · exact hm m h
    · rw [List.mem_singleton] at h;subst h;exact hP _ _ _ hd.1 hd.2 (by omega) (by omega) (by omega) (by omega)
  · exact M.o_pure ⟨hS.mono (by omega),hm,h8⟩
end Go.Proofs.YtaolcidinlnklaaGreat
-- libD/GU.lean
namespace Go.Proofs.YtaolcidinlnklaaGreat
open Go Go.Nm
theorem b9_out {b:List UInt8} {u x p s N:Int} (hS:SOk 3 u x) (hp:0<=p/\p<=50) (hs:100<=s/\s<=400) (hN:2<=N/\N<=5) :
    (M.iter (zcF b 8 false) (u,x,p,s,N,[],[],[],[])).Out (fun z=>∃ S M t ro place stage,z=(z.1,z.2.1,S,M,t,ro,ro,t,M,S)/\SOk 1000 z.1 z.2.1/\Fl.Mi S M t ro place stage/\2<=S.length/\S.length<=5):=by
  refine M.o_iter (fun m (z:Int × Int × Int × Int × Int × List Sect × List Mrk × List Int × List Int)=>m=z.2.2.2.2.1.toNat/\0<=z.2.2.2.2.1/\z.2.2.2.2.1+z.2.2.2.2.2.1.length=N/\SOk (3+100*z.2.2.2.2.2.1.length) z.1 z.2.1/\Fl.Mi z.2.2.2.2.2.1 z.2.2.2.2.2.2.1 z.2.2.2.2.2.2.2.1 z.2.2.2.2.2.2.2.2 z.2.2.1 z.2.2.2.1) ?_ _ (u,x,p,s,N,[],[],[],[]) ⟨rfl,by dsimp only; omega,by simp,by simpa using hS,?_⟩
  · rintro m ⟨u,x,place,stage,n,S,M1,t,ro⟩ ⟨rfl,n0,nl,hS,h⟩;dsimp only at n0 nl hS h ⊢;simp only [zcF];have e1:=h.tl;have e2:=h.rl;have p0:=h.p0;have p1:=h.p1;have s0:=h.s0;have s1:=h.s1;refine M.o_if (fun hb=>?_) (fun hb=>?_)
    · have hb:=of_decide_eq_true hb;refine M.o_bind (next_out hS (by omega) (by omega)) ?_;rintro ⟨r5,u5,x5⟩ ⟨k5,g5,_⟩;have g5:=g5 (by omega);dsimp only at k5 g5 ⊢;refine M.o_bind (next_out k5 (by omega) (by omega)) ?_;rintro ⟨r6,u6,x6⟩ ⟨k6,g6,_⟩;have g6:=g6 (by omega);dsimp only at k6 g6 ⊢;refine M.o_bind (within_out k6 (by omega) (by omega) (by omega) (by omega)) ?_;rintro ⟨r7,u7,x7⟩ ⟨k7,g7,g7'⟩;dsimp only at k7 g7 g7' ⊢;refine M.o_bind (b6_out k7 (by omega) (by omega) (by omega) ⟨g7,g7'⟩) ?_;rintro ⟨u8,x8,l2,rows⟩ ⟨k8,hr,hr2,hr8⟩;dsimp only at k8 hr hr2 hr8 ⊢;refine M.o_grd (decide_eq_true (by simp; omega)) (M.o_grd (decide_eq_true (by simp; omega)) (M.o_bind (within_out k8 (by omega) (by omega) (by omega) (by omega)) ?_));rintro ⟨r10,u10,x10⟩ ⟨k10,g10,g10'⟩;dsimp only at k10 g10 g10' ⊢;refine M.o_grd (decide_eq_true (by simp; omega)) ?_;unfold zdh;refine M.o_bind (next_out k10 (by omega) (by omega)) ?_;rintro ⟨r11,u11,x11⟩ ⟨k11,g11,_⟩;have g11:=g11 (by omega);dsimp only at k11 g11 ⊢;refine M.o_bind (b7_out (Fl.Mt (S++[⟨place,rows⟩]) (t++[stage])) (fun d e f d0 d1 e0 e1' f0 f1=>?_) k11 (by omega) (by omega) (by omega) (by omega) h.m8 (fun m hm=>(h.mt m hm).app e1)) ?_
      · refine ⟨⟨by dsimp only; omega,by dsimp only; omega,by dsimp only; omega,by dsimp only; omega,by dsimp only; omega⟩,S.length,by simp,?_⟩;rw [Fl.getD_appE rfl,Fl.getD_appE e1];dsimp only;omega
      rintro ⟨u12,x12,l5,M2⟩ ⟨k12,hm2,m8⟩;dsimp only at k12 hm2 m8 ⊢;refine M.o_bind (within_out k12 (by omega) (by omega) (by omega) (by omega)) ?_;rintro ⟨r19,u19,x19⟩ ⟨k19,g19,g19'⟩;dsimp only at k19 g19 g19' ⊢;refine M.o_grd (gA2 (by omega) (by omega)) (M.o_bind (next_out k19 (by omega) (by omega)) ?_);rintro ⟨r20,u20,x20⟩ ⟨k20,g20,_⟩;have g20:=g20 (by omega);dsimp only at k20 g20 ⊢;exact M.o_grd (gA2 (by omega) (by omega)) (M.o_grd (gA2 (by omega) (by omega)) (M.o_pure ⟨(n-1).toNat,by omega,rfl,by dsimp only; omega,by simp; omega,k20.mono (by simp; omega),h.step hr hr2 hr8 hm2 m8 ⟨g19,g19'⟩ (by omega) ⟨g10,g10'⟩⟩))
    · have hb:=of_decide_eq_false hb;exact M.o_pure ⟨S,M1,t,ro,place,stage,rfl,hS.mono (by omega),h,by omega,by omega⟩
  · refine ⟨rfl,rfl,fun j hj=>?_,fun j hj=>?_,fun i j _ hj=>?_,fun j hj=>?_,fun i j _ hj=>?_,fun m hm=>(List.not_mem_nil hm).elim,by simp,fun j hj=>?_,hp.1,by simp; omega,by simp; omega,hs.2⟩ <;> simp at hj
theorem b10_out {b:List UInt8} {u x N:Int} {S:List Sect} {ro:List Int} (hS:SOk 2000 u x) (hn:2<=S.length/\S.length<=5) (hl:ro.length=S.length) (hro:∀ j,j<S.length->30<=ro.getD j 0/\ro.getD j 0<=90) (hN:1<=N/\N<=4) :
    (M.iter (zbL b ro S) (u,x,N,[])).Out (fun z=>z.1=z.2.1/\1<=z.1.length/\z.1.length<=4/\∀ r∈z.1,Fl.Rok S r/\r.lo<=ro.getD (Int.toNat r.up) 0/\r.lo<=ro.getD (Int.toNat r.down) 0/\ro.getD (Int.toNat r.up) 0<=r.hi/\ro.getD (Int.toNat r.down) 0<=r.hi):=by
  refine M.o_iter (fun m (s:Int × Int × Int × List Rch)=>m=s.2.2.1.toNat/\0<=s.2.2.1/\s.2.2.1+s.2.2.2.length=N/\SOk (2000+10*s.2.2.2.length) s.1 s.2.1/\∀ r∈s.2.2.2,Fl.Rok S r/\r.lo<=ro.getD (Int.toNat r.up) 0/\r.lo<=ro.getD (Int.toNat r.down) 0/\ro.getD (Int.toNat r.up) 0<=r.hi/\ro.getD (Int.toNat r.down) 0<=r.hi) ?_ _ (u,x,N,[]) ⟨rfl,by dsimp only; omega,by simp,by simpa using hS,fun r hr=>(List.not_mem_nil hr).elim⟩;rintro m ⟨u,x,n,l⟩ ⟨rfl,n0,nl,hS,hr⟩;dsimp only at n0 nl hS hr ⊢;simp only [zbL];refine M.o_if (fun hb=>?_) (fun hb=>?_)
  · have hb:=of_decide_eq_true hb;refine M.o_bind (next_out hS (by omega) (by omega)) ?_;rintro ⟨a,u1,x1⟩ ⟨k1,g1,_⟩;have g1:=g1 (by omega);dsimp only at k1 g1 ⊢;refine M.o_bind (next_out k1 (by omega) (by omega)) ?_;rintro ⟨w,u2,x2⟩ ⟨k2,g2,_⟩;dsimp only at k2 ⊢;refine M.o_grd (gA2 (by omega) (by omega)) (M.o_bind (within_out k2 (by omega) (by omega) (by omega) (by omega)) ?_);rintro ⟨d,u3,x3⟩ ⟨k3,g3,g3'⟩;dsimp only at k3 g3 g3' ⊢;have ra:=hro (Int.toNat a) (by omega);have rb:=hro (Int.toNat (a+d)) (by omega);refine M.o_grd (gA2 (by omega) (by omega)) (M.o_grd (gA2 (by omega) (by omega)) (M.o_grd (gA2 (by omega) (by omega)) (M.o_bind (next_out k3 (by omega) (by omega)) ?_)));rintro ⟨e,u4,x4⟩ ⟨k4,g4,_⟩;have g4:=g4 (by omega);dsimp only at k4 g4 ⊢;refine M.o_grd (gA2 (by omega) (by omega)) (M.o_bind (next_out k4 (by omega) (by omega)) ?_);rintro ⟨f,u5,x5⟩ ⟨k5,g5,_⟩;have g5:=g5 (by omega);dsimp only at k5 g5 ⊢;refine M.o_grd (gA2 (by omega) (by omega)) (M.o_grd (decide_eq_true (by simp; omega)) (M.o_grd (gA2 (by omega) (by omega)) (M.o_pure ⟨(n-1).toNat,by omega,rfl,by dsimp only; omega,by simp; omega,k5.mono (by simp; omega),fun r h=>?_⟩)));rcases List.mem_append.1 h with h | h
    · exact hr r h
    · rw [List.mem_singleton] at h;subst h;dsimp only;exact ⟨⟨by dsimp only; omega,by dsimp only; omega,by dsimp only; omega,by dsimp only; omega,by dsimp only; omega,by dsimp only; omega⟩,by omega,by omega,by omega,by omega⟩
  · have hb:=of_decide_eq_false hb;exact M.o_pure ⟨rfl,by dsimp only; omega,by dsimp only; omega,hr⟩
theorem truth_of {S:List Sect} {M':List Mrk} {R:List Rch} {t ro:List Int} {place stage:Int} (h:Fl.Mi S M' t ro place stage) (hn:2<=S.length/\S.length<=5) (hm:1<=M'.length) (hr:1<=R.length/\R.length<=4)
    (hR:∀ r∈R,Fl.Rok S r/\r.lo<=ro.getD (Int.toNat r.up) 0/\r.lo<=ro.getD (Int.toNat r.down) 0/\ro.getD (Int.toNat r.up) 0<=r.hi/\ro.getD (Int.toNat r.down) 0<=r.hi):Fl.Truth S M' R t ro:=by
  have p1:=h.p1;have s0:=h.s0;have m8:=h.m8;refine ⟨⟨⟨by omega,h.rows,fun i hi=>?_,fun i j hij hj=>?_⟩,by omega,by omega,fun m hm=>(h.mt m hm).1,fun r hr=>(hR r hr).1⟩,h.m8,h.tl,h.rl,fun i hi=>?_,h.td,h.gap,fun m hm=>(h.mt m hm).2,fun i hi=>?_,fun r hr=>(hR r hr).2⟩
  · have:=h.pl i hi; omega
  · have:=h.gap i j hij hj; omega
  · have:=h.tr i hi; omega
  · have:=h.ro0 i hi; omega
theorem j11_out {b:List UInt8} {u x:Int} {S:List Sect} {M':List Mrk} {t ro:List Int} {place stage:Int} (h:Fl.Mi S M' t ro place stage) (hn:2<=S.length/\S.length<=5) (hm:1<=M'.length) (hS:SOk 1000 u x) :
    (zaD b u x ro t S M').Out (fun z=>Fl.Truth z.1 z.2.1 z.2.2.1 z.2.2.2.1 z.2.2.2.2.1):=by
  unfold zaD;refine M.o_bind (within_out hS (by omega) (by omega) (by omega) (by omega)) ?_;rintro ⟨r,u1,x1⟩ ⟨k1,g1,g1'⟩;dsimp only at k1 g1 g1' ⊢;refine M.o_bind (b10_out (k1.mono (by omega)) hn h.rl h.ro0 ⟨g1,g1'⟩) ?_;rintro ⟨l,l',u2,x2⟩ ⟨e,h1,h2,h3⟩;dsimp only at e h1 h2 h3 ⊢;subst e;exact M.o_pure (truth_of h hn hm ⟨h1,h2⟩ h3)
theorem Made_out {b:List UInt8}:(zb7 b 0 0 8 false).Out (fun z=>Fl.Truth z.1 z.2.1 z.2.2.1 z.2.2.2.1 z.2.2.2.2.1):=by
  unfold zb7;refine M.o_bind (next_out SOk.zero (by omega) (by omega)) ?_;rintro ⟨r2,u1,x1⟩ ⟨k1,g1,_⟩;have g1:=g1 (by omega);dsimp only at k1 g1 ⊢;refine M.o_bind (within_out k1 (by omega) (by omega) (by omega) (by omega)) ?_;rintro ⟨r3,u2,x2⟩ ⟨k2,g2,g2'⟩;dsimp only at k2 g2 g2' ⊢;refine M.o_bind (within_out k2 (by omega) (by omega) (by omega) (by omega)) ?_;rintro ⟨r4,u3,x3⟩ ⟨k3,g3,g3'⟩;dsimp only at k3 g3 g3' ⊢;refine M.o_bind (b9_out (k3.mono (by omega)) (by omega) ⟨g2,g2'⟩ ⟨g3,g3'⟩) ?_;rintro ⟨u4,x4,z⟩ ⟨S,M',t,ro,place,stage,e,k4,h,n2,n5⟩;obtain rfl:=(Prod.mk.inj (Prod.mk.inj e).2).2;dsimp only at k4 ⊢;have p1:=h.p1;have s0:=h.s0;refine M.o_if (fun hb=>?_) (fun hb=>?_)
  · rw [beq_iff_eq] at hb;have hz:M'.length=0:=by omega
    have t0:=h.tr 0 (by omega);have p0:=h.pl 0 (by omega);have tl:=h.tl;refine M.o_grd (decide_eq_true (by omega)) (M.o_grd (decide_eq_true (by omega)) (M.o_grd (gA2 (by omega) (by omega)) (M.o_grd (gA2 (by omega) (by omega)) (M.o_grd (decide_eq_true (by simp; omega)) (j11_out (place:=place) (stage:=stage) ?_ ⟨n2,n5⟩ (by simp) k4)))));have hm:Fl.Mt S t ⟨(S.getD 0 default).place,t.getD 0 0-5,t.getD 0 0+5⟩:=⟨⟨by dsimp only; omega,by dsimp only; omega,by dsimp only; omega,by dsimp only; omega,by dsimp only; omega⟩,0,by omega,by dsimp only; omega⟩
    exact ⟨h.tl,h.rl,h.rows,h.pl,h.gap,h.tr,h.td,fun m hmm=>by
      rcases List.mem_append.1 hmm with hmm | hmm
      · exact h.mt m hmm
      · rw [List.mem_singleton] at hmm;subst hmm;exact hm,by simp; omega,h.ro0,h.p0,h.p1,h.s0,h.s1⟩
  · rw [beq_eq_false_iff_ne] at hb;exact j11_out h ⟨n2,n5⟩ (by omega) k4
end Go.Proofs.YtaolcidinlnklaaGreat
-- libD/GP.lean
namespace Go.Nm
namespace Fl
section
variable {S:List Sect} {M:List Mrk} {R:List Rch} {t ro ms:List Int} {r:Rch}
theorem pk (hS:Secs S) (hr:Rok S r) (hk:∀ x∈M,Mok x) (hx:Ixs M ms) (ht:Tog M ms) {c c1 c2:Cas} {a b:Int} (ha:IsLow S M ms r c1 a) (hb:IsHigh S M ms r c2 b) (hc:Cok c)
    (hd:Dn S M ms r c.down) (h0:stLo M ms (pu S r)<=c.up) (h1:c.up<=stHi M ms (pu S r)) (k1:r.lo<=c.roughup) (k2:c.roughup<=r.hi) (k3:r.lo<=c.roughdown) (k4:c.roughdown<=r.hi) :
    0<=a/\a<=fl S r c/\fl S r c<=b:=by
  obtain ⟨x,_,_,e1,m1⟩:=ha;obtain ⟨y,_,_,e2,m2⟩:=hb;have q1:=m1 _ hd;have q2:=m2 _ hd;have du:=hc.du;refine ⟨by rw [e1]; exact fl_nn _,Int.le_trans q1 (fl_mono hS hr (lc_ok hr hk hx ht hd) hc rfl ?_ k2 k4),Int.le_trans (fl_mono hS hr hc (hc_ok hr hd) rfl h1 k1 k3) q2⟩;show max (stLo M ms (pu S r)) c.down<=c.up;omega
theorem Truth.rok (h:Truth S M R t ro) {i:Nat} (hi:i<R.length):Rok S (R.getD i default):=by
  rw [getD_el R hi];exact h.site.rks _ (List.getElem_mem hi)
theorem ints_ix (M:List Mrk):Ixs M (ints M.length):=fun k hk=>by
  unfold ints at hk;obtain ⟨i,hi,rfl⟩:=List.mem_map.1 hk;have:=List.mem_range.1 hi;omega
theorem ints_inc (M:List Mrk):Inc M (ints M.length):=by
  refine ⟨?_,ints_ix M⟩;unfold ints;rw [List.pairwise_map];exact List.Pairwise.imp (fun h=>by omega) List.pairwise_lt_range
end
end Fl
end Go.Nm
namespace Go.Proofs.YtaolcidinlnklaaGreat
open Go Go.Nm
section
variable {S:List Sect} {M':List Mrk} {R':List Rch} {t ro:List Int}
end
end Go.Proofs.YtaolcidinlnklaaGreat
-- libR4/RM.lean
namespace Go.Nm
/-- A gauging, in numbers: a stage, and the ends of a span. -/
structure Gq where
  s:Int
  lo:Int
  hi:Int
theorem mul_le_l {a b c:Int} (hc:0<=c) (h:a<=b):c*a<=c*b:=Int.mul_le_mul_of_nonneg_left h hc
theorem mul_le_r {a b c:Int} (hc:0<=c) (h:a<=b):a*c<=b*c:=Int.mul_le_mul_of_nonneg_right h hc
theorem of_mul_le {a b c:Int} (hc:0<c) (h:a*c<=b*c):a<=b:=Int.le_of_mul_le_mul_right h hc
/-- Of some numbers one is the greatest. -/
theorem ex_max {α:Type} (f:α->Int):∀ (l:List α),l ≠ []->∃ a∈l,∀ b∈l,f b<=f a
  | [],h=>absurd rfl h
  | [a],_=>⟨a,by simp,by simp⟩
  | a :: b :: l,_=>by
    obtain ⟨m,hm,h⟩:=ex_max f (b :: l) (by simp);by_cases hc:f a<=f m
    · exact ⟨m,List.mem_cons_of_mem _ hm,fun c hc'=>by rcases List.mem_cons.1 hc' with rfl | h2; exact hc; exact h c h2⟩
    · exact ⟨a,by simp,fun c hc'=>by rcases List.mem_cons.1 hc' with rfl | h2; exact Int.le_refl _; have:=h c h2; omega⟩
/-- Fractions with denominators above 0: the order by products is transitive. -/
theorem frac_trans {a b c d e f:Int} (hb:0<b) (hd:0<d) (hf:0<f) (h1:a*d<=c*b) (h2:c*f<=e*d):a*f<=e*b:=by
  have h3:a*d*f<=c*b*f:=mul_le_r (by omega) h1;have h4:c*f*b<=e*d*b:=mul_le_r (by omega) h2;have h5:a*f*d<=e*b*d:=by
    calc a*f*d=a*d*f:=by ac_rfl
      _<=c*b*f:=h3
      _=c*f*b:=by ac_rfl
      _<=e*d*b:=h4
      _=e*b*d:=by ac_rfl
  exact of_mul_le hd h5
theorem ex_maxF {α:Type} (p q:α->Int):∀ (l:List α),(∀ a∈l,0<q a)->l ≠ []->∃ a∈l,∀ b∈l,p b*q a<=p a*q b
  | [],_,h=>absurd rfl h
  | [a],_,_=>⟨a,by simp,by simp⟩
  | a :: b :: l,hq,_=>by
    obtain ⟨m,hm,h⟩:=ex_maxF p q (b :: l) (fun x hx=>hq x (List.mem_cons_of_mem _ hx)) (by simp);have qa:=hq a (by simp);have qm:=hq m (List.mem_cons_of_mem _ hm);by_cases hc:p a*q m<=p m*q a
    · exact ⟨m,List.mem_cons_of_mem _ hm,fun c hc'=>by rcases List.mem_cons.1 hc' with rfl | h2; exact hc; exact h c h2⟩
    · refine ⟨a,by simp,fun c hc'=>?_⟩;rcases List.mem_cons.1 hc' with rfl | h2
      · exact Int.le_refl _
      · exact frac_trans (hq c hc') qm qa (h c h2) (by omega)
/-- The line through a point of a slope d by w passes all. -/
def Thru (S:List Gq) (e s0 w d:Int):Prop:=∀ g∈S,g.lo*w<=e*w+d*(g.s-s0)/\e*w+d*(g.s-s0)<=g.hi*w
/-- Below a line that passes all there is one of its slope that meets a lower end. -/
theorem meets_low {S:List Gq} (hS:S ≠ []) {w d n:Int} (hp:∀ g∈S,g.lo*w<=n+d*g.s/\n+d*g.s<=g.hi*w) (st:Int):∃ g∈S,g.lo*w+d*(st-g.s)<=n+d*st/\Thru S g.lo g.s w d:=by
  obtain ⟨g,hg,hm⟩:=ex_max (fun g:Gq=>g.lo*w-d*g.s) S hS;have a:=(hp g hg).1;refine ⟨g,hg,?_,fun j hj=>⟨?_,?_⟩⟩
  · rw [Int.mul_sub];omega
  · have:=hm j hj;rw [Int.mul_sub];omega
  · have:=(hp j hj).2;rw [Int.mul_sub];omega
/-- Above it there is one that meets an upper end. -/
theorem meets_high {S:List Gq} (hS:S ≠ []) {w d n:Int} (hp:∀ g∈S,g.lo*w<=n+d*g.s/\n+d*g.s<=g.hi*w) (st:Int):∃ g∈S,n+d*st<=g.hi*w+d*(st-g.s)/\Thru S g.hi g.s w d:=by
  obtain ⟨g,hg,hm⟩:=ex_max (fun g:Gq=>d*g.s-g.hi*w) S hS;have a:=(hp g hg).2;refine ⟨g,hg,?_,fun j hj=>⟨?_,?_⟩⟩
  · rw [Int.mul_sub];omega
  · have:=(hp j hj).1;rw [Int.mul_sub];omega
  · have:=hm j hj;rw [Int.mul_sub];omega
/-- The slopes that a line through a point must at least have, and those that it may have at most. -/
def lows (S:List Gq) (e s0:Int):List (Int × Int):=S.filterMap fun g=>if s0<g.s then some (g.lo-e,g.s-s0) else if g.s<s0 then some (e-g.hi,s0-g.s) else none
def highs (S:List Gq) (e s0:Int):List (Int × Int):=S.filterMap fun g=>if s0<g.s then some (g.hi-e,g.s-s0) else if g.s<s0 then some (e-g.lo,s0-g.s) else none
theorem mem_lows {S:List Gq} {e s0:Int} {x:Int × Int} (h:x∈lows S e s0):∃ g∈S,(s0<g.s/\x.2=g.s-s0/\x.1=g.lo-e)∨(g.s<s0/\x.2=s0-g.s/\x.1=e-g.hi):=by
  obtain ⟨g,hg,h⟩:=List.mem_filterMap.1 h;refine ⟨g,hg,?_⟩;split at h
  · obtain rfl:=Option.some.inj h;exact .inl ⟨by assumption,rfl,rfl⟩
  · split at h
    · obtain rfl:=Option.some.inj h;exact .inr ⟨by assumption,rfl,rfl⟩
    · cases h
theorem mem_highs {S:List Gq} {e s0:Int} {x:Int × Int} (h:x∈highs S e s0):∃ g∈S,(s0<g.s/\x.2=g.s-s0/\x.1=g.hi-e)∨(g.s<s0/\x.2=s0-g.s/\x.1=e-g.lo):=by
  obtain ⟨g,hg,h⟩:=List.mem_filterMap.1 h;refine ⟨g,hg,?_⟩;split at h
  · obtain rfl:=Option.some.inj h;exact .inl ⟨by assumption,rfl,rfl⟩
  · split at h
    · obtain rfl:=Option.some.inj h;exact .inr ⟨by assumption,rfl,rfl⟩
    · cases h
theorem lows_r {S:List Gq} {e s0:Int} {g:Gq} (hg:g∈S) (h:s0<g.s):(g.lo-e,g.s-s0)∈lows S e s0:=List.mem_filterMap.2 ⟨g,hg,by rw [if_pos h]⟩
theorem lows_l {S:List Gq} {e s0:Int} {g:Gq} (hg:g∈S) (h:g.s<s0):(e-g.hi,s0-g.s)∈lows S e s0:=List.mem_filterMap.2 ⟨g,hg,by rw [if_neg (by omega),if_pos h]⟩
theorem highs_r {S:List Gq} {e s0:Int} {g:Gq} (hg:g∈S) (h:s0<g.s):(g.hi-e,g.s-s0)∈highs S e s0:=List.mem_filterMap.2 ⟨g,hg,by rw [if_pos h]⟩
theorem highs_l {S:List Gq} {e s0:Int} {g:Gq} (hg:g∈S) (h:g.s<s0):(e-g.lo,s0-g.s)∈highs S e s0:=List.mem_filterMap.2 ⟨g,hg,by rw [if_neg (by omega),if_pos h]⟩
theorem turn_sub {a b:Int} (k:Int):a*(b-k) = -(a*(k-b)):=by rw [← Int.mul_neg,Int.neg_sub]
/-- What each slope that passes keeps. -/
theorem thru_low {S:List Gq} {e s0 w d:Int} (h:Thru S e s0 w d) {x:Int × Int} (hx:x∈lows S e s0):0<x.2/\x.1*w<=d*x.2:=by
  obtain ⟨g,hg,⟨h1,h2,h3⟩ | ⟨h1,h2,h3⟩⟩:=mem_lows hx
  · have:=(h g hg).1;refine ⟨by omega,?_⟩;rw [h2,h3,Int.sub_mul];omega
  · have:=(h g hg).2;refine ⟨by omega,?_⟩;rw [h2,h3,Int.sub_mul];rw [turn_sub] at this;omega
theorem thru_high {S:List Gq} {e s0 w d:Int} (h:Thru S e s0 w d) {x:Int × Int} (hx:x∈highs S e s0):0<x.2/\d*x.2<=x.1*w:=by
  obtain ⟨g,hg,⟨h1,h2,h3⟩ | ⟨h1,h2,h3⟩⟩:=mem_highs hx
  · have:=(h g hg).2;refine ⟨by omega,?_⟩;rw [h2,h3,Int.sub_mul];omega
  · have:=(h g hg).1;refine ⟨by omega,?_⟩;rw [h2,h3,Int.sub_mul];rw [turn_sub] at this;omega
/-- A slope that is at least what it must be, and at most what it may be, passes. -/
theorem thru_of {S:List Gq} {e s0 w d:Int} (hw:0<w) (h0:∀ g∈S,g.s=s0->g.lo<=e/\e<=g.hi) (hl:∀ x∈lows S e s0,x.1*w<=d*x.2) (hh:∀ x∈highs S e s0,d*x.2<=x.1*w):Thru S e s0 w d:=by
  intro g hg;by_cases h1:s0<g.s
  · have a:=hl _ (lows_r hg h1);have b:=hh _ (highs_r hg h1);dsimp only at a b;rw [Int.sub_mul] at a b;exact ⟨by omega,by omega⟩
  · by_cases h2:g.s<s0
    · have a:=hl _ (lows_l hg h2);have b:=hh _ (highs_l hg h2);dsimp only at a b;rw [Int.sub_mul] at a b;rw [turn_sub];exact ⟨by omega,by omega⟩
    · have h3:g.s=s0:=by omega
      obtain ⟨a,b⟩:=h0 g hg h3;rw [h3,Int.sub_self,Int.mul_zero,Int.add_zero];exact ⟨mul_le_r (by omega) a,mul_le_r (by omega) b⟩
theorem thru_at {S:List Gq} {e s0 w d:Int} (hw:0<w) (h:Thru S e s0 w d) {g:Gq} (hg:g∈S) (hs:g.s=s0):g.lo<=e/\e<=g.hi:=by
  obtain ⟨a,b⟩:=h g hg;rw [hs,Int.sub_self,Int.mul_zero,Int.add_zero] at a b;exact ⟨of_mul_le hw a,of_mul_le hw b⟩
/-- A line that is turned down about a point of its own, till it is level or meets an end. -/
theorem turn_down {S:List Gq} {e s0 w d:Int} (hw:0<w) (hd:0<=d) (h:Thru S e s0 w d):∃ w' d',0<w'/\0<=d'/\Thru S e s0 w' d'/\d'*w<=d*w'/\((d'=0/\w'=1)∨∃ g∈S,(s0<g.s/\w'=g.s-s0/\d'=g.lo-e)∨(g.s<s0/\w'=s0-g.s/\d'=e-g.hi)):=by
  have hq:∀ x∈((0,1) :: lows S e s0:List (Int × Int)),0<x.2/\x.1*w<=d*x.2:=by
    intro x hx;rcases List.mem_cons.1 hx with rfl | hx
    · exact ⟨by decide,by dsimp only; omega⟩
    · exact thru_low h hx
  obtain ⟨⟨d',w'⟩,hm,hb⟩:=ex_maxF (fun x:Int × Int=>x.1) (fun x=>x.2) ((0,1) :: lows S e s0) (fun x hx=>(hq x hx).1) (by simp);dsimp only at hb;obtain ⟨q1,q2⟩:=hq _ hm;dsimp only at q1 q2;refine ⟨w',d',q1,?_,thru_of q1 (fun g hg hs=>thru_at hw h hg hs) (fun x hx=>hb x (List.mem_cons_of_mem _ hx)) (fun x hx=>?_),q2,?_⟩
  · have:=hb (0,1) (by simp);dsimp only at this;omega
  · obtain ⟨k1,k2⟩:=thru_high h hx;exact frac_trans q1 hw k1 q2 k2
  · rcases List.mem_cons.1 hm with h1 | h1
    · injection h1 with h1 h2
      exact .inl ⟨h1,h2⟩
    · exact .inr (mem_lows h1)
/-- A line that is turned up, till it meets an end, if there is one at another stage. -/
theorem turn_up {S:List Gq} {e s0 w d:Int} (hw:0<w) (hd:0<=d) (h:Thru S e s0 w d):(∃ w' d',0<w'/\0<=d'/\Thru S e s0 w' d'/\d*w'<=d'*w/\∃ g∈S,(s0<g.s/\w'=g.s-s0/\d'=g.hi-e)∨(g.s<s0/\w'=s0-g.s/\d'=e-g.lo))∨∀ g∈S,g.s=s0:=by
  by_cases hn:highs S e s0=[]
  · refine .inr fun g hg=>?_;by_cases h1:s0<g.s
    · have:=highs_r (e:=e) hg h1;rw [hn] at this;cases this
    · by_cases h2:g.s<s0
      · have:=highs_l (e:=e) hg h2;rw [hn] at this;cases this
      · omega
  · obtain ⟨⟨d',w'⟩,hm,hb⟩:=ex_maxF (fun x:Int × Int=>-x.1) (fun x=>x.2) (highs S e s0) (fun x hx=>(thru_high h hx).1) hn;obtain ⟨q1,q2⟩:=thru_high h hm;dsimp only at q1 q2 hb;refine .inl ⟨w',d',q1,?_,thru_of q1 (fun g hg hs=>thru_at hw h hg hs) (fun x hx=>?_) (fun x hx=>?_),q2,mem_highs hm⟩
    · have:0*w<=d'*w:=by
        have:=Int.mul_nonneg hd (Int.le_of_lt q1);omega
      exact of_mul_le hw this
    · obtain ⟨k1,k2⟩:=thru_low h hx;exact frac_trans k1 hw q1 k2 q2
    · have:=hb x hx;rw [Int.neg_mul,Int.neg_mul] at this;omega
end Go.Nm
-- libR4/RN.lean
namespace Go.Nm
/-- A line through two points. -/
structure Ln where
  sa:Int
  fa:Int
  sb:Int
  fb:Int
def Ln.w (x:Ln):Int:=x.sb-x.sa
/-- What it has at a stage, times its width. -/
def Ln.at (x:Ln) (t:Int):Int:=x.fa*x.w+(x.fb-x.fa)*(t-x.sa)
structure Ln.R (M F:Int) (x:Ln):Prop where
  a0:0<=x.sa
  ab:x.sa<x.sb
  bM:x.sb<=M
  f0:0<=x.fa
  ff:x.fa<=x.fb
  fF:x.fb<=F
def Ln.P (S:List Gq) (x:Ln):Prop:=∀ g∈S,g.lo*x.w<=x.at g.s/\x.at g.s<=g.hi*x.w
def lvl (M:Int) (s f:Int):Ln:=if s=M then ⟨s-1,f,s,f⟩ else ⟨s,f,s+1,f⟩
/-- An end of a span. -/
def End (S:List Gq) (s f:Int):Prop:=∃ g∈S,g.s=s/\(f=g.lo∨f=g.hi)
/-- Lines through ends, and level ones. -/
inductive Thr (M:Int) (S:List Gq):Ln->Prop
  | lvl {s f:Int} (h:End S s f):Thr M S (lvl M s f)
  | two {s f u v:Int} (h:End S s f) (k:End S u v):Thr M S ⟨s,f,u,v⟩
inductive Cd (M F:Int) (S:List Gq) (t:Int):Ln->Prop
  | thr {x:Ln} (h:Thr M S x):Cd M F S t x
  | low {s f:Int} (h:End S s f):Cd M F S t ⟨t,0,s,f⟩
  | high {s f:Int} (h:End S s f):Cd M F S t ⟨s,f,t,F⟩
def Gq.ok (M F:Int) (g:Gq):Prop:=0<=g.s/\g.s<=M/\0<=g.lo/\g.lo<=g.hi/\g.hi<=F
variable {M F t:Int} {S:List Gq}
theorem End.ok (hr:∀ g∈S,g.ok M F) {s f:Int} (h:End S s f):0<=s/\s<=M/\0<=f/\f<=F:=by
  obtain ⟨g,hg,rfl,h | h⟩:=h <;> obtain ⟨a,b,c,d,e⟩:=hr g hg <;> subst h <;> refine ⟨a,b,?_,?_⟩ <;> omega
theorem cmp_up {e w d w' d' k:Int} (hk:0<=k) (h:d'*w<=d*w'):(e*w'+d'*k)*w<=(e*w+d*k)*w':=by
  have a:d'*w*k<=d*w'*k:=mul_le_r hk h
  calc (e*w'+d'*k)*w=e*w'*w+d'*w*k:=by rw [Int.add_mul,Int.mul_right_comm d' k w]
    _<=e*w'*w+d*w'*k:=by omega
    _=(e*w+d*k)*w':=by rw [Int.add_mul,Int.mul_right_comm d k w',Int.mul_right_comm e w w']
theorem cmp_dn {e w d w' d' k:Int} (hk:k<=0) (h:d*w'<=d'*w):(e*w'+d'*k)*w<=(e*w+d*k)*w':=by
  have a:d*w'*(-k)<=d'*w*(-k):=mul_le_r (by omega) h;rw [Int.mul_neg,Int.mul_neg] at a
  calc (e*w'+d'*k)*w=e*w'*w+d'*w*k:=by rw [Int.add_mul,Int.mul_right_comm d' k w]
    _<=e*w'*w+d*w'*k:=by omega
    _=(e*w+d*k)*w':=by rw [Int.add_mul,Int.mul_right_comm d k w',Int.mul_right_comm e w w']
/-- A line through a point, told by that point. -/
structure RTb (x:Ln) (e s0 w d:Int):Prop where
  wd:x.w=w
  at':∀ u,x.at u=e*w+d*(u-s0)
theorem RTb.pass {x:Ln} {e s0 w d:Int} (h:RTb x e s0 w d) (k:Thru S e s0 w d):x.P S:=fun g hg=>by
  have:=k g hg;rw [h.at',h.wd];exact this
theorem tb_a (s f u v:Int):RTb ⟨s,f,u,v⟩ f s (u-s) (v-f):=⟨rfl,fun _=>rfl⟩
theorem tb_b (s f u v:Int):RTb ⟨s,f,u,v⟩ v u (u-s) (v-f):=⟨rfl,fun k=>by
  show f*(u-s)+(v-f)*(k-s)=v*(u-s)+(v-f)*(k-u);rw [show k-s=(k-u)+(u-s) by omega,Int.mul_add,Int.sub_mul v f (u-s)];omega⟩
theorem tb_lvl (M s f:Int):RTb (lvl M s f) f s 1 0:=by
  by_cases h:s=M
  · have:lvl M s f=⟨s-1,f,s,f⟩:=if_pos h;rw [this];refine ⟨by show s-(s-1)=1; omega,fun u=>?_⟩;show f*(s-(s-1))+(f-f)*_=_;rw [show s-(s-1)=1 by omega,Int.sub_self];omega
  · have:lvl M s f=⟨s,f,s+1,f⟩:=if_neg h;rw [this];refine ⟨by show s+1-s=1; omega,fun u=>?_⟩;show f*(s+1-s)+(f-f)*_=_;rw [show s+1-s=1 by omega,Int.sub_self]
theorem lvl_R (h0:0<M) {s f:Int} (h:0<=s/\s<=M/\0<=f/\f<=F):(lvl M s f).R M F:=by
  obtain ⟨a,b,c,d⟩:=h;by_cases hs:s=M
  · rw [show lvl M s f=⟨s-1,f,s,f⟩ from if_pos hs];exact ⟨by show 0<=s-1; omega,by show s-1<s; omega,b,c,Int.le_refl _,d⟩
  · rw [show lvl M s f=⟨s,f,s+1,f⟩ from if_neg hs];exact ⟨a,by show s<s+1; omega,by show s+1<=M; omega,c,Int.le_refl _,d⟩
/-- Turned down about an end, till it is level or meets an end: one of the lines that are tried. -/
theorem down_thr (h0:0<M) (hr:∀ g∈S,g.ok M F) {e s0 w d:Int} (he:End S s0 e) (hw:0<w) (hd:0<=d) (h:Thru S e s0 w d):∃ c w' d',Thr M S c/\c.R M F/\c.P S/\0<w'/\0<=d'/\Thru S e s0 w' d'/\RTb c e s0 w' d'/\d'*w<=d*w':=by
  obtain ⟨w',d',hw',hd',ht,hle,⟨rfl,rfl⟩ | ⟨g,hg,⟨h1,rfl,rfl⟩ | ⟨h1,rfl,rfl⟩⟩⟩:=turn_down hw hd h
  · exact ⟨_,_,_,.lvl he,lvl_R h0 (he.ok hr),(tb_lvl M s0 e).pass ht,hw',hd',ht,tb_lvl M s0 e,hle⟩
  · have hk:End S g.s g.lo:=⟨g,hg,rfl,.inl rfl⟩
    have a:=he.ok hr;have b:=hk.ok hr;exact ⟨_,_,_,.two he hk,⟨a.1,h1,b.2.1,a.2.2.1,(by show e<=g.lo; omega),b.2.2.2⟩,(tb_a s0 e g.s g.lo).pass ht,hw',hd',ht,tb_a s0 e g.s g.lo,hle⟩
  · have hk:End S g.s g.hi:=⟨g,hg,rfl,.inr rfl⟩
    have a:=he.ok hr;have b:=hk.ok hr;exact ⟨_,_,_,.two hk he,⟨b.1,h1,a.2.1,b.2.2.1,(by show g.hi<=e; omega),a.2.2.2⟩,(tb_b g.s g.hi s0 e).pass ht,hw',hd',ht,tb_b g.s g.hi s0 e,hle⟩
theorem up_thr (hr:∀ g∈S,g.ok M F) {e s0 w d:Int} (he:End S s0 e) (hw:0<w) (hd:0<=d) (h:Thru S e s0 w d):(∃ c w' d',Thr M S c/\c.R M F/\c.P S/\0<w'/\0<=d'/\Thru S e s0 w' d'/\RTb c e s0 w' d'/\d*w'<=d'*w)∨∀ g∈S,g.s=s0:=by
  rcases turn_up hw hd h with ⟨w',d',hw',hd',ht,hle,g,hg,⟨h1,rfl,rfl⟩ | ⟨h1,rfl,rfl⟩⟩ | hall
  · have hk:End S g.s g.hi:=⟨g,hg,rfl,.inr rfl⟩
    have a:=he.ok hr;have b:=hk.ok hr;exact .inl ⟨_,_,_,.two he hk,⟨a.1,h1,b.2.1,a.2.2.1,(by show e<=g.hi; omega),b.2.2.2⟩,(tb_a s0 e g.s g.hi).pass ht,hw',hd',ht,tb_a s0 e g.s g.hi,hle⟩
  · have hk:End S g.s g.lo:=⟨g,hg,rfl,.inl rfl⟩
    have a:=he.ok hr;have b:=hk.ok hr;exact .inl ⟨_,_,_,.two hk he,⟨b.1,h1,a.2.1,b.2.2.1,(by show g.lo<=e; omega),a.2.2.2⟩,(tb_b g.s g.lo s0 e).pass ht,hw',hd',ht,tb_b g.s g.lo s0 e,hle⟩
  · exact .inr hall
/-- Where all stages are one, each slope passes. -/
theorem thru_one {e s0 w d w' d':Int} (hall:∀ g∈S,g.s=s0) (hw:0<w) (hw':0<w') (h:Thru S e s0 w d):Thru S e s0 w' d':=fun g hg=>by
  obtain ⟨a,b⟩:=thru_at hw h hg (hall g hg);rw [hall g hg,Int.sub_self,Int.mul_zero,Int.add_zero];exact ⟨mul_le_r (by omega) a,mul_le_r (by omega) b⟩
theorem Ln.line {x:Ln} (u:Int):x.at u=(x.fa*x.w-(x.fb-x.fa)*x.sa)+(x.fb-x.fa)*u:=by
  show x.fa*x.w+(x.fb-x.fa)*(u-x.sa)=_;rw [Int.mul_sub];omega
/-- None that passes has less than the least of what is tried. -/
theorem low_cand (h0:0<M) (hS:S ≠ []) (hr:∀ g∈S,g.ok M F) (t0:0<=t) {x:Ln} (R:x.R M F) (P:x.P S):∃ c,Cd M F S t c/\c.R M F/\c.P S/\(c.at t*x.w<=x.at t*c.w∨c.at t<=0):=by
  have hw:0<x.w:=by have:=R.ab; show 0<x.sb-x.sa; omega
  have hd:0<=x.fb-x.fa:=by have:=R.ff; omega
  obtain ⟨g,hg,hle,ht⟩:=meets_low (w:=x.w) (d:=x.fb-x.fa) (n:=x.fa*x.w-(x.fb-x.fa)*x.sa) hS (fun j hj=>by rw [← Ln.line]; exact P j hj) t;rw [← Ln.line] at hle;have he:End S g.s g.lo:=⟨g,hg,rfl,.inl rfl⟩
  have ho:=he.ok hr;by_cases hts:g.s<=t
  · obtain ⟨c,w',d',h1,h2,h3,h4,h5,-,h6,h7⟩:=down_thr h0 hr he hw hd ht;refine ⟨c,.thr h1,h2,h3,.inl ?_⟩;rw [h6.at',h6.wd];exact Int.le_trans (cmp_up (by omega) h7) (mul_le_r (by omega) hle)
  · rcases up_thr hr he hw hd ht with ⟨c,w',d',h1,h2,h3,h4,h5,-,h6,h7⟩ | hall
    · refine ⟨c,.thr h1,h2,h3,.inl ?_⟩;rw [h6.at',h6.wd];exact Int.le_trans (cmp_dn (by omega) h7) (mul_le_r (by omega) hle)
    · refine ⟨⟨t,0,g.s,g.lo⟩,.low he,⟨t0,(by show t<g.s; omega),ho.2.1,Int.le_refl _,ho.2.2.1,ho.2.2.2⟩,?_,.inr ?_⟩
      · exact (tb_b t 0 g.s g.lo).pass (thru_one hall hw (by omega) ht)
      · show 0*_+(g.lo-0)*(t-t)<=0;rw [Int.sub_self,Int.mul_zero,Int.zero_mul];omega
/-- None that passes has more than the greatest of what is tried. -/
theorem high_cand (h0:0<M) (hS:S ≠ []) (hr:∀ g∈S,g.ok M F) (tM:t<=M) {x:Ln} (R:x.R M F) (P:x.P S):∃ c,Cd M F S t c/\c.R M F/\c.P S/\(x.at t*c.w<=c.at t*x.w∨F*c.w<=c.at t):=by
  have hw:0<x.w:=by have:=R.ab; show 0<x.sb-x.sa; omega
  have hd:0<=x.fb-x.fa:=by have:=R.ff; omega
  obtain ⟨g,hg,hle,ht⟩:=meets_high (w:=x.w) (d:=x.fb-x.fa) (n:=x.fa*x.w-(x.fb-x.fa)*x.sa) hS (fun j hj=>by rw [← Ln.line]; exact P j hj) t;rw [← Ln.line] at hle;have he:End S g.s g.hi:=⟨g,hg,rfl,.inr rfl⟩
  have ho:=he.ok hr;by_cases hts:t<=g.s
  · obtain ⟨c,w',d',h1,h2,h3,h4,h5,-,h6,h7⟩:=down_thr h0 hr he hw hd ht;refine ⟨c,.thr h1,h2,h3,.inl ?_⟩;rw [h6.at',h6.wd];exact Int.le_trans (mul_le_r (by omega) hle) (cmp_dn (by omega) h7)
  · rcases up_thr hr he hw hd ht with ⟨c,w',d',h1,h2,h3,h4,h5,-,h6,h7⟩ | hall
    · refine ⟨c,.thr h1,h2,h3,.inl ?_⟩;rw [h6.at',h6.wd];exact Int.le_trans (mul_le_r (by omega) hle) (cmp_up (by omega) h7)
    · refine ⟨⟨g.s,g.hi,t,F⟩,.high he,⟨ho.1,(by show g.s<t; omega),tM,ho.2.2.1,ho.2.2.2,Int.le_refl _⟩,?_,.inr ?_⟩
      · exact (tb_a g.s g.hi t F).pass (thru_one hall hw (by omega) ht)
      · rw [(tb_b g.s g.hi t F).at',Int.sub_self,Int.mul_zero,Int.add_zero];exact Int.le_refl _
/-- If a line passes, so does one through ends, or a level one. -/
theorem some_thr (h0:0<M) (hS:S ≠ []) (hr:∀ g∈S,g.ok M F) {x:Ln} (R:x.R M F) (P:x.P S):∃ c,Thr M S c/\c.R M F/\c.P S:=by
  have hw:0<x.w:=by have:=R.ab; show 0<x.sb-x.sa; omega
  have hd:0<=x.fb-x.fa:=by have:=R.ff; omega
  obtain ⟨g,hg,-,ht⟩:=meets_low (w:=x.w) (d:=x.fb-x.fa) (n:=x.fa*x.w-(x.fb-x.fa)*x.sa) hS (fun j hj=>by rw [← Ln.line]; exact P j hj) 0;obtain ⟨c,w',d',h1,h2,h3,-⟩:=down_thr h0 hr ⟨g,hg,rfl,.inl rfl⟩ hw hd ht;exact ⟨c,h1,h2,h3⟩
end Go.Nm
-- libR4/RF.lean
namespace Go.Nm
/-- A fraction: N by D. -/
structure Fq where
  N:Int
  D:Int
def Fq.le (a b:Fq):Prop:=a.N*b.D<=b.N*a.D
/-- It is n by w. -/
def Fq.Is (q:Fq) (n w:Int):Prop:=0<q.D/\q.N*w=n*q.D
def Fq.clip (F:Int) (q:Fq):Fq:=if q.N<0 then ⟨0,1⟩ else if F*q.D<q.N then ⟨F,1⟩ else q
theorem Fq.clip_D {F:Int} {q:Fq} (h:0<q.D):0<(q.clip F).D:=by
  unfold Fq.clip;split
  · decide
  · split
    · show (0:Int)<1;decide
    · exact h
theorem Fq.clip_in {F:Int} (hF:0<=F) {q:Fq} (h:0<q.D):0<=(q.clip F).N/\(q.clip F).N<=F*(q.clip F).D:=by
  unfold Fq.clip;split
  · exact ⟨Int.le_refl _,by show 0<=F*1; omega⟩
  · split
    · exact ⟨hF,by show F<=F*1; omega⟩
    · exact ⟨by omega,by omega⟩
theorem Fq.le_of {q r:Fq} {n w m v:Int} (hq:q.Is n w) (hr:r.Is m v) (hw:0<w) (hv:0<v) (h:n*v<=m*w):q.le r:=by
  have h1:n*v*(q.D*r.D)<=m*w*(q.D*r.D):=mul_le_r (Int.le_of_lt (Int.mul_pos hq.1 hr.1)) h;have h2:q.N*r.D*(w*v)<=r.N*q.D*(w*v):=by
    calc q.N*r.D*(w*v)=(q.N*w)*(r.D*v):=by ac_rfl
      _=(n*q.D)*(r.D*v):=by rw [hq.2]
      _=n*v*(q.D*r.D):=by ac_rfl
      _<=m*w*(q.D*r.D):=h1
      _=(m*r.D)*(w*q.D):=by ac_rfl
      _=(r.N*v)*(w*q.D):=by rw [hr.2]
      _=r.N*q.D*(w*v):=by ac_rfl
  exact of_mul_le (Int.mul_pos hw hv) h2
theorem Fq.clip_le {F:Int} (hF:0<=F) {q r:Fq} (hq:0<q.D) (hr:0<r.D) (h:q.le r):(q.clip F).le (r.clip F):=by
  have hi:=Fq.clip_in hF hr;by_cases h1:q.N<0
  · rw [show q.clip F=⟨0,1⟩ from if_pos h1];show 0*_<=_*1;omega
  · by_cases h2:F*q.D<q.N
    · rw [show q.clip F=⟨F,1⟩ from (if_neg h1).trans (if_pos h2)];have h3:F*r.D<r.N:=by
        have a:F*q.D*r.D<q.N*r.D:=Int.mul_lt_mul_of_pos_right h2 hr;have b:F*r.D*q.D<r.N*q.D:=by
          have:F*q.D*r.D=F*r.D*q.D:=by ac_rfl
          have:=(show q.N*r.D<=r.N*q.D from h)
          omega
        exact Int.lt_of_mul_lt_mul_right b (Int.le_of_lt hq)
      have h4:¬ r.N<0:=by have:=Int.mul_nonneg hF (Int.le_of_lt hr); omega
      rw [show r.clip F=⟨F,1⟩ from (if_neg h4).trans (if_pos h3)];exact Int.le_refl _
    · rw [show q.clip F=q from (if_neg h1).trans (if_neg h2)];by_cases h3:r.N<0
      · have a:r.N*q.D<0:=Int.mul_neg_of_neg_of_pos h3 hq;have b:0<=q.N*r.D:=Int.mul_nonneg (by omega) (Int.le_of_lt hr);have:=(show q.N*r.D<=r.N*q.D from h)
        omega
      · by_cases h4:F*r.D<r.N
        · rw [show r.clip F=⟨F,1⟩ from (if_neg h3).trans (if_pos h4)];show q.N*1<=F*q.D;omega
        · rw [show r.clip F=r from (if_neg h3).trans (if_neg h4)];exact h
theorem Fq.clip_low {F:Int} (hF:0<=F) {q r:Fq} {n w m v:Int} (hq:q.Is n w) (hr:r.Is m v) (hw:0<w) (hv:0<v) (h:n*v<=m*w∨n<=0):(q.clip F).le (r.clip F):=by
  rcases h with h | h
  · exact Fq.clip_le hF hq.1 hr.1 (Fq.le_of hq hr hw hv h)
  · have hi:=Fq.clip_in hF hr.1;have a:q.N*w<=0:=by
      rw [hq.2];have:=Int.mul_nonneg (show 0<=-n by omega) (Int.le_of_lt hq.1);rw [Int.neg_mul] at this;omega
    have b:q.N<=0:=by
      refine of_mul_le hw ?_;omega
    by_cases h1:q.N<0
    · rw [show q.clip F=⟨0,1⟩ from if_pos h1];show 0*_<=_*1;omega
    · have h0:q.N=0:=by omega
      have h2:¬ F*q.D<q.N:=by have:=Int.mul_nonneg hF (Int.le_of_lt hq.1); omega
      rw [show q.clip F=q from (if_neg h1).trans (if_neg h2)];show q.N*_<=_*q.D;rw [h0,Int.zero_mul];exact Int.mul_nonneg hi.1 (Int.le_of_lt hq.1)
theorem Fq.clip_high {F:Int} (hF:0<=F) {q r:Fq} {n w m v:Int} (hq:q.Is n w) (hr:r.Is m v) (hw:0<w) (hv:0<v) (h:m*w<=n*v∨F*w<=n):(r.clip F).le (q.clip F):=by
  rcases h with h | h
  · exact Fq.clip_le hF hr.1 hq.1 (Fq.le_of hr hq hv hw h)
  · have hi:=Fq.clip_in hF hr.1;have a:F*q.D<=q.N:=by
      have h1:F*w*q.D<=n*q.D:=mul_le_r (Int.le_of_lt hq.1) h;rw [← hq.2] at h1;refine of_mul_le hw ?_;have:F*w*q.D=F*q.D*w:=by ac_rfl
      omega
    have h1:¬ q.N<0:=by have:=Int.mul_nonneg hF (Int.le_of_lt hq.1); omega
    by_cases h2:F*q.D<q.N
    · rw [show q.clip F=⟨F,1⟩ from (if_neg h1).trans (if_pos h2)];show _*1<=F*_;omega
    · rw [show q.clip F=q from (if_neg h1).trans (if_neg h2)];have:q.N=F*q.D:=by omega
      show _*q.D<=q.N*_;rw [this];have:=mul_le_r (Int.le_of_lt hq.1) hi.2;have e:F*(r.clip F).D*q.D=F*q.D*(r.clip F).D:=by ac_rfl
      omega
theorem Fq.trans {a b c:Fq} (ha:0<a.D) (hb:0<b.D) (hc:0<c.D) (h:a.le b) (k:b.le c):a.le c:=frac_trans ha hb hc h k
/-- All flows that lines which pass have at a stage lie between those of the least and the greatest one that is tried. -/
theorem rated {M F t:Int} {S:List Gq} (h0:0<M) (hF:0<=F) (hS:S ≠ []) (hr:∀ g∈S,g.ok M F) (t0:0<=t) (tM:t<=M) {lo hi:Fq} (hlo:0<lo.D) (hhi:0<hi.D)
    (low:∀ c,Cd M F S t c->c.R M F->c.P S->∀ q:Fq,q.Is (c.at t) c.w->lo.le (q.clip F)) (high:∀ c,Cd M F S t c->c.R M F->c.P S->∀ q:Fq,q.Is (c.at t) c.w->(q.clip F).le hi)
    {x:Ln} (R:x.R M F) (P:x.P S) {q:Fq} (hq:q.Is (x.at t) x.w):lo.le (q.clip F)/\(q.clip F).le hi:=by
  have hw:0<x.w:=by have:=R.ab; show 0<x.sb-x.sa; omega
  constructor
  · obtain ⟨c,h1,h2,h3,h4⟩:=low_cand h0 hS hr t0 R P;have hc:0<c.w:=by have:=h2.ab; show 0<c.sb-c.sa; omega
    have hi:(⟨c.at t,c.w⟩:Fq).Is (c.at t) c.w:=⟨hc,rfl⟩
    exact Fq.trans hlo (Fq.clip_D hc) (Fq.clip_D hq.1) (low c h1 h2 h3 _ hi) (Fq.clip_low hF hi hq hc hw h4)
  · obtain ⟨c,h1,h2,h3,h4⟩:=high_cand h0 hS hr tM R P;have hc:0<c.w:=by have:=h2.ab; show 0<c.sb-c.sa; omega
    have hi:(⟨c.at t,c.w⟩:Fq).Is (c.at t) c.w:=⟨hc,rfl⟩
    exact Fq.trans (Fq.clip_D hq.1) (Fq.clip_D hc) hhi (Fq.clip_high hF hi hq hc hw h4) (high c h1 h2 h3 _ hi)
end Go.Nm
-- libR4/RL.lean
namespace Go.Nm
def gq (g:Gg):Gq:=⟨g.stage,g.lo,g.hi⟩
def ln (x:RLn):Ln:=⟨x.ast,x.afl,x.bst,x.bfl⟩
def rl (x:Ln):RLn:=⟨x.sa,x.fa,x.sb,x.fb⟩
/-- A line that is allowed. -/
abbrev RR (x:RLn):Prop:=(ln x).R 2000 200000
abbrev GO (g:Gg):Prop:=(gq g).ok 2000 200000
def rlB (x:RLn):Bool:=decide (0<=x.ast/\x.ast<x.bst/\x.bst<=2000/\0<=x.afl/\x.afl<=x.bfl/\x.bfl<=200000)
theorem rlB_iff {x:RLn}:rlB x=true↔RR x:=by
  unfold rlB;rw [decide_eq_true_iff];exact ⟨fun ⟨a,b,c,d,e,f⟩=>⟨a,b,c,d,e,f⟩,fun h=>⟨h.a0,h.ab,h.bM,h.f0,h.ff,h.fF⟩⟩
/-- n by d, in lowest terms. -/
def frOf (n d:Int):Fq:=⟨n / (Int.gcd n d:Int),d / (Int.gcd n d:Int)⟩
theorem gcd_pos {n d:Int} (hd:0<d):0<(Int.gcd n d:Int):=by
  have:0<Nat.gcd n.natAbs d.natAbs:=Nat.gcd_pos_of_pos_right _ (by omega);exact Int.ofNat_lt.2 this
theorem frOf_is {n d:Int} (hd:0<d):(frOf n d).Is n d:=by
  have hg:=gcd_pos (n:=n) hd;have h1:(Int.gcd n d:Int) ∣ n:=Int.gcd_dvd_left ..;have h2:(Int.gcd n d:Int) ∣ d:=Int.gcd_dvd_right ..;obtain ⟨a,ha⟩:=h1;obtain ⟨b,hb⟩:=h2;have e1:n / (Int.gcd n d:Int)=a:=Int.ediv_eq_of_eq_mul_right (by omega) ha;have e2:d / (Int.gcd n d:Int)=b:=Int.ediv_eq_of_eq_mul_right (by omega) hb;unfold Fq.Is frOf;dsimp only;rw [e1,e2];generalize (Int.gcd n d:Int)=g at *;refine ⟨?_,?_⟩
  · rw [hb] at hd;exact Int.pos_of_mul_pos_right hd hg
  · calc a*d=a*(g*b):=by rw [hb]
      _=g*a*b:=by ac_rfl
      _=n*b:=by rw [← ha]
theorem frOf_D {n d:Int} (hd:0<d):0<(frOf n d).D/\(frOf n d).D<=d:=⟨(frOf_is hd).1,Int.ediv_le_self _ (by omega)⟩
/-- What a line has at a stage, and the flow. -/
def hasE (x:RLn) (t:Int):Fq:=frOf ((ln x).at t) (ln x).w
def flowE (x:RLn) (t:Int):Fq:=(hasE x t).clip 200000
def pasB (x:RLn) (g:Gg):Bool:=decide (g.lo*(ln x).w<=(ln x).at g.stage)&&decide ((ln x).at g.stage<=g.hi*(ln x).w)
theorem mulb {a b A B:Int} (h0:0<=a) (h1:a<=A) (h2:-B<=b) (h3:b<=B):-(A*B)<=a*b/\a*b<=A*B:=by
  have hB:0<=B:=by omega
  have k1:a*B<=A*B:=mul_le_r hB h1;have k2:a*b<=a*B:=mul_le_l h0 h3;have k3:a*(-B)<=a*b:=mul_le_l h0 h2;rw [Int.mul_neg] at k3;omega
section
variable {x:RLn} (R:RR x) {t:Int}
include R
theorem RR.w0:0<(ln x).w/\(ln x).w<=2000:=by
  have h1:=R.ab;have h2:=R.a0;have h3:=R.bM;have:(ln x).w=(ln x).sb-(ln x).sa:=rfl;omega
theorem RR.b1:-400000000<=x.afl*(x.bst-x.ast)/\x.afl*(x.bst-x.ast)<=400000000:=by
  have h1:x.ast<x.bst:=R.ab;have h2:0<=x.ast:=R.a0;have h3:x.bst<=2000:=R.bM;have h4:0<=x.afl:=R.f0;have h5:x.afl<=x.bfl:=R.ff;have h6:x.bfl<=200000:=R.fF;have:=mulb (a:=x.afl) (b:=x.bst-x.ast) (A:=200000) (B:=2000) (by omega) (by omega) (by omega) (by omega);omega
theorem RR.b2 (h0:0<=t) (h1:t<=2000):-400000000<=(x.bfl-x.afl)*(t-x.ast)/\(x.bfl-x.afl)*(t-x.ast)<=400000000:=by
  have h2:0<=x.ast:=R.a0;have h3:x.bst<=2000:=R.bM;have h4:0<=x.afl:=R.f0;have h5:x.afl<=x.bfl:=R.ff;have h6:x.bfl<=200000:=R.fF;have h7:x.ast<x.bst:=R.ab;have:=mulb (a:=x.bfl-x.afl) (b:=t-x.ast) (A:=200000) (B:=2000) (by omega) (by omega) (by omega) (by omega);omega
theorem RR.D (t:Int):0<(hasE x t).D/\(hasE x t).D<=2000:=by
  have h:=RR.w0 R;have:=frOf_D (n:=(ln x).at t) h.1;exact ⟨this.1,Int.le_trans this.2 h.2⟩
theorem RR.is (t:Int):(hasE x t).Is ((ln x).at t) (ln x).w:=frOf_is (RR.w0 R).1
/-- Numerator bounded. -/
theorem RR.flow_b (t:Int):0<(flowE x t).D/\(flowE x t).D<=2000/\0<=(flowE x t).N/\(flowE x t).N<=400000000:=by
  have hd:=RR.D R t;have hi:=Fq.clip_in (F:=200000) (by decide) hd.1;have hD:0<(flowE x t).D/\(flowE x t).D<=2000:=by
    refine ⟨Fq.clip_D hd.1,?_⟩;unfold flowE Fq.clip;split
    · decide
    · split
      · show (1:Int)<=2000;decide
      · exact hd.2
  refine ⟨hD.1,hD.2,hi.1,?_⟩;have:(flowE x t).N<=200000*(flowE x t).D:=hi.2;omega
end
theorem pas_fr {n w lo N D:Int} (hw:0<w) (hD:0<D) (h:N*w=n*D):(lo*D<=N↔lo*w<=n)/\(N<=lo*D↔n<=lo*w):=by
  constructor
  · constructor
    · intro k;have:=mul_le_r (c:=w) (by omega) k;rw [h] at this;refine of_mul_le hD ?_;have e:lo*w*D=lo*D*w:=by ac_rfl
      omega
    · intro k;have:=mul_le_r (c:=D) (by omega) k;refine of_mul_le hw ?_;have e:lo*w*D=lo*D*w:=by ac_rfl
      omega
  · constructor
    · intro k;have:=mul_le_r (c:=w) (by omega) k;rw [h] at this;refine of_mul_le hD ?_;have e:lo*w*D=lo*D*w:=by ac_rfl
      omega
    · intro k;have:=mul_le_r (c:=D) (by omega) k;refine of_mul_le hw ?_;have e:lo*w*D=lo*D*w:=by ac_rfl
      omega
end Go.Nm
namespace Go.Proofs.YtaolcidinlnklaaGreat
open Go Go.Nm
theorem rin_ends (n a b:Int):(zaj n a b).Ends (decide (a<=n)&&decide (n<=b)):=M.i_pure
theorem rin_true {n a b:Int} (h1:a<=n) (h2:n<=b):(zaj n a b).Ends true:=by
  have:=rin_ends n a b
  rwa [gA2 h1 h2] at this
theorem gA4 {p q r s:Prop} [Decidable p] [Decidable q] [Decidable r] [Decidable s] (hp:p) (hq:q) (hr:r) (hs:s):(decide p&&decide q&&decide r&&decide s)=true:=by rw [decide_eq_true hp,decide_eq_true hq,decide_eq_true hr,decide_eq_true hs]; rfl
theorem greatest_ends (n m:Int):(zbR n [m]).Ends (max n m):=by
  unfold zbR;refine M.i_bind (M.i_next (s':=(max n m,1)) ?_ (M.i_stop ?_)) M.i_pure
  · simp only [zc8];exact M.i_t (decide_eq_true (by simp)) (M.i_grd (decide_eq_true (by simp)) M.i_pure)
  · simp only [zc8];exact M.i_f (decide_eq_false (by simp)) M.i_pure
theorem gcd_loop (y:Nat):∀ x:Nat,(M.iter zbm ((x:Int),(y:Int))).Ends (Nat.gcd x y:Int):=by
  induction y using Nat.strongRecOn with
  | _ y ih =>
    intro x;by_cases h:y=0
    · subst h;refine M.i_stop ?_;simp only [zbm];rw [Nat.gcd_zero_right];exact M.i_f rfl M.i_pure
    · have h0:((y:Int) != 0)=true:=by rw [bne_iff_ne]; omega
      refine M.i_next (s':=((y:Int),((x % y:Nat):Int))) ?_ ?_
      · simp only [zbm];refine M.i_t h0 (M.i_grd (gA2 (by omega) (by omega)) ?_);rw [Int.natCast_emod];exact M.i_pure
      · have:=ih (x % y) (Nat.mod_lt x (by omega)) y
        rwa [show Nat.gcd y (x % y)=Nat.gcd x y by rw [Nat.gcd_comm y,← Nat.gcd_rec y x,Nat.gcd_comm]] at this
theorem ratio_ends {n d:Int} (hd:0<d) (hn:-4611686018427387904<=n/\n<=4611686018427387904) (hD:d<=4611686018427387904):(zb1 n d).Ends ((frOf n d).N,(frOf n d).D):=by
  have hg:=gcd_pos (n:=n) hd;have e1:n % (Int.gcd n d:Int)=0:=Int.emod_eq_zero_of_dvd (Int.gcd_dvd_left ..);have e2:d % (Int.gcd n d:Int)=0:=Int.emod_eq_zero_of_dvd (Int.gcd_dvd_right ..);unfold zb1;refine M.i_grd (gA2 (by omega) (by omega)) (M.i_bind (greatest_ends n (-n)) (M.i_bind (a:=(Int.gcd n d:Int)) ?_ (M.i_grd (gA4 (by omega) (by omega) hg e1) (M.i_grd (gA4 (by omega) (by omega) hg e2) M.i_pure))));have:=gcd_loop d.natAbs n.natAbs
  rwa [show (n.natAbs:Int)=max n (-n) by omega,show (d.natAbs:Int)=d by omega] at this
theorem has_ends {x:RLn} (R:RR x) {t:Int} (h0:0<=t) (h1:t<=2000):(zbB x t).Ends ((hasE x t).N,(hasE x t).D):=by
  have a1:0<=x.ast:=R.a0;have a2:x.ast<x.bst:=R.ab;have a3:x.bst<=2000:=R.bM;have a4:0<=x.afl:=R.f0;have a5:x.afl<=x.bfl:=R.ff;have a6:x.bfl<=200000:=R.fF;have b1:=RR.b1 R;have b2:=RR.b2 R h0 h1;unfold zbB;exact M.i_grd (gA2 (by omega) (by omega)) (M.i_grd (gA2 (by omega) (by omega)) (M.i_grd (gA2 (by omega) (by omega)) (M.i_grd (gA2 (by omega) (by omega)) (M.i_grd (gA2 (by omega) (by omega)) (M.i_grd (gA2 (by omega) (by omega)) (M.i_bind (ratio_ends (n:=x.afl*(x.bst-x.ast)+(x.bfl-x.afl)*(t-x.ast)) (d:=x.bst-x.ast) (by omega) (by omega) (by omega)) M.i_pure))))))
theorem clipped_ends (q:Fq) (hD:0<q.D/\q.D<=2000):(zcr ⟨q.N,q.D⟩).Ends ((q.clip 200000).N,(q.clip 200000).D):=by
  unfold zcr Fq.clip;by_cases h:q.N<0
  · rw [if_pos h];exact M.i_t (decide_eq_true h) M.i_pure
  · rw [if_neg h];refine M.i_f (decide_eq_false h) (M.i_grd (gA2 (by dsimp only; omega) (by dsimp only; omega)) ?_);by_cases k:200000*q.D<q.N
    · rw [if_pos k];exact M.i_t (decide_eq_true k) M.i_pure
    · rw [if_neg k];exact M.i_f (decide_eq_false k) M.i_pure
theorem flow_ends' {x:RLn} (R:RR x) {t:Int} (h0:0<=t) (h1:t<=2000):(zbl x t).Ends ((flowE x t).N,(flowE x t).D):=by
  unfold zbl;exact M.i_bind (has_ends R h0 h1) (M.i_bind (clipped_ends (hasE x t) (RR.D R t)) M.i_pure)
theorem passes_ends {x:RLn} (R:RR x) {g:Gg} (hg:GO g):(zaY x g).Ends (pasB x g):=by
  obtain ⟨g0,g1,g2,g3,g4⟩:0<=g.stage/\g.stage<=2000/\0<=g.lo/\g.lo<=g.hi/\g.hi<=200000:=hg;have hD:=RR.D R g.stage;have hw:=(RR.w0 R).1;have hi:=(RR.is R g.stage).2;have m1:=mulb (a:=g.lo) (b:=(hasE x g.stage).D) (A:=200000) (B:=2000) (by omega) (by omega) (by omega) (by omega);have m2:=mulb (a:=g.hi) (b:=(hasE x g.stage).D) (A:=200000) (B:=2000) (by omega) (by omega) (by omega) (by omega);have p1:=(pas_fr (lo:=g.lo) hw hD.1 hi).1;have p2:=(pas_fr (lo:=g.hi) hw hD.1 hi).2;have e:pasB x g=(decide (g.lo*(hasE x g.stage).D<=(hasE x g.stage).N)&&decide ((hasE x g.stage).N<=g.hi*(hasE x g.stage).D)):=by
    unfold pasB;rw [decide_eq_decide.2 p1,decide_eq_decide.2 p2]
  rw [e];unfold zaY;exact M.i_bind (has_ends R g0 g1) (M.i_grd (gA2 (by omega) (by omega)) (M.i_grd (gOr2 (by omega) (by omega)) M.i_pure))
theorem index_g {s:List Gg} {f:Gg->M Bool} {q:Gg->Bool} (h:∀ x,x∈s->(f x).Ends (q x)):(zc5 s f).Out (fun r=>decide (0<=r)=s.any q):=by
  unfold zc5;refine M.o_bind (P:=fun y=>match y with | .inl i=>0<=i/\s.any q=true | .inr (_:Unit)=>s.any q=false) ?_ ?_
  · refine M.o_for s.length (fun i (k:Nat)=>k=i/\∀ j,j<i->q (s.getD j default)=false) ?_ ?_ ⟨rfl,fun j hj=>by omega⟩
    · rintro i k hk ⟨e0,hp⟩;subst e0;simp only [zdd];have e:s.getD k default=s[k]:=getD_el s hk _;refine M.o_t (decide_eq_true (by omega)) (M.o_grdD (by omega) (M.o_bindE (h _ (by rw [e]; exact List.getElem_mem hk)) (M.o_if (fun hb=>?_) (fun hb=>?_))))
      · exact M.o_pure ⟨by omega,List.any_eq_true.2 ⟨_,by rw [e]; exact List.getElem_mem hk,hb⟩⟩
      · refine M.o_pure ⟨rfl,fun j hj=>?_⟩;rcases Nat.lt_succ_iff_lt_or_eq.1 hj with hj | rfl
        · exact hp j hj
        · exact hb
    · rintro _ ⟨rfl,hp⟩;simp only [zdd];refine M.o_f (by simp) (M.o_pure ?_);rw [List.any_eq_false];intro x hx;obtain ⟨i,hi,rfl⟩:=List.getElem_of_mem hx;have:=hp i hi;rw [getD_el s hi] at this;simp [this]
  · intro y hy;cases y with
    | inl i=>exact M.o_pure (by rw [hy.2]; exact decide_eq_true hy.1)
    | inr u=>exact M.o_pure (by rw [hy]; decide)
theorem any_g {s:List Gg} {f:Gg->M Bool} {q:Gg->Bool} (h:∀ x,x∈s->(f x).Ends (q x)):(zbq s f).Ends (s.any q):=by
  unfold zbq;obtain ⟨r,h1,h2⟩:=index_g h;refine M.i_bind h1 ?_;rw [← h2];exact M.i_pure
/-- What a line passes. -/
def allP (s:List Gg) (x:RLn):Bool:=s.all (pasB x)
theorem passing_ends {s:List Gg} (hs:∀ g∈s,GO g) {x:RLn} (R:RR x):(zbG s x).Ends (allP s x):=by
  unfold zbG zdH;refine M.i_bind (M.i_bind (any_g (q:=fun g=>!pasB x g) fun g hg=>?_) (a:=s.any fun g=>!pasB x g) ?_) M.i_pure
  · unfold zdl;exact M.i_bind (passes_ends R (hs g hg)) M.i_pure
  · unfold allP;rw [show s.all (pasB x) = !(s.any fun g=>!pasB x g) by rw [List.any_eq_not_all_not]; simp];exact M.i_pure
theorem allP_iff {s:List Gg} {x:RLn}:allP s x=true↔(ln x).P (s.map gq):=by
  unfold allP Ln.P;rw [List.all_eq_true];constructor
  · intro h g hg;obtain ⟨y,hy,rfl⟩:=List.mem_map.1 hg;have:=h y hy;unfold pasB at this;rw [Bool.and_eq_true,decide_eq_true_iff,decide_eq_true_iff] at this;exact this
  · intro h y hy;have:=h _ (List.mem_map_of_mem hy);unfold pasB;rw [Bool.and_eq_true,decide_eq_true_iff,decide_eq_true_iff];exact this
end Go.Proofs.YtaolcidinlnklaaGreat
-- libR4/RP.lean
namespace Go.Nm
def addP (e:List Pt) (p:Pt):List Pt:=if p∈e then e else e++[p]
def endsE (s:List Gg):List Pt:=s.foldl (fun e g=>addP (addP e ⟨g.stage,g.lo⟩) ⟨g.stage,g.hi⟩) []
theorem mem_addP {e:List Pt} {p q:Pt}:q∈addP e p↔q∈e∨q=p:=by
  unfold addP;split
  · rename_i h
    exact ⟨.inl,fun h2=>h2.elim id fun h3=>h3 ▸ h⟩
  · simp
theorem len_addP {e:List Pt} {p:Pt}:(addP e p).length<=e.length+1:=by
  unfold addP;split
  · omega
  · simp
theorem endsF (s:List Gg):∀ e:List Pt,(s.foldl (fun e g=>addP (addP e ⟨g.stage,g.lo⟩) ⟨g.stage,g.hi⟩) e).length<=e.length+2*s.length/\∀ p,p∈s.foldl (fun e g=>addP (addP e ⟨g.stage,g.lo⟩) ⟨g.stage,g.hi⟩) e↔p∈e∨∃ g∈s,p.stage=g.stage/\(p.flow=g.lo∨p.flow=g.hi):=by
  induction s with
  | nil=>intro e; exact ⟨by simp,fun p=>by simp⟩
  | cons g s ih =>
    intro e;obtain ⟨h1,h2⟩:=ih (addP (addP e ⟨g.stage,g.lo⟩) ⟨g.stage,g.hi⟩);have a:=len_addP (e:=addP e ⟨g.stage,g.lo⟩) (p:=⟨g.stage,g.hi⟩);have b:=len_addP (e:=e) (p:=⟨g.stage,g.lo⟩);rw [List.foldl_cons];refine ⟨by rw [List.length_cons]; omega,fun p=>?_⟩;rw [h2,mem_addP,mem_addP];constructor
    · rintro (((h | rfl) | rfl) | ⟨j,hj,h⟩)
      · exact .inl h
      · exact .inr ⟨g,by simp,rfl,.inl rfl⟩
      · exact .inr ⟨g,by simp,rfl,.inr rfl⟩
      · exact .inr ⟨j,List.mem_cons_of_mem _ hj,h⟩
    · rintro (h | ⟨j,hj,e1,e2⟩)
      · exact .inl (.inl (.inl h))
      · rcases List.mem_cons.1 hj with rfl | hj
        · rcases e2 with e2 | e2
          · exact .inl (.inl (.inr (by cases p; simp_all)))
          · exact .inl (.inr (by cases p; simp_all))
        · exact .inr ⟨j,hj,e1,e2⟩
theorem ends_len (s:List Gg):(endsE s).length<=2*s.length:=by
  have:=(endsF s []).1;unfold endsE
  simpa using this
theorem mem_ends {s:List Gg} {p:Pt}:p∈endsE s↔End (s.map gq) p.stage p.flow:=by
  unfold endsE;rw [(endsF s []).2];unfold End;constructor
  · rintro (h | ⟨g,hg,h1,h2⟩)
    · cases h
    · exact ⟨gq g,List.mem_map_of_mem hg,h1.symm,h2⟩
  · rintro ⟨j,hj,h1,h2⟩;obtain ⟨g,hg,rfl⟩:=List.mem_map.1 hj;exact .inr ⟨g,hg,h1.symm,h2⟩
def lvlP (p:Pt):RLn:=rl (lvl 2000 p.stage p.flow)
def twoP (a b:Pt):RLn:=⟨a.stage,a.flow,b.stage,b.flow⟩
def addL (s:List Gg) (l:List RLn) (x:RLn):List RLn:=if allPl s x then l++[x] else l
where allPl (s:List Gg) (x:RLn):Bool:=s.all (pasB x)
def stepB (s:List Gg) (a:Pt) (l:List RLn) (b:Pt):List RLn:=if rlB (twoP a b) then addL s l (twoP a b) else l
def stepA (s:List Gg) (e:List Pt) (l:List RLn) (a:Pt):List RLn:=e.foldl (stepB s a) (addL s l (lvlP a))
def foundE (s:List Gg):List RLn:=(endsE s).foldl (stepA s (endsE s)) []
theorem mem_addL {s:List Gg} {l:List RLn} {x y:RLn}:y∈addL s l x↔y∈l∨(y=x/\s.all (pasB x)=true):=by
  unfold addL addL.allPl;split
  · rename_i h
    rw [List.mem_append,List.mem_singleton];exact ⟨fun k=>k.elim .inl fun e=>.inr ⟨e,h⟩,fun k=>k.elim .inl fun e=>.inr e.1⟩
  · rename_i h
    exact ⟨.inl,fun k=>k.elim id fun e=>absurd e.2 h⟩
theorem len_addL {s:List Gg} {l:List RLn} {x:RLn}:(addL s l x).length<=l.length+1:=by
  unfold addL;split
  · simp
  · omega
theorem len_stepB {s:List Gg} {l:List RLn} {a b:Pt}:(stepB s a l b).length<=l.length+1:=by
  unfold stepB;split
  · exact len_addL
  · omega
theorem stepsB (s:List Gg) (a:Pt):∀ (e:List Pt) (l:List RLn),(e.foldl (stepB s a) l).length<=l.length+e.length/\∀ y,y∈e.foldl (stepB s a) l↔y∈l∨∃ b∈e,y=twoP a b/\rlB y=true/\s.all (pasB y)=true
  | [],l=>⟨by simp,fun y=>by simp⟩
  | b :: e,l=>by
    obtain ⟨h1,h2⟩:=stepsB s a e (stepB s a l b);rw [List.foldl_cons];refine ⟨?_,fun y=>?_⟩
    · have:=len_stepB (s:=s) (l:=l) (a:=a) (b:=b);rw [List.length_cons];omega
    · rw [h2];have hb:y∈stepB s a l b↔y∈l∨(y=twoP a b/\rlB y=true/\s.all (pasB y)=true):=by
        unfold stepB;split
        · rename_i h
          rw [mem_addL];exact ⟨fun k=>k.elim .inl fun e=>.inr ⟨e.1,by rw [e.1]; exact h,by rw [e.1]; exact e.2⟩,fun k=>k.elim .inl fun e=>.inr ⟨e.1,by rw [← e.1]; exact e.2.2⟩⟩
        · rename_i h
          exact ⟨.inl,fun k=>k.elim id fun e=>absurd (by rw [← e.1]; exact e.2.1) h⟩
      rw [hb];constructor
      · rintro ((h | h) | ⟨c,hc,h⟩)
        · exact .inl h
        · exact .inr ⟨b,by simp,h⟩
        · exact .inr ⟨c,List.mem_cons_of_mem _ hc,h⟩
      · rintro (h | ⟨c,hc,h⟩)
        · exact .inl (.inl h)
        · rcases List.mem_cons.1 hc with rfl | hc
          · exact .inl (.inr h)
          · exact .inr ⟨c,hc,h⟩
theorem stepsA (s:List Gg) (e:List Pt):∀ (f:List Pt) (l:List RLn),(f.foldl (stepA s e) l).length<=l.length+f.length*(e.length+1)/\∀ y,y∈f.foldl (stepA s e) l↔y∈l∨∃ a∈f,((y=lvlP a/\s.all (pasB y)=true)∨∃ b∈e,y=twoP a b/\rlB y=true/\s.all (pasB y)=true)
  | [],l=>⟨by simp,fun y=>by simp⟩
  | a :: f,l=>by
    obtain ⟨h1,h2⟩:=stepsA s e f (stepA s e l a);obtain ⟨k1,k2⟩:=stepsB s a e (addL s l (lvlP a));have k3:=len_addL (s:=s) (l:=l) (x:=lvlP a);rw [List.foldl_cons];refine ⟨?_,fun y=>?_⟩
    · have k4:(stepA s e l a).length<=l.length+(e.length+1):=by
        unfold stepA;omega
      rw [List.length_cons,Nat.succ_mul];omega
    · rw [h2];have hb:y∈stepA s e l a↔y∈l∨((y=lvlP a/\s.all (pasB y)=true)∨∃ b∈e,y=twoP a b/\rlB y=true/\s.all (pasB y)=true):=by
        unfold stepA;rw [k2,mem_addL];constructor
        · rintro ((h | h) | h)
          · exact .inl h
          · exact .inr (.inl ⟨h.1,by rw [h.1]; exact h.2⟩)
          · exact .inr (.inr h)
        · rintro (h | (h | h))
          · exact .inl (.inl h)
          · exact .inl (.inr ⟨h.1,by rw [← h.1]; exact h.2⟩)
          · exact .inr h
      rw [hb];constructor
      · rintro ((h | h) | ⟨c,hc,h⟩)
        · exact .inl h
        · exact .inr ⟨a,by simp,h⟩
        · exact .inr ⟨c,List.mem_cons_of_mem _ hc,h⟩
      · rintro (h | ⟨c,hc,h⟩)
        · exact .inl (.inl h)
        · rcases List.mem_cons.1 hc with rfl | hc
          · exact .inl (.inr h)
          · exact .inr ⟨c,hc,h⟩
/-- What is tried at a stage. -/
def moreE (e:List Pt) (t:Int):List RLn:=[lvlP ⟨t,0⟩,lvlP ⟨t,200000⟩]++e.flatMap fun p=>[⟨t,0,p.stage,p.flow⟩,⟨p.stage,p.flow,t,200000⟩]
def keepE (s:List Gg) (l:List RLn) (x:RLn):List RLn:=if rlB x&&s.all (pasB x) then l++[x] else l
def linesE (s:List Gg) (t:Int):List RLn:=(moreE (endsE s) t).foldl (keepE s) (foundE s)
theorem mem_keeps (s:List Gg):∀ (m l:List RLn),(m.foldl (keepE s) l).length<=l.length+m.length/\∀ y,y∈m.foldl (keepE s) l↔y∈l∨(y∈m/\rlB y=true/\s.all (pasB y)=true)
  | [],l=>⟨by simp,fun y=>by simp⟩
  | x :: m,l=>by
    obtain ⟨h1,h2⟩:=mem_keeps s m (keepE s l x);have hl:(keepE s l x).length<=l.length+1:=by
      unfold keepE;split
      · simp
      · omega
    rw [List.foldl_cons];refine ⟨by rw [List.length_cons]; omega,fun y=>?_⟩;have hb:y∈keepE s l x↔y∈l∨(y=x/\rlB y=true/\s.all (pasB y)=true):=by
      unfold keepE;split
      · rename_i h
        rw [Bool.and_eq_true] at h;rw [List.mem_append,List.mem_singleton];exact ⟨fun k=>k.elim .inl fun e=>.inr ⟨e,by rw [e]; exact h⟩,fun k=>k.elim .inl fun e=>.inr e.1⟩
      · rename_i h
        rw [Bool.and_eq_true] at h;exact ⟨.inl,fun k=>k.elim id fun e=>absurd (by rw [← e.1]; exact e.2) h⟩
    rw [h2,hb,List.mem_cons];constructor
    · rintro ((h | h) | h)
      · exact .inl h
      · exact .inr ⟨.inl h.1,h.2⟩
      · exact .inr ⟨.inr h.1,h.2⟩
    · rintro (h | ⟨h | h,k⟩)
      · exact .inl (.inl h)
      · exact .inl (.inr ⟨h,k⟩)
      · exact .inr ⟨h,k⟩
section
variable {s:List Gg} (hs:∀ g∈s,GO g)
include hs
theorem ends_ok {p:Pt} (h:p∈endsE s):0<=p.stage/\p.stage<=2000/\0<=p.flow/\p.flow<=200000:=(mem_ends.1 h).ok fun g hg=>by
  obtain ⟨j,hj,rfl⟩:=List.mem_map.1 hg;exact hs j hj
theorem lvlP_R {p:Pt} (h:p∈endsE s):RR (lvlP p):=lvl_R (by decide) (ends_ok hs h)
/-- All that are found pass, and lines through ends that pass are found. -/
theorem found_ok {x:RLn} (h:x∈foundE s):RR x/\s.all (pasB x)=true:=by
  unfold foundE at h;rcases ((stepsA s (endsE s) (endsE s) []).2 x).1 h with h | ⟨a,ha,h | ⟨b,_,h⟩⟩
  · cases h
  · exact ⟨by rw [h.1]; exact lvlP_R hs ha,h.2⟩
  · exact ⟨rlB_iff.1 h.2.1,h.2.2⟩
omit hs in
theorem found_all {c:Ln} (h:Thr 2000 (s.map gq) c) (R:c.R 2000 200000) (P:s.all (pasB (rl c))=true):rl c∈foundE s:=by
  refine ((stepsA s (endsE s) (endsE s) []).2 _).2 (.inr ?_);cases h with
  | @lvl st f h=>exact ⟨⟨st,f⟩,mem_ends.2 h,.inl ⟨rfl,P⟩⟩
  | @two st f u v h k=>exact ⟨⟨st,f⟩,mem_ends.2 h,.inr ⟨⟨u,v⟩,mem_ends.2 k,rfl,rlB_iff.2 R,P⟩⟩
theorem lines_ok {t:Int} {x:RLn} (h:x∈linesE s t):RR x/\s.all (pasB x)=true:=by
  rcases ((mem_keeps s (moreE (endsE s) t) (foundE s)).2 x).1 h with h | h
  · exact found_ok hs h
  · exact ⟨rlB_iff.1 h.2.1,h.2.2⟩
omit hs in
theorem lines_all {t:Int} {c:Ln} (h:Cd 2000 200000 (s.map gq) t c) (R:c.R 2000 200000) (P:s.all (pasB (rl c))=true):rl c∈linesE s t:=by
  refine ((mem_keeps s (moreE (endsE s) t) (foundE s)).2 _).2 ?_;cases h with
  | thr h=>exact .inl (found_all h R P)
  | @low st f h=>exact .inr ⟨by unfold moreE; exact List.mem_append_right _ (List.mem_flatMap.2 ⟨⟨st,f⟩,mem_ends.2 h,by show (_:RLn)∈[_,_]; simp [rl]⟩),rlB_iff.2 R,P⟩
  | @high st f h=>exact .inr ⟨by unfold moreE; exact List.mem_append_right _ (List.mem_flatMap.2 ⟨⟨st,f⟩,mem_ends.2 h,by show (_:RLn)∈[_,_]; simp [rl]⟩),rlB_iff.2 R,P⟩
end
end Go.Nm
-- libR4/RQ.lean
namespace Go.Proofs.YtaolcidinlnklaaGreat
open Go Go.Nm
theorem zd4 {p:Pt} (h0:0<=p.stage) (h1:p.stage<=2000):(zaT p).Ends ((lvlP p).ast,(lvlP p).afl,(lvlP p).bst,(lvlP p).bfl):=by
  unfold zaT lvlP lvl rl;by_cases h:p.stage=2000
  · rw [if_pos h];exact M.i_t (beq_iff_eq.2 h) (M.i_grd (gA2 (by omega) (by omega)) M.i_pure)
  · rw [if_neg h];exact M.i_f (beq_eq_false_iff_ne.2 h) (M.i_grd (gA2 (by omega) (by omega)) M.i_pure)
theorem pright_ends (p:Pt):(zbn p).Ends ((decide (0<=p.stage)&&decide (p.stage<=2000))&&(decide (0<=p.flow)&&decide (p.flow<=200000))):=by
  unfold zbn;refine M.i_bind (rin_ends _ _ _) (M.i_bind (M.i_opt (r:=(decide (0<=p.stage)&&decide (p.stage<=2000))&&(decide (0<=p.flow)&&decide (p.flow<=200000))) (fun h=>?_) (fun h=>?_)) ?_)
  · rw [h];exact rin_ends _ _ _
  · rw [h]; rfl
  · have:((decide (0<=p.stage)&&decide (p.stage<=2000))&&((decide (0<=p.stage)&&decide (p.stage<=2000))&&(decide (0<=p.flow)&&decide (p.flow<=200000))))=((decide (0<=p.stage)&&decide (p.stage<=2000))&&(decide (0<=p.flow)&&decide (p.flow<=200000))):=by
      cases (decide (0<=p.stage)&&decide (p.stage<=2000)) <;> rfl
    rw [this];exact M.i_pure
theorem right_ends (x:RLn):(zaw x).Ends (rlB x):=by
  unfold zaw;have key:∀ (a b c d:Bool),((a&&(a&&b))&&c&&d)=(a&&b&&c&&d):=by decide
  refine M.i_bind (pright_ends ⟨x.ast,x.afl⟩) (M.i_bind (M.i_opt (r:=((decide (0<=x.ast)&&decide (x.ast<=2000))&&(decide (0<=x.afl)&&decide (x.afl<=200000)))&&((decide (0<=x.bst)&&decide (x.bst<=2000))&&(decide (0<=x.bfl)&&decide (x.bfl<=200000)))) (fun h=>?_) (fun h=>?_)) ?_)
  · dsimp only at h;rw [h];exact pright_ends ⟨x.bst,x.bfl⟩
  · dsimp only at h;rw [h]; rfl
  · dsimp only;rw [key];have:rlB x=(((decide (0<=x.ast)&&decide (x.ast<=2000))&&(decide (0<=x.afl)&&decide (x.afl<=200000)))&&((decide (0<=x.bst)&&decide (x.bst<=2000))&&(decide (0<=x.bfl)&&decide (x.bfl<=200000)))&&decide (x.ast<x.bst)&&decide (x.afl<=x.bfl)):=by
      unfold rlB;rw [Bool.eq_iff_iff];simp only [Bool.and_eq_true,decide_eq_true_eq];omega
    rw [this];exact M.i_pure
theorem out_ends {α:Type} {m:M α} {a:α} (h:m.Out (fun x=>x=a)):m.Ends a:=by
  obtain ⟨b,h1,rfl⟩:=h;exact h1
theorem has_pt (l:List Pt) (v:Pt):(zdr l v).Ends (decide (v∈l)):=by
  refine out_ends ?_;unfold zdr zdY;refine M.o_bind (P:=fun r=>decide (0<=r)=decide (v∈l)) (M.o_bind (P:=fun y=>match y with | .inl i=>0<=i/\v∈l | .inr (_:Unit)=>¬ v∈l) ?_ ?_) ?_
  · refine M.o_for l.length (fun i (k:Nat)=>k=i/\∀ j,j<i->l.getD j default ≠ v) ?_ ?_ ⟨rfl,fun j hj=>by omega⟩
    · rintro i k hk ⟨e0,hp⟩;subst e0;simp only [zcK];have e:l.getD k default=l[k]:=getD_el l hk _;refine M.o_t (decide_eq_true (by omega)) (M.o_grdD (by omega) (M.o_if (fun hb=>?_) (fun hb=>?_)))
      · have hb:=of_decide_eq_true hb;exact M.o_pure ⟨by omega,by rw [hb,e]; exact List.getElem_mem hk⟩
      · have hb:=of_decide_eq_false hb;refine M.o_pure ⟨rfl,fun j hj=>?_⟩;rcases Nat.lt_succ_iff_lt_or_eq.1 hj with hj | rfl
        · exact hp j hj
        · exact fun h=>hb h.symm
    · rintro _ ⟨rfl,hp⟩;simp only [zcK];refine M.o_f (by simp) (M.o_pure ?_);intro hx;obtain ⟨i,hi,e⟩:=List.getElem_of_mem hx;exact hp i hi (by rw [getD_el l hi]; exact e)
  · intro y hy;cases y with
    | inl i=>exact M.o_pure (by rw [decide_eq_true hy.1,decide_eq_true hy.2])
    | inr u=>exact M.o_pure (by rw [decide_eq_false hy]; decide)
  · intro r hr;exact M.o_pure hr
theorem ends_ends {s:List Gg} (hn:s.length<=1000):(za3 s).Ends (endsE s):=by
  unfold za3;refine M.i_bind (a:=(endsE s,endsE s)) ?_ M.i_pure;have key:∀ i,i<s.length->endsE (s.take (i+1))=addP (addP (endsE (s.take i)) ⟨(s.getD i default).stage,(s.getD i default).lo⟩) ⟨(s.getD i default).stage,(s.getD i default).hi⟩:=fun i hi=>by
    unfold endsE;rw [← take_succ_D s i hi default,List.foldl_append];rfl
  have lenk:∀ i,(endsE (s.take i)).length<=2000:=fun i=>by
    have:=ends_len (s.take i);rw [List.length_take] at this;omega
  refine M.i_for (fun i=>(i,endsE (s.take i))) s.length (fun i hi=>?_) ?_
  · simp only [zbW];refine M.i_t (decide_eq_true (by omega)) (M.i_grd (decide_eq_true (by omega)) ?_);have inner:∀ (e:List Pt) (v:Int) (j:Nat),e.length<=2001->([(s.getD i default).lo,(s.getD i default).hi]).getD j 0=v->j<2->(zaZ s i (j,e)).Ends (.inl (j+1,addP e ⟨(s.getD i default).stage,v⟩)):=fun e v j he hv hj=>by
      simp only [zaZ];refine M.i_t (decide_eq_true (by simp; omega)) (M.i_grd (decide_eq_true (by simp; omega)) (M.i_bind (has_pt _ _) ?_));rw [hv];unfold addP;by_cases hm:(⟨(s.getD i default).stage,v⟩:Pt)∈e
      · rw [if_pos hm];exact M.i_f (by rw [decide_eq_true hm]; rfl) M.i_pure
      · rw [if_neg hm];exact M.i_t (by rw [decide_eq_false hm]; rfl) (M.i_grd (decide_eq_true (by simp; omega)) M.i_pure)
    have l0:=lenk i;have l1:=len_addP (e:=endsE (s.take i)) (p:=⟨(s.getD i default).stage,(s.getD i default).lo⟩);rw [key i hi];refine M.i_bind (a:=(addP (addP (endsE (s.take i)) ⟨(s.getD i default).stage,(s.getD i default).lo⟩) ⟨(s.getD i default).stage,(s.getD i default).hi⟩,addP (addP (endsE (s.take i)) ⟨(s.getD i default).stage,(s.getD i default).lo⟩) ⟨(s.getD i default).stage,(s.getD i default).hi⟩)) (M.i_next (inner _ (s.getD i default).lo 0 (by omega) rfl (by omega)) (M.i_next (inner _ (s.getD i default).hi 1 (by omega) rfl (by omega)) (M.i_stop ?_))) M.i_pure;simp only [zaZ];exact M.i_f (decide_eq_false (by simp)) M.i_pure
  · simp only [zbW];rw [List.take_length];exact M.i_f (decide_eq_false (by omega)) M.i_pure
section
variable {s:List Gg} (hs:∀ g∈s,GO g) (hn:s.length<=100)
include hs
theorem yl_ends {l:List RLn} (hl:l.length<=1000000) {x:RLn} (R:RR x):(M.yl (zan s) (.inl l) x).Ends (true,.inl (addL s l x)):=by
  unfold M.yl;refine M.i_bind (a:=(Sum.inl (addL s l x):List RLn ⊕ Unit)) ?_ M.i_pure;unfold zan;refine M.i_bind (passing_ends hs R) ?_;unfold addL;cases h:allP s x with
  | true =>
    rw [if_pos (show addL.allPl s x=true from h)];exact M.i_t rfl (M.i_grd (decide_eq_true (by simp; omega)) M.i_pure)
  | false =>
    rw [if_neg (by rw [show addL.allPl s x=false from h]; decide)];exact M.i_f rfl M.i_pure
include hn
theorem through_ends:(zba (M.yl (zan s)) (.inl []) s).Ends (.inl (foundE s)):=by
  have he:=ends_len s;unfold zba;refine M.i_bind (ends_ends (by omega)) (M.i_bind (a:=(Sum.inr (Sum.inl (foundE s)):(List RLn ⊕ Unit) ⊕ (List RLn ⊕ Unit))) ?_ M.i_pure);have sA:=fun i=>(stepsA s (endsE s) ((endsE s).take i) []).1;have bd:∀ i,i<=(endsE s).length->(((endsE s).take i).foldl (stepA s (endsE s)) []).length<=50000:=fun i hi=>by
    have:=sA i;rw [List.length_take,Nat.min_eq_left hi] at this;have h2:i*((endsE s).length+1)<=200*201:=Nat.mul_le_mul (by omega) (by omega);simp only [List.length_nil] at this;omega
  refine M.i_for (fun i=>(i,(.inl (((endsE s).take i).foldl (stepA s (endsE s)) []):List RLn ⊕ Unit))) (endsE s).length (fun i hi=>?_) ?_
  · simp only [zcI];have hm:(endsE s).getD i default∈endsE s:=by rw [getD_el _ hi]; exact List.getElem_mem hi
    have ok:=ends_ok hs hm;have b0:=bd i (by omega);rw [← take_succ_D (endsE s) i hi default,List.foldl_append];generalize hL:((endsE s).take i).foldl (stepA s (endsE s)) []=L at b0 ⊢;generalize hA:(endsE s).getD i default=A at hm ok ⊢;refine M.i_t (decide_eq_true (by omega)) (M.i_grd (decide_eq_true (by omega)) (M.i_bind (zd4 ok.1 ok.2.1) (M.i_bind (yl_ends hs (by omega) (x:=lvlP A) (lvlP_R hs hm)) (M.i_f rfl (M.i_bind (a:=(Sum.inr (Sum.inl (stepA s (endsE s) L A)):(List RLn ⊕ Unit) ⊕ (List RLn ⊕ Unit))) ?_ M.i_pure)))));have b1:=len_addL (s:=s) (l:=L) (x:=lvlP A);refine M.i_for (fun j=>(j,(.inl (((endsE s).take j).foldl (stepB s A) (addL s L (lvlP A))):List RLn ⊕ Unit))) (endsE s).length (fun j hj=>?_) ?_
    · have b2:=(stepsB s A ((endsE s).take j) (addL s L (lvlP A))).1;rw [List.length_take] at b2;simp only [zcf,hA];rw [← take_succ_D (endsE s) j hj default,List.foldl_append];generalize ((endsE s).take j).foldl (stepB s A) (addL s L (lvlP A))=K at b2 ⊢;generalize (endsE s).getD j default=C;refine M.i_t (decide_eq_true (by omega)) (M.i_grd (decide_eq_true (by omega)) (M.i_bind (right_ends _) ?_));show (M.bind (M.opt (rlB (twoP A C)) (M.yl (zan s) (.inl K) (twoP A C)) (false,(Sum.inl K:List RLn ⊕ Unit))) _).Ends (Sum.inl (j+1,(Sum.inl (stepB s A K C):List RLn ⊕ Unit)));unfold stepB;cases hr:rlB (twoP A C) with
      | true =>
        rw [if_pos rfl];exact M.i_bind (yl_ends hs (by omega) (rlB_iff.1 hr)) (M.i_f (by show (rlB (twoP A C)&&!true)=false; rw [hr]; rfl) M.i_pure)
      | false =>
        rw [if_neg (by decide)];exact M.i_bind M.i_pure (M.i_f (by show (rlB (twoP A C)&&!false)=false; rw [hr]; rfl) M.i_pure)
    · simp only [zcf];rw [List.take_length];exact M.i_f (decide_eq_false (by omega)) M.i_pure
  · simp only [zcI];rw [List.take_length];exact M.i_f (decide_eq_false (by omega)) M.i_pure
end
theorem through0 (s:List Gg):(zb9 s).Ends ():=M.i_pure
theorem part0 (t:Int):(zav [] t).Ends 0:=by
  unfold zav zex;refine M.i_bind (a:=((0:Int),false)) (M.i_bind (a:=(0:Int)) (M.i_stop ?_) ?_) (M.i_f rfl M.i_pure)
  · simp only [zem];exact M.i_f rfl M.i_pure
  · exact M.i_grd rfl (M.i_grd rfl (M.i_bind (a:=false) M.i_pure (M.i_bind (a:=false) M.i_pure M.i_pure)))
def trues (i:Nat):List Bool:=List.replicate i true++List.replicate (24-i) false
theorem trues_set {i:Nat} (h:i<24):(trues i).set i true=trues (i+1):=by
  unfold trues;obtain ⟨k,hk⟩:∃ k,24-i=k+1:=⟨23-i,by omega⟩
  rw [hk,show 24-(i+1)=k by omega,List.set_append_right _ _ (by simp),List.length_replicate,Nat.sub_self,List.replicate_succ (n:=k),List.set_cons_zero,List.replicate_succ' (n:=i),List.append_assoc];rfl
theorem trues_get {i n:Nat} (h:i<n):(trues n).getD i false=true:=by
  unfold trues;rw [List.getD_eq_getElem?_getD,List.getElem?_append_left (by simpa using h),List.getElem?_replicate,if_pos h];rfl
theorem inside0 {s:List Gg} (hn:s.length<=24):(zbi s [] 0).Ends s:=by
  unfold zbi;refine M.i_bind (a:=trues s.length) ?_ (M.i_bind (a:=(s,s)) ?_ M.i_pure)
  · refine M.i_for (fun i=>(trues i,i)) s.length (fun i hi=>?_) ?_
    · simp only [zdb];rw [← trues_set (by omega)];exact M.i_t (decide_eq_true (by omega)) (M.i_grd (decide_eq_true (by omega)) (M.i_bind (part0 _) (M.i_grd (gA2 (by omega) (by omega)) M.i_pure)))
    · simp only [zdb];exact M.i_f (decide_eq_false (by omega)) M.i_pure
  · refine M.i_for (fun i=>(i,s.take i)) s.length (fun i hi=>?_) ?_
    · simp only [zcw];rw [trues_get hi,← take_succ_D s i hi default];exact M.i_t (decide_eq_true (by omega)) (M.i_grd (decide_eq_true (by omega)) (M.i_grd (gA2 (by omega) (by omega)) (M.i_t rfl (M.i_grd (decide_eq_true (by simp; omega)) M.i_pure))))
    · simp only [zcw];rw [List.take_length];exact M.i_f (decide_eq_false (by omega)) M.i_pure
section
variable {s:List Gg} (hs:∀ g∈s,GO g) (hn:s.length<=24) (h0:s ≠ []) (hf:foundE s ≠ []) {t:Int} (t0:0<=t) (t1:t<=2000)
include hs hn h0 hf t0 t1
theorem lines_ends:(zaN s [] 0 t).Ends (linesE s t):=by
  have he:=ends_len s;have hl0:0<s.length:=List.length_pos_iff.2 h0;have hl1:0<(foundE s).length:=List.length_pos_iff.2 hf;have hl2:(foundE s).length<=50000:=by
    have:=(stepsA s (endsE s) (endsE s) []).1;have h2:(endsE s).length*((endsE s).length+1)<=48*49:=Nat.mul_le_mul (by omega) (by omega);simp only [List.length_nil] at this;unfold foundE;omega
  unfold zaN;refine M.i_bind (inside0 hn) (M.i_bind (through0 s) (M.i_bind (through_ends hs (by omega)) (M.i_f ?_ (M.i_bind (zd4 (p:=⟨t,0⟩) t0 t1) (M.i_bind (zd4 (p:=⟨t,200000⟩) t0 t1) (M.i_bind (ends_ends (by omega)) (M.i_bind (a:=(moreE (endsE s) t,moreE (endsE s) t)) ?_ (M.i_bind (a:=foundE s) ?_ (M.i_bind (a:=(linesE s t,linesE s t)) ?_ M.i_pure)))))))))
  · rw [Bool.and_eq_false_iff]
    right
    rw [beq_eq_false_iff_ne];omega
  · have key:∀ i,moreE ((endsE s).take i) t=[lvlP ⟨t,0⟩,lvlP ⟨t,200000⟩]++((endsE s).take i).flatMap fun p=>[⟨t,0,p.stage,p.flow⟩,⟨p.stage,p.flow,t,200000⟩]:=fun i=>rfl;have step:∀ i,i<(endsE s).length->moreE ((endsE s).take (i+1)) t=moreE ((endsE s).take i) t++[⟨t,0,((endsE s).getD i default).stage,((endsE s).getD i default).flow⟩,⟨((endsE s).getD i default).stage,((endsE s).getD i default).flow,t,200000⟩]:=fun i hi=>by
      unfold moreE;rw [← take_succ_D (endsE s) i hi default,List.flatMap_append,← List.append_assoc];rfl
    have len:∀ i,i<=(endsE s).length->(moreE ((endsE s).take i) t).length=2+2*i:=fun i=>by
      induction i with
      | zero=>intro _; rfl
      | succ i ih=>intro hi; rw [step i (by omega),List.length_append,ih (by omega)]; simp; omega
    refine M.i_for (fun i=>(moreE ((endsE s).take i) t,i)) (endsE s).length (fun i hi=>?_) ?_
    · simp only [zbv];rw [step i hi];have:=len i (by omega);exact M.i_t (decide_eq_true (by omega)) (M.i_grd (decide_eq_true (by omega)) (M.i_grd (decide_eq_true (by simp; omega)) M.i_pure))
    · simp only [zbv];rw [List.take_length];exact M.i_f (decide_eq_false (by omega)) M.i_pure
  · unfold zej;exact M.i_grd (decide_eq_true hl1) (M.i_grd (decide_eq_true (by simp; omega)) M.i_pure)
  · have lm:(moreE (endsE s) t).length<=200:=by
      unfold moreE;rw [List.length_append,List.length_flatMap];have:(List.map (fun p:Pt=>([⟨t,0,p.stage,p.flow⟩,⟨p.stage,p.flow,t,200000⟩]:List RLn).length) (endsE s)).sum=2*(endsE s).length:=by
        generalize endsE s=e;induction e with
        | nil=>rfl
        | cons a e ih=>rw [List.map_cons,List.sum_cons,ih,List.length_cons]; simp; omega
      rw [this];simp;omega
    refine M.i_for (fun i=>(((moreE (endsE s) t).take i).foldl (keepE s) (foundE s),i)) (moreE (endsE s) t).length (fun i hi=>?_) ?_
    · simp only [zbI];have b2:=(mem_keeps s ((moreE (endsE s) t).take i) (foundE s)).1;rw [List.length_take] at b2;rw [← take_succ_D (moreE (endsE s) t) i hi default,List.foldl_append];generalize ((moreE (endsE s) t).take i).foldl (keepE s) (foundE s)=K at b2 ⊢;generalize (moreE (endsE s) t).getD i default=X;refine M.i_t (decide_eq_true (by omega)) (M.i_grd (decide_eq_true (by omega)) (M.i_bind (right_ends X) ?_));show (M.bind _ _).Ends (Sum.inl (keepE s K X,i+1));unfold keepE;cases hr:rlB X with
      | true =>
        refine M.i_bind (passing_ends hs (rlB_iff.1 hr)) ?_;show (bif (true&&allP s X) then _ else _:M _).Ends _;cases hp:allP s X with
        | true =>
          rw [if_pos (by rw [Bool.true_and]; exact hp)];exact M.i_t rfl (M.i_grd (decide_eq_true (by simp; omega)) M.i_pure)
        | false =>
          rw [if_neg (by rw [Bool.true_and,show s.all (pasB X)=false from hp]; decide)];exact M.i_f rfl M.i_pure
      | false =>
        rw [if_neg (by rw [Bool.false_and]; decide)];exact M.i_bind M.i_pure (M.i_f rfl M.i_pure)
    · simp only [zbI];rw [List.take_length];exact M.i_f (decide_eq_false (by omega)) M.i_pure
end
end Go.Proofs.YtaolcidinlnklaaGreat
-- libR4/RS.lean
namespace Go.Proofs.YtaolcidinlnklaaGreat
open Go Go.Nm
theorem asked_line {x:RLn} (R:RR x) {t:Int} (h0:0<=t) (h1:t<=2000):(zas x t).Ends ((flowE x t).N,(flowE x t).D):=by
  unfold zas;exact M.i_bind (flow_ends' R h0 h1) M.i_pure
theorem rcmp_ends (a b:Int):(m_cmp_Compare_int a b).Ends (if a<b then -1 else if b<a then 1 else 0):=by
  unfold m_cmp_Compare_int;have n:∀ x:Int,(m_cmp_isNaN_int x).Ends false:=fun x=>by
    have:(m_cmp_isNaN_int x).Ends (x != x):=M.i_pure
    rwa [show (x != x)=false by simp] at this
  refine M.i_bind (n a) (M.i_bind (n b) (M.i_f rfl (M.i_f rfl ?_)));by_cases h:a<b
  · rw [if_pos h];exact M.i_t (decide_eq_true h) M.i_pure
  · rw [if_neg h];refine M.i_f (decide_eq_false h) ?_;by_cases k:b<a
    · rw [if_pos k];exact M.i_t (decide_eq_true k) M.i_pure
    · rw [if_neg k];exact M.i_f (decide_eq_false k) M.i_pure
theorem rcompare_ends {a b:Rto} (h1:-4611686018427387904<=a.num*b.den/\a.num*b.den<=4611686018427387904) (h2:-4611686018427387904<=b.num*a.den/\b.num*a.den<=4611686018427387904) :
    (zbD a b).Ends (if a.num*b.den<b.num*a.den then -1 else if b.num*a.den<a.num*b.den then 1 else 0):=by
  unfold zbD;exact M.i_grd (gA2 (by omega) (by omega)) (M.i_grd (gA2 (by omega) (by omega)) (M.i_bind (rcmp_ends _ _) M.i_pure))
theorem prod_b {x y:RLn} (R:RR x) (S:RR y) (t:Int):-4611686018427387904<=(flowE x t).N*(flowE y t).D/\(flowE x t).N*(flowE y t).D<=4611686018427387904:=by
  have a:=RR.flow_b R t;have b:=RR.flow_b S t;have:=mulb (a:=(flowE x t).N) (b:=(flowE y t).D) (A:=400000000) (B:=2000) (by omega) (by omega) (by omega) (by omega);omega
theorem less_ends {x y:RLn} (R:RR x) (S:RR y) (t:Int):(zcb ⟨(flowE x t).N,(flowE x t).D⟩ ⟨(flowE y t).N,(flowE y t).D⟩).Ends (decide ((flowE x t).N*(flowE y t).D<(flowE y t).N*(flowE x t).D)):=by
  unfold zcb;refine M.i_bind (rcompare_ends (prod_b R S t) (prod_b S R t)) ?_;dsimp only;by_cases h:(flowE x t).N*(flowE y t).D<(flowE y t).N*(flowE x t).D
  · rw [if_pos h,decide_eq_true h];exact M.i_pure
  · rw [if_neg h,decide_eq_false h];split <;> exact M.i_pure
theorem more_ends {x y:RLn} (R:RR x) (S:RR y) (t:Int):(zce ⟨(flowE x t).N,(flowE x t).D⟩ ⟨(flowE y t).N,(flowE y t).D⟩).Ends (decide ((flowE y t).N*(flowE x t).D<(flowE x t).N*(flowE y t).D)):=by
  unfold zce;refine M.i_bind (rcompare_ends (prod_b R S t) (prod_b S R t)) ?_;dsimp only;by_cases h:(flowE x t).N*(flowE y t).D<(flowE y t).N*(flowE x t).D
  · rw [if_pos h,show decide ((flowE y t).N*(flowE x t).D<(flowE x t).N*(flowE y t).D)=false from decide_eq_false (by omega)];exact M.i_pure
  · rw [if_neg h];by_cases k:(flowE y t).N*(flowE x t).D<(flowE x t).N*(flowE y t).D
    · rw [if_pos k,show decide ((flowE y t).N*(flowE x t).D<(flowE x t).N*(flowE y t).D)=true from decide_eq_true k];exact M.i_pure
    · rw [if_neg k,show decide ((flowE y t).N*(flowE x t).D<(flowE x t).N*(flowE y t).D)=false from decide_eq_false k];exact M.i_pure
section
variable {s:List Gg} (hs:∀ g∈s,GO g) (hn:s.length<=24) (h0:s ≠ []) (hf:foundE s ≠ []) {t:Int} (t0:0<=t) (t1:t<=2000)
include hs hn h0 hf t0 t1
omit hs hn h0 t0 t1 in
theorem lines_ne:0<(linesE s t).length:=by
  obtain ⟨x,hx⟩:=List.exists_mem_of_ne_nil _ hf;exact List.length_pos_of_mem (((mem_keeps s (moreE (endsE s) t) (foundE s)).2 x).2 (.inl hx))
theorem best_low:(zcq s [] t).Out (fun z=>z.2.2.2.2=true/\(⟨z.1,z.2.1,z.2.2.1,z.2.2.2.1⟩:RLn)∈linesE s t/\∀ x∈linesE s t,(flowE ⟨z.1,z.2.1,z.2.2.1,z.2.2.2.1⟩ t).le (flowE x t)):=by
  have hl:=lines_ne hf (t:=t);have ok:=fun x (h:x∈linesE s t)=>(lines_ok hs h).1;unfold zcq;refine M.o_bindE (part0 t) (M.o_bindE (lines_ends hs hn h0 hf t0 t1) (M.o_f (by rw [beq_eq_false_iff_ne]; omega) (M.o_grdD (by omega) (M.o_bind (P:=fun z=>(⟨z.1,z.2.1,z.2.2.1,z.2.2.2⟩:RLn)∈linesE s t/\∀ x∈linesE s t,(flowE ⟨z.1,z.2.1,z.2.2.1,z.2.2.2⟩ t).le (flowE x t)) ?_ ?_))))
  · generalize linesE s t=l at hl ok ⊢;have m0:l.getD 0 default∈l:=by rw [getD_el l hl]; exact List.getElem_mem hl
    refine M.o_for l.length (fun i z=>z.1=i/\(⟨z.2.1,z.2.2.1,z.2.2.2.1,z.2.2.2.2⟩:RLn)∈l/\∀ j,j<i->(flowE ⟨z.2.1,z.2.2.1,z.2.2.2.1,z.2.2.2.2⟩ t).le (flowE (l.getD j default) t)) ?_ ?_ ⟨rfl,m0,fun j hj=>by omega⟩
    · rintro i ⟨k,a,b,c,d⟩ hi ⟨e0,hm,hle⟩;dsimp only at e0 hm hle;subst e0;have m1:l.getD k default∈l:=by rw [getD_el l hi]; exact List.getElem_mem hi
      have R1:=ok _ m1;have R2:=ok _ hm;simp only [zcd];refine M.o_t (decide_eq_true (by omega)) (M.o_grdD (by omega) (M.o_bindE (asked_line R1 t0 t1) (M.o_bindE (asked_line R2 t0 t1) (M.o_bindE (less_ends R1 R2 t) (M.o_if (fun hb=>?_) (fun hb=>?_))))))
      · have hb:=of_decide_eq_true hb;refine M.o_pure ⟨rfl,m1,fun j hj=>?_⟩;rcases Nat.lt_succ_iff_lt_or_eq.1 hj with hj | rfl
        · have hj':l.getD j default∈l:=by rw [getD_el l (by omega)]; exact List.getElem_mem _
          exact Fq.trans (RR.flow_b R1 t).1 (RR.flow_b R2 t).1 (RR.flow_b (ok _ hj') t).1 (Int.le_of_lt hb) (hle j hj)
        · exact Int.le_refl _
      · have hb:=of_decide_eq_false hb;refine M.o_pure ⟨rfl,hm,fun j hj=>?_⟩;rcases Nat.lt_succ_iff_lt_or_eq.1 hj with hj | rfl
        · exact hle j hj
        · exact Int.not_lt.1 hb
    · rintro ⟨k,a,b,c,d⟩ ⟨e0,hm,hle⟩;dsimp only at e0 hm hle;subst e0;simp only [zcd];refine M.o_f (by simp) (M.o_pure ⟨hm,fun x hx=>?_⟩);obtain ⟨j,hj,rfl⟩:=List.getElem_of_mem hx;have:=hle j hj
      rwa [getD_el l hj] at this
  · rintro ⟨a,b,c,d⟩ h;exact M.o_pure ⟨rfl,h⟩
theorem best_high:(zcN s [] t).Out (fun z=>z.2.2.2.2=true/\(⟨z.1,z.2.1,z.2.2.1,z.2.2.2.1⟩:RLn)∈linesE s t/\∀ x∈linesE s t,(flowE x t).le (flowE ⟨z.1,z.2.1,z.2.2.1,z.2.2.2.1⟩ t)):=by
  have hl:=lines_ne hf (t:=t);have ok:=fun x (h:x∈linesE s t)=>(lines_ok hs h).1;unfold zcN;refine M.o_bindE (part0 t) (M.o_bindE (lines_ends hs hn h0 hf t0 t1) (M.o_f (by rw [beq_eq_false_iff_ne]; omega) (M.o_grdD (by omega) (M.o_bind (P:=fun z=>(⟨z.1,z.2.1,z.2.2.1,z.2.2.2⟩:RLn)∈linesE s t/\∀ x∈linesE s t,(flowE x t).le (flowE ⟨z.1,z.2.1,z.2.2.1,z.2.2.2⟩ t)) ?_ ?_))))
  · generalize linesE s t=l at hl ok ⊢;have m0:l.getD 0 default∈l:=by rw [getD_el l hl]; exact List.getElem_mem hl
    refine M.o_for l.length (fun i z=>z.1=i/\(⟨z.2.1,z.2.2.1,z.2.2.2.1,z.2.2.2.2⟩:RLn)∈l/\∀ j,j<i->(flowE (l.getD j default) t).le (flowE ⟨z.2.1,z.2.2.1,z.2.2.2.1,z.2.2.2.2⟩ t)) ?_ ?_ ⟨rfl,m0,fun j hj=>by omega⟩
    · rintro i ⟨k,a,b,c,d⟩ hi ⟨e0,hm,hle⟩;dsimp only at e0 hm hle;subst e0;have m1:l.getD k default∈l:=by rw [getD_el l hi]; exact List.getElem_mem hi
      have R1:=ok _ m1;have R2:=ok _ hm;simp only [zcc];refine M.o_t (decide_eq_true (by omega)) (M.o_grdD (by omega) (M.o_bindE (asked_line R1 t0 t1) (M.o_bindE (asked_line R2 t0 t1) (M.o_bindE (more_ends R1 R2 t) (M.o_if (fun hb=>?_) (fun hb=>?_))))))
      · have hb:=of_decide_eq_true hb;refine M.o_pure ⟨rfl,m1,fun j hj=>?_⟩;rcases Nat.lt_succ_iff_lt_or_eq.1 hj with hj | rfl
        · have hj':l.getD j default∈l:=by rw [getD_el l (by omega)]; exact List.getElem_mem _
          exact Fq.trans (RR.flow_b (ok _ hj') t).1 (RR.flow_b R2 t).1 (RR.flow_b R1 t).1 (hle j hj) (Int.le_of_lt hb)
        · exact Int.le_refl _
      · have hb:=of_decide_eq_false hb;refine M.o_pure ⟨rfl,hm,fun j hj=>?_⟩;rcases Nat.lt_succ_iff_lt_or_eq.1 hj with hj | rfl
        · exact hle j hj
        · exact Int.not_lt.1 hb
    · rintro ⟨k,a,b,c,d⟩ ⟨e0,hm,hle⟩;dsimp only at e0 hm hle;subst e0;simp only [zcc];refine M.o_f (by simp) (M.o_pure ⟨hm,fun x hx=>?_⟩);obtain ⟨j,hj,rfl⟩:=List.getElem_of_mem hx;have:=hle j hj
      rwa [getD_el l hj] at this
  · rintro ⟨a,b,c,d⟩ h;exact M.o_pure ⟨rfl,h⟩
end
theorem check_ends' {l:List Gg} (hs:∀ g∈l,GO g) (h0:l ≠ []) (hn:l.length<=24):(zbf l).Ends 0:=by
  have hl0:0<l.length:=List.length_pos_iff.2 h0;unfold zbf;refine M.i_bind (rin_true (by omega) (by omega)) (M.i_f rfl (M.i_bind (a:=true) ?_ (M.i_f rfl M.i_pure)));unfold zel;refine M.i_bind (any_g (q:=fun _=>false) fun g hg=>?_) (a:=l.any fun _=>false) ?_
  · unfold zbP;refine M.i_bind (a:=true) ?_ M.i_pure;obtain ⟨a,b,c,d,e⟩:0<=g.stage/\g.stage<=2000/\0<=g.lo/\g.lo<=g.hi/\g.hi<=200000:=hs g hg;unfold zdG;exact M.i_bind (rin_true a b) (M.i_bind (M.i_opt (fun _=>rin_true c d) (fun h=>by cases h)) (M.i_bind (M.i_opt (fun _=>rin_true (by omega) e) (fun h=>by cases h)) M.i_pure))
  · rw [show (l.any fun _=>false)=false by simp];exact M.i_pure
theorem breaks0:(zbA []).Ends 0:=by
  unfold zbA;refine M.i_f rfl (M.i_bind (a:=(Sum.inr ():Unit ⊕ Unit)) (M.i_stop ?_) M.i_pure);simp only [zdB];exact M.i_f rfl M.i_pure
/-- All lines that pass have flows between the bounds, and the bounds are flows of such lines. -/
theorem Flow_out {l:List Gg} (hs:∀ g∈l,GO g) (h0:l ≠ []) (hn:l.length<=24) {x:RLn} (R:RR x) (P:allP l x=true) {t:Int} (t0:0<=t) (t1:t<=2000) :
    (zbh l [] t).Out (fun z=>z.2.2.2.2=0/\(∃ a,RR a/\allP l a=true/\z.1=(flowE a t).N/\z.2.1=(flowE a t).D)/\(∃ b,RR b/\allP l b=true/\z.2.2.1=(flowE b t).N/\z.2.2.2.1=(flowE b t).D) ∧
      ∀ y,RR y->allP l y=true->(⟨z.1,z.2.1⟩:Fq).le (flowE y t)/\(flowE y t).le ⟨z.2.2.1,z.2.2.2.1⟩):=by
  have hS:l.map gq ≠ []:=by simpa using h0
  have hr:∀ g∈l.map gq,g.ok 2000 200000:=fun g hg=>by
    obtain ⟨j,hj,rfl⟩:=List.mem_map.1 hg;exact hs j hj
  obtain ⟨c,c1,c2,c3⟩:=some_thr (M:=2000) (F:=200000) (by decide) hS hr R (allP_iff.1 P);have hf:foundE l ≠ []:=List.ne_nil_of_mem (found_all c1 c2 (allP_iff (x:=rl c).2 c3));unfold zbh;refine M.o_bindE (a:=(Sum.inr 0:Int ⊕ Int)) ?_ ?_
  · unfold zeo zd3;exact M.i_bind (a:=(Sum.inr 0:Int ⊕ Int)) (M.i_bind (check_ends' hs h0 hn) (M.i_t rfl (M.i_bind breaks0 (M.i_f rfl M.i_pure)))) (M.i_bind (a:=true) (rin_true t0 t1) (M.i_f rfl M.i_pure))
  · dsimp only;refine M.o_f rfl ?_;unfold zd1;refine M.o_bind (P:=fun z=>z.2.2.2.2=true/\(∃ a,RR a/\allP l a=true/\z.1=(flowE a t).N/\z.2.1=(flowE a t).D)/\(∃ b,RR b/\allP l b=true/\z.2.2.1=(flowE b t).N/\z.2.2.2.1=(flowE b t).D) ∧
      ∀ y,RR y->allP l y=true->(⟨z.1,z.2.1⟩:Fq).le (flowE y t)/\(flowE y t).le ⟨z.2.2.1,z.2.2.2.1⟩) ?_ ?_
    · refine M.o_bindE (a:=()) M.i_pure (M.o_bind (best_low hs hn h0 hf t0 t1) ?_);rintro ⟨a,b,c,d,e⟩ ⟨e0,m1,l1⟩;dsimp only at e0 m1 l1 ⊢;subst e0;refine M.o_bindE (a:=()) M.i_pure (M.o_bind (best_high hs hn h0 hf t0 t1) ?_);rintro ⟨a',b',c',d',e⟩ ⟨e0,m2,l2⟩;dsimp only at e0 m2 l2 ⊢;subst e0;have ok1:=lines_ok hs m1;have ok2:=lines_ok hs m2;refine M.o_f rfl (M.o_bindE (asked_line ok1.1 t0 t1) (M.o_bindE (asked_line ok2.1 t0 t1) (M.o_pure ⟨rfl,⟨_,ok1.1,ok1.2,rfl,rfl⟩,⟨_,ok2.1,ok2.2,rfl,rfl⟩,fun y Ry Py=>?_⟩)));have same:∀ (c:Ln) (hc:0<c.w) (q:Fq),q.Is (c.at t) c.w->(flowE (rl c) t).le (q.clip 200000)/\(q.clip 200000).le (flowE (rl c) t):=fun c hc q hq=>by
        have h1:(hasE (rl c) t).Is (c.at t) c.w:=frOf_is hc;exact ⟨Fq.clip_le (by decide) h1.1 hq.1 (Fq.le_of h1 hq hc hc (Int.le_refl _)),Fq.clip_le (by decide) hq.1 h1.1 (Fq.le_of hq h1 hc hc (Int.le_refl _))⟩
      exact rated (M:=2000) (F:=200000) (t:=t) (S:=l.map gq) (by decide) (by decide) hS hr t0 t1 (RR.flow_b ok1.1 t).1 (RR.flow_b ok2.1 t).1
        (fun c hc cR cP q hq=>by
          have k:=l1 (rl c) (lines_all hc cR (allP_iff (x:=rl c).2 cP));have hR:RR (rl c):=cR;exact Fq.trans (RR.flow_b ok1.1 t).1 (RR.flow_b hR t).1 (Fq.clip_D hq.1) k (same c (RR.w0 hR).1 q hq).1)
        (fun c hc cR cP q hq=>by
          have k:=l2 (rl c) (lines_all hc cR (allP_iff (x:=rl c).2 cP));have hR:RR (rl c):=cR;exact Fq.trans (Fq.clip_D hq.1) (RR.flow_b hR t).1 (RR.flow_b ok2.1 t).1 (same c (RR.w0 hR).1 q hq).2 k)
        Ry (allP_iff.1 Py) (RR.is Ry t)
    · rintro ⟨a,b,c,d,e⟩ ⟨e0,h⟩;dsimp only at e0 h ⊢;subst e0;exact M.o_f rfl (M.o_pure ⟨rfl,h⟩)
end Go.Proofs.YtaolcidinlnklaaGreat
-- libR4/RT.lean
namespace Go.Proofs.YtaolcidinlnklaaGreat
open Go Go.Nm
theorem M.i_pT {b:Bool} (h:b=true):(M.pure b).Ends true:=by subst h; exact M.i_pure
theorem line_right {x:RLn} (R:RR x):(zaw x).Ends true:=by
  have:=right_ends x
  rwa [rlB_iff.2 R] at this
theorem rating1' {x:RLn} (R:RR x):(za6 [] [x]).Ends 0:=by
  unfold za6;refine M.i_bind breaks0 (M.i_f rfl (M.i_grd (gA2 (by decide) (by decide)) (M.i_f rfl (M.i_bind (a:=true) ?_ (M.i_f rfl M.i_pure)))));unfold zdM zdL zdC;refine M.i_bind (a:=false) (M.i_bind (a:=-1) (M.i_bind (a:=(Sum.inr ():Int ⊕ Unit)) ?_ M.i_pure) M.i_pure) M.i_pure;refine M.i_next (s':=1) ?_ (M.i_stop ?_)
  · simp only [zct];refine M.i_t (decide_eq_true (by simp)) (M.i_grd (decide_eq_true (by simp)) (M.i_bind (a:=false) ?_ (M.i_f rfl M.i_pure)));unfold zbK;exact M.i_bind (line_right R) M.i_pure
  · simp only [zct];exact M.i_f (decide_eq_false (by simp)) M.i_pure
theorem passes1 {l:List Gg} (hs:∀ g∈l,GO g) (h0:l ≠ []) (hn:l.length<=24) {x:RLn} (R:RR x) (P:∀ g∈l,pasB x g=true):(zcO l [] [x]).Ends ([],0):=by
  unfold zcO;refine M.i_bind (check_ends' hs h0 hn) (M.i_t rfl (M.i_bind (rating1' R) ?_));unfold zby;refine M.i_f rfl (M.i_bind (a:=(([]:List Int),([]:List Int))) ?_ M.i_pure);refine M.i_for (fun i=>(i,([]:List Int))) l.length (fun i hi=>?_) ?_
  · simp only [zds];have hm:l.getD i default∈l:=by rw [getD_el l hi]; exact List.getElem_mem hi
    have hp:=passes_ends R (hs _ hm);rw [P _ hm] at hp;exact M.i_t (decide_eq_true (by omega)) (M.i_grd (decide_eq_true (by omega)) (M.i_bind (part0 _) (M.i_grd (gA2 (by decide) (by simp)) (M.i_bind hp (M.i_f rfl M.i_pure)))))
  · simp only [zds];exact M.i_f (decide_eq_false (by omega)) M.i_pure
theorem at1 {x:RLn} (R:RR x) {t:Int} (t0:0<=t) (t1:t<=2000):(zcX [] [x] t).Ends ((flowE x t).N,(flowE x t).D,0):=by
  unfold zcX;refine M.i_bind (rating1' R) (M.i_f rfl (M.i_bind (rin_true t0 t1) (M.i_f rfl (M.i_bind (a:=((flowE x t).N,(flowE x t).D)) ?_ M.i_pure))));unfold zec zdK;exact M.i_bind (a:=((flowE x t).N,(flowE x t).D)) (M.i_bind (part0 t) (M.i_grd (gA2 (by decide) (by simp)) (M.i_bind (flow_ends' R t0 t1) M.i_pure))) M.i_pure
theorem between_true {x a b:RLn} (R:RR x) (Ra:RR a) (Rb:RR b) {t:Int} (h1:(flowE a t).le (flowE x t)) (h2:(flowE x t).le (flowE b t)) :
    (zbV ⟨(flowE x t).N,(flowE x t).D⟩ (flowE a t).N (flowE a t).D (flowE b t).N (flowE b t).D).Ends true:=by
  have fx:=RR.flow_b R t;have fa:=RR.flow_b Ra t;have fb:=RR.flow_b Rb t;have p1:=prod_b Ra R t;have p2:=prod_b R Ra t;have p3:=prod_b R Rb t;have p4:=prod_b Rb R t;unfold zbV;dsimp only;refine M.i_grd (gOr2 (by omega) (by omega)) (M.i_grd (gOr2 (by omega) (by omega)) (M.i_grd (gOr2 (by omega) (by omega)) (M.i_grd (gOr2 (by omega) (by omega)) (M.i_pT ?_))));simp only [Bool.and_eq_true,decide_eq_true_eq];exact ⟨⟨⟨⟨fx.1,fa.1⟩,fb.1⟩,h1⟩,h2⟩
section
variable {gs:List UInt8} {R2:List Rch} {ts:List Int} {r0 r5 r6 T:Int} (hT:ts.getD (Int.toNat (R2.getD 0 default).up) 0=T) (hR:RR ⟨r5,r6,T,r0⟩)
theorem line_at {r0 r5 r6 T:Int}:(ln ⟨r5,r6,T,r0⟩).at T=r0*(ln ⟨r5,r6,T,r0⟩).w:=by
  show r6*(T-r5)+(r0-r6)*(T-r5)=r0*(T-r5);rw [Int.sub_mul];omega
include hT hR
end
end Go.Proofs.YtaolcidinlnklaaGreat
namespace Go.Nm
namespace Ga
def Zs (f:Nat->Int):Nat->Int
  | 0=>0
  | m+1=>Zs f m+f m
theorem Zs.le {f g:Nat->Int}:∀ {n:Nat},(∀ k,k<n->f k<=g k)->Zs f n<=Zs g n
  | 0,_=>Int.le_refl _
  | n+1,h=>by
    have ih:=Zs.le (f:=f) (g:=g) (n:=n) fun k hk=>h k (by omega);have:=h n (by omega);simp only [Zs];omega
theorem Zs.bd {f:Nat->Int} {B:Int} {n:Nat} (h:∀ k,k<n->-B<=f k/\f k<=B):-(B*n)<=Zs f n/\Zs f n<=B*n:=by
  induction n with
  | zero=>simp [Zs]
  | succ n ih =>
    have a:=ih fun k hk=>h k (by omega);have b:=h n (by omega);have e:B*((n+1:Nat):Int)=B*(n:Int)+B:=by rw [Int.natCast_add,Int.mul_add]; simp
    rw [e];simp only [Zs];omega
theorem app1 {α:Type} {l:List α} {x d:α} {k:Nat}:(l++[x]).getD k d=if k<l.length then l.getD k d else if k=l.length then x else d:=by
  simp only [List.getD_eq_getElem?_getD];by_cases h:k<l.length
  · rw [if_pos h,List.getElem?_append_left h]
  · rw [if_neg h,List.getElem?_append_right (by omega)];by_cases e:k=l.length
    · subst e; simp
    · rw [if_neg e,List.getElem?_eq_none (by simp; omega)]; rfl
theorem appL {α:Type} {l:List α} {x d:α} {k n:Nat} (h:l.length=n) (hk:k<n):(l++[x]).getD k d=l.getD k d:=by rw [app1,if_pos (by omega)]
theorem appE {α:Type} {l:List α} {x d:α} {n:Nat} (h:l.length=n):(l++[x]).getD n d=x:=by rw [app1,if_neg (by omega),if_pos h.symm]
/-- A section. -/
structure Sc (L R:Int) (az dp sp:List Int):Prop where
  n1:1<=az.length
  n2:az.length<=6
  ld:dp.length=az.length
  ls:sp.length=az.length
  l0:0<=L
  l1:L<R
  r1:R<=1000
  b:∀ k,k<az.length->L<az.getD k 0/\az.getD k 0<R
  up:∀ k,k+1<az.length->az.getD k 0<az.getD (k+1) 0
  d:∀ k,k<az.length->0<=dp.getD k 0/\dp.getD k 0<=300
  s:∀ k,k<az.length->-40<=sp.getD k 0/\sp.getD k 0<=400
/-- A section that is made, so far. -/
structure Si (L:Int) (i:Nat) (s2 s3 a:Int) (s5:Nat) (l l2 l3:List Int):Prop where
  at_:s5=i
  so:SOk (2+3*i) s2 s3
  ab:L<=a/\a<=50+90*i
  n1:l.length=i
  n2:l2.length=i
  n3:l3.length=i
  b:∀ k,k<i->L<l.getD k 0/\l.getD k 0<=a
  up:∀ k,k+1<i->l.getD k 0<l.getD (k+1) 0
  d:∀ k,k<i->0<=l2.getD k 0/\l2.getD k 0<=300
  s:∀ k,k<i->-40<=l3.getD k 0/\l3.getD k 0<=400
/-- Verticals about a truth. -/
structure Gs (L R:Int) (vs:List Vrt) (dp sp:List Int):Prop where
  n1:1<=vs.length
  n2:vs.length<=6
  ld:dp.length=vs.length
  ls:sp.length=vs.length
  l0:0<=L
  l1:L<R
  r1:R<=1000
  b:∀ k,k<vs.length->L<(vs.getD k default).at_/\(vs.getD k default).at_<R
  up:∀ k,k+1<vs.length->(vs.getD k default).at_<(vs.getD (k+1) default).at_
  d:∀ k,k<vs.length->(0<=(vs.getD k default).dlo/\(vs.getD k default).dlo<=dp.getD k 0)/\dp.getD k 0<=(vs.getD k default).dhi/\(vs.getD k default).dhi<=2000
  s:∀ k,k<vs.length->(-5000<=(vs.getD k default).slo/\(vs.getD k default).slo<=sp.getD k 0)/\sp.getD k 0<=(vs.getD k default).shi/\(vs.getD k default).shi<=5000
/-- How wide a panel is. -/
def wd (L R:Int) (vs:List Vrt) (k:Nat):Int:=(if k+1<vs.length then (vs.getD (k+1) default).at_ else R)-(if 0<k then (vs.getD (k-1) default).at_ else L)
theorem Gs.wd_b {L R:Int} {vs:List Vrt} {dp sp:List Int} (h:Gs L R vs dp sp) {k:Nat} (hk:k<vs.length):0<wd L R vs k/\wd L R vs k<=1000:=by
  have b:=h.b k hk;have l0:=h.l0;have r1:=h.r1;have x:(vs.getD k default).at_<(if k+1<vs.length then (vs.getD (k+1) default).at_ else R)/\(if k+1<vs.length then (vs.getD (k+1) default).at_ else R)<=R:=by
    by_cases c:k+1<vs.length
    · rw [if_pos c]; have:=h.up k c; have:=h.b (k+1) c; omega
    · rw [if_neg c]; omega
  have y:(if 0<k then (vs.getD (k-1) default).at_ else L)<(vs.getD k default).at_/\L<=(if 0<k then (vs.getD (k-1) default).at_ else L):=by
    by_cases c:0<k
    · rw [if_pos c]; have:=h.up (k-1) (by omega); rw [show k-1+1=k by omega] at this; have:=h.b (k-1) (by omega); omega
    · rw [if_neg c]; omega
  unfold wd;omega
theorem mulA {a b A B:Int} (h1:-A<=a/\a<=A) (h2:-B<=b/\b<=B):-(A*B)<=a*b/\a*b<=A*B:=by
  have hA:0<=A:=by omega
  have hB:0<=B:=by omega
  rcases Int.le_total 0 a with ha | ha
  · have k1:=Int.mul_le_mul_of_nonneg_left h2.2 ha;have k2:=Int.mul_le_mul_of_nonneg_left h2.1 ha;have k3:=Int.mul_le_mul_of_nonneg_right h1.2 hB;rw [Int.mul_neg] at k2;omega
  · have k1:=Int.mul_le_mul_of_nonpos_left ha h2.2;have k2:=Int.mul_le_mul_of_nonpos_left ha h2.1;have k3:=Int.mul_le_mul_of_nonneg_right h1.1 hB;rw [Int.mul_neg] at k2;rw [Int.neg_mul] at k3;omega
theorem seg_in {x c d q:Int} (h3:c<=q) (h4:q<=d):(x*c<=x*q/\x*q<=x*d)∨(x*d<=x*q/\x*q<=x*c):=by
  rcases Int.le_total 0 x with h | h
  · exact .inl ⟨Int.mul_le_mul_of_nonneg_left h3 h,Int.mul_le_mul_of_nonneg_left h4 h⟩
  · exact .inr ⟨Int.mul_le_mul_of_nonpos_left h h4,Int.mul_le_mul_of_nonpos_left h h3⟩
theorem prod_in {lo hi p c d q:Int} (h1:lo<=p) (h2:p<=hi) (h3:c<=q) (h4:q<=d):min (min (min (lo*c) (lo*d)) (hi*c)) (hi*d)<=p*q/\p*q<=max (max (max (lo*c) (lo*d)) (hi*c)) (hi*d):=by
  have a:=seg_in (x:=lo) h3 h4;have b:=seg_in (x:=hi) h3 h4;have e:=seg_in (x:=q) h1 h2;rw [Int.mul_comm q lo,Int.mul_comm q p,Int.mul_comm q hi] at e;omega
/-- Products of spans. -/
def tm (l:List Span):Nat->Int × Int
  | 0=>(1,1)
  | i+1=>(min (min (min ((tm l i).1*(l.getD i default).lo) ((tm l i).1*(l.getD i default).hi)) ((tm l i).2*(l.getD i default).lo)) ((tm l i).2*(l.getD i default).hi),max (max (max ((tm l i).1*(l.getD i default).lo) ((tm l i).1*(l.getD i default).hi)) ((tm l i).2*(l.getD i default).lo)) ((tm l i).2*(l.getD i default).hi))
theorem tm_b {l:List Span} {B b A:Int} {i:Nat} (h1:-B<=(tm l i).1/\(tm l i).1<=B) (h2:-B<=(tm l i).2/\(tm l i).2<=B) (h3:-b<=(l.getD i default).lo/\(l.getD i default).lo<=b) (h4:-b<=(l.getD i default).hi/\(l.getD i default).hi<=b) (hA:B*b=A) :
    ((-A<=(tm l i).1*(l.getD i default).lo/\(tm l i).1*(l.getD i default).lo<=A)/\(-A<=(tm l i).1*(l.getD i default).hi/\(tm l i).1*(l.getD i default).hi<=A)/\(-A<=(tm l i).2*(l.getD i default).lo/\(tm l i).2*(l.getD i default).lo<=A)/\-A<=(tm l i).2*(l.getD i default).hi/\(tm l i).2*(l.getD i default).hi<=A) ∧
      (-A<=(tm l (i+1)).1/\(tm l (i+1)).1<=A)/\-A<=(tm l (i+1)).2/\(tm l (i+1)).2<=A:=by
  have p1:=mulA h1 h3;have p2:=mulA h1 h4;have p3:=mulA h2 h3;have p4:=mulA h2 h4;rw [hA] at p1 p2 p3 p4;refine ⟨⟨p1,p2,p3,p4⟩,?_⟩;simp only [tm];omega
end Ga
end Go.Nm
namespace Go.Proofs.YtaolcidinlnklaaGreat
open Go Go.Nm
variable {L R:Int} {vs:List Vrt} {dp sp:List Int}
theorem section_out {b:List UInt8}:(zc4 b 0 0 6).Out (fun z=>Ga.Sc z.1 z.2.1 z.2.2.1 z.2.2.2.1 z.2.2.2.2.1/\SOk 100 z.2.2.2.2.2.1 z.2.2.2.2.2.2):=by
  unfold zc4;refine M.o_bind (next_out SOk.zero (by omega) (by omega)) ?_;rintro ⟨L,u1,x1⟩ ⟨k1,l1,_⟩;dsimp only at k1 l1;have l1:=l1 (by omega);refine M.o_bind (within_out k1 (by omega) (by omega) (by omega) (by omega)) ?_;rintro ⟨r3,u2,x2⟩ ⟨k2,l2,l2'⟩;dsimp only at k2 l2 l2';obtain ⟨n,rfl⟩:∃ n:Nat,r3=n:=⟨r3.toNat,by omega⟩
  refine M.o_bind (P:=fun z:Int × Int × List Int × List Int × List Int × Int × List Int × List Int × List Int=>Ga.Si L n z.1 z.2.1 z.2.2.2.2.2.1 n z.2.2.2.2.2.2.2.2 z.2.2.2.2.2.2.2.1 z.2.2.2.2.2.2.1) (M.o_for n (fun i (s:Int × Int × Int × Nat × List Int × List Int × List Int)=>Ga.Si L i s.1 s.2.1 s.2.2.1 s.2.2.2.1 s.2.2.2.2.1 s.2.2.2.2.2.1 s.2.2.2.2.2.2) ?_ ?_
    ⟨rfl,k2.mono (by omega),by dsimp only; omega,rfl,rfl,rfl,fun k hk=>by omega,fun k hk=>by omega,fun k hk=>by omega,fun k hk=>by omega⟩) ?_
  · rintro i ⟨s2,s3,a,s5,l,l2,l3⟩ hi ⟨e,so,ab,n1,n2,n3,vb,up,vd,vs⟩;dsimp only at e so ab n1 n2 n3 vb up vd vs;subst e;simp only [zdn];refine M.o_t (decide_eq_true (by omega)) (M.o_bind (within_out so (by omega) (by omega) (by omega) (by omega)) ?_);rintro ⟨r4,u3,x3⟩ ⟨k3,g3,g3'⟩;dsimp only at k3 g3 g3';refine M.o_grd (gA2 (by omega) (by omega)) (M.o_grdD (by simp only [List.length_cons,List.length_nil]; omega) (M.o_bind (next_out k3 (by omega) (by omega)) ?_));rintro ⟨r5,u4,x4⟩ ⟨k4,g4,_⟩;dsimp only at k4 g4;have g4:=g4 (by omega);refine M.o_grdD (by simp only [List.length_cons,List.length_nil]; omega) (M.o_bind (within_out k4 (by omega) (by omega) (by omega) (by omega)) ?_);rintro ⟨r6,u5,x5⟩ ⟨k5,g5,g5'⟩;dsimp only at k5 g5 g5';refine M.o_grdD (by simp only [List.length_cons,List.length_nil]; omega) (M.o_grd (gA2 (by omega) (by omega)) (M.o_pure ⟨rfl,k5.mono (by omega),by dsimp only; omega,by simp [n1],by simp [n2],by simp [n3],fun k hk=>?_,fun k hk=>?_,fun k hk=>?_,fun k hk=>?_⟩))
    · dsimp only;rcases Nat.lt_or_ge k s5 with c | c
      · rw [Ga.appL n1 c]; have:=vb k c; omega
      · obtain rfl:k=s5:=by omega
        rw [Ga.appE n1]; omega
    · dsimp only;rcases Nat.lt_or_ge (k+1) s5 with c | c
      · rw [Ga.appL n1 (by omega),Ga.appL n1 c]; exact up k c
      · obtain rfl:k+1=s5:=by omega
        rw [Ga.appL n1 (by omega),Ga.appE n1]; have:=vb k (by omega); omega
    · dsimp only;rcases Nat.lt_or_ge k s5 with c | c
      · rw [Ga.appL n2 c]; exact vd k c
      · obtain rfl:k=s5:=by omega
        rw [Ga.appE n2]; omega
    · dsimp only;rcases Nat.lt_or_ge k s5 with c | c
      · rw [Ga.appL n3 c]; exact vs k c
      · obtain rfl:k=s5:=by omega
        rw [Ga.appE n3]; omega
  · rintro ⟨s2,s3,a,s5,l,l2,l3⟩ ⟨e,so,ab,n1,n2,n3,vb,up,vd,vs⟩;dsimp only at e so ab n1 n2 n3 vb up vd vs;subst e;simp only [zdn];exact M.o_f (decide_eq_false (by omega)) (M.o_pure ⟨rfl,so,ab,n1,n2,n3,vb,up,vd,vs⟩)
  rintro ⟨s6,s7,l4,l5,l6,a,l7,l8,l9⟩ ⟨_,so,ab,n1,n2,n3,vb,up,vd,vs⟩;dsimp only at so ab n1 n2 n3 vb up vd vs;refine M.o_bind (within_out so (by omega) (by omega) (by omega) (by omega)) ?_;rintro ⟨r7,u6,x6⟩ ⟨k6,g6,g6'⟩;dsimp only at k6 g6 g6';have la:L<a+r7:=by omega
  refine M.o_grd (gA2 (by omega) (by omega)) (M.o_pure ⟨⟨by dsimp only; omega,by dsimp only; omega,by dsimp only; omega,by dsimp only; omega,by dsimp only; omega,la,by dsimp only; omega,fun k hk=>?_,fun k hk=>?_,fun k hk=>?_,fun k hk=>?_⟩,k6.mono (by omega)⟩)
  · have:=vb k (by dsimp only at hk; omega); dsimp only; omega
  · exact up k (by dsimp only at hk; omega)
  · exact vd k (by dsimp only at hk; omega)
  · exact vs k (by dsimp only at hk; omega)
theorem around_out {b:List UInt8} {c u x n l g e:Int} (h:SOk c u x) (hc:c<=1000000) (h1:l<=n) (h2:n<=g) (h3:-10000<=l) (h4:g<=10000) (h5:0<=e) (h6:e<=100) :
    (zbr b u x n l g e).Out (fun z=>((l<=z.1/\z.1<=n)/\n<=z.2.1/\z.2.1<=g)/\SOk (c+2) z.2.2.1 z.2.2.2):=by
  unfold zbr;refine M.o_grd (gA2 (by omega) (by omega)) (M.o_bind (next_out h (by omega) (by omega)) ?_);rintro ⟨r2,u1,x1⟩ ⟨k1,g1,_⟩;dsimp only at k1 g1;have g1:=g1 (by omega);refine M.o_grd (gA2 (by omega) (by omega)) (M.o_bind (next_out k1 (by omega) (by omega)) ?_);rintro ⟨r3,u2,x2⟩ ⟨k2,g2,_⟩;dsimp only at k2 g2;have g2:=g2 (by omega);refine M.o_grd (gA2 (by omega) (by omega)) (M.o_pure ⟨?_,k2.mono (by omega)⟩);dsimp only;omega
theorem gauged_out {b:List UInt8} {u x:Int} {az:List Int} (h:Ga.Sc L R az dp sp) (hS:SOk 100 u x):(zcn b u x L R az dp sp).Out (fun z=>z.1=L/\z.2.1=R/\Ga.Gs L R z.2.2.1 dp sp):=by
  have n1:=h.n1;have n2:=h.n2;have ld:=h.ld;have ls:=h.ls;unfold zcn;refine M.o_bind (P:=fun z:List Vrt × List Vrt × Int × Int=>z.2.1.length=az.length/\∀ k,k<az.length->(z.2.1.getD k default).at_=az.getD k 0/\((0<=(z.2.1.getD k default).dlo/\(z.2.1.getD k default).dlo<=dp.getD k 0)/\dp.getD k 0<=(z.2.1.getD k default).dhi/\(z.2.1.getD k default).dhi<=2000)/\(-5000<=(z.2.1.getD k default).slo/\(z.2.1.getD k default).slo<=sp.getD k 0)/\sp.getD k 0<=(z.2.1.getD k default).shi/\(z.2.1.getD k default).shi<=5000)
    (M.o_for az.length (fun i (s:Int × Int × Nat × List Vrt)=>s.2.2.1=i/\SOk (100+4*i) s.1 s.2.1/\s.2.2.2.length=i/\∀ k,k<i->(s.2.2.2.getD k default).at_=az.getD k 0/\((0<=(s.2.2.2.getD k default).dlo/\(s.2.2.2.getD k default).dlo<=dp.getD k 0)/\dp.getD k 0<=(s.2.2.2.getD k default).dhi/\(s.2.2.2.getD k default).dhi<=2000)/\(-5000<=(s.2.2.2.getD k default).slo/\(s.2.2.2.getD k default).slo<=sp.getD k 0)/\sp.getD k 0<=(s.2.2.2.getD k default).shi/\(s.2.2.2.getD k default).shi<=5000) ?_ ?_
      ⟨rfl,hS.mono (by omega),rfl,fun k hk=>by omega⟩) ?_
  · rintro i ⟨s2,s3,s4,l⟩ hi ⟨e,so,ln,v⟩;dsimp only at e so ln v;subst e;simp only [zcs];have d:=h.d s4 hi;have s:=h.s s4 hi;refine M.o_t (decide_eq_true (by omega)) (M.o_grdD (by omega) (M.o_grdD (by omega) (M.o_grdD (by omega) (M.o_bind (around_out so (by omega) (by omega) (by omega) (by omega) (by omega) (by omega) (by omega)) ?_))));rintro ⟨r0,r1,u1,x1⟩ ⟨g1,k1⟩;dsimp only at g1 k1;refine M.o_bind (around_out k1 (by omega) (by omega) (by omega) (by omega) (by omega) (by omega) (by omega)) ?_;rintro ⟨r2,r3,u2,x2⟩ ⟨g2,k2⟩;dsimp only at g2 k2;refine M.o_grdD (by simp only [List.length_cons,List.length_nil]; omega) (M.o_pure ⟨rfl,k2.mono (by omega),by simp [ln],fun k hk=>?_⟩);dsimp only;rcases Nat.lt_or_ge k s4 with c | c
    · rw [Ga.appL ln c]; exact v k c
    · obtain rfl:k=s4:=by omega
      rw [Ga.appE ln]; exact ⟨rfl,g1,g2⟩
  · rintro ⟨s2,s3,s4,l⟩ ⟨e,so,ln,v⟩;dsimp only at e so ln v;subst e;simp only [zcs];exact M.o_f (decide_eq_false (by omega)) (M.o_pure ⟨ln,v⟩)
  · rintro ⟨l2,l3,s5,s6⟩ ⟨ln,v⟩;dsimp only at ln v;refine M.o_pure ⟨rfl,rfl,by dsimp only; omega,by dsimp only; omega,by dsimp only; omega,by dsimp only; omega,h.l0,h.l1,h.r1,fun k hk=>?_,fun k hk=>?_,fun k hk=>?_,fun k hk=>?_⟩ <;> dsimp only at hk ⊢ <;> rw [ln] at hk
    · rw [(v k hk).1]; exact h.b k hk
    · rw [(v k (by omega)).1,(v (k+1) hk).1]; exact h.up k hk
    · exact (v k hk).2.1
    · exact (v k hk).2.2
theorem gin_t {n a b:Int} (h1:a<=n) (h2:n<=b):(m_gauge_in n a b).Ends true:=by
  unfold m_gauge_in;rw [show (decide (a<=n)&&decide (n<=b))=true by rw [decide_eq_true h1,decide_eq_true h2]; rfl];exact M.i_pure
theorem gright_t {s:Span} {a b:Int} (h1:a<=s.lo) (h2:s.lo<=s.hi) (h3:s.hi<=b):(m_gauge_right s a b).Ends true:=by
  unfold m_gauge_right;refine M.i_bind (gin_t h1 h2) ?_;rw [show (true&&decide (s.hi<=b))=true by rw [decide_eq_true h3]; rfl];exact M.i_pure
theorem contains_vrt (l:List Vrt) (f:Vrt->M Bool) (h:∀ t∈l,(f t).Ends false):(zcg l f).Ends false:=by
  unfold zcg zdO;refine M.i_bind (a:=(-1:Int)) (M.i_bind (a:=(.inr ():Int ⊕ Unit)) (M.i_for (fun i=>i) l.length (fun i hi=>?_) ?_) M.i_pure) M.i_pure
  · simp only [zcl];exact M.i_t (decide_eq_true (by omega)) (M.grdD (by omega) (M.i_bind (h _ (by rw [getD_el l hi]; exact List.getElem_mem hi)) (M.i_f rfl M.i_pure)))
  · simp only [zcl];exact M.i_f (decide_eq_false (by omega)) M.i_pure
theorem every_vrt (l:List Vrt) (so:Vrt->M Bool) (h:∀ t∈l,(so t).Ends true):(m_gauge_every_gauge_Vertical l so).Ends true :=
  M.i_bind (contains_vrt l _ fun t ht=>M.i_bind (h t ht) M.i_pure) M.i_pure
theorem gcheck (h:Ga.Gs L R vs dp sp):(m_gauge_Check L R vs).Ends 0:=by
  have n1:=h.n1;have n2:=h.n2;have l0:=h.l0;have l1:=h.l1;have r1:=h.r1;unfold m_gauge_Check;refine M.i_bind (gin_t (by omega) (by omega)) (M.i_f rfl (M.i_bind (a:=true) ?_ (M.i_bind (M.i_opt (r:=true) (fun _=>every_vrt _ _ fun t ht=>?_) (fun h=>by cases h)) (M.i_f rfl (M.i_bind (a:=true) ?_ (M.i_f rfl M.i_pure))))))
  · unfold m_gauge_shore;exact M.i_bind (gin_t (by omega) (by omega)) (M.i_grd (gOr2 (by omega) (by omega)) (M.i_bind (M.i_opt (r:=true) (fun _=>gin_t (by omega) (by omega)) (fun h=>by cases h)) M.i_pure))
  · obtain ⟨i,hi,rfl⟩:=List.getElem_of_mem ht;have b:=h.b i hi;have d:=h.d i hi;have s:=h.s i hi;rw [getD_el vs hi] at b d s;unfold m_gauge_Check_1;exact M.i_grd (gA2 (by omega) (by omega)) (M.i_grd (gA2 (by omega) (by omega)) (M.i_bind (gin_t (by omega) (by omega)) (M.i_bind (M.i_opt (r:=true) (fun _=>gright_t (by dsimp only; omega) (by dsimp only; omega) (by dsimp only; omega)) (fun h=>by cases h)) (M.i_bind (M.i_opt (r:=true) (fun _=>gright_t (by dsimp only; omega) (by dsimp only; omega) (by dsimp only; omega)) (fun h=>by cases h)) M.i_pure))))
  · unfold m_gauge_rising_155;have:=M.i_for (body:=m_gauge_rising_155_b0 (vs.length:Int) L R vs) (r:=(.inr ():Unit ⊕ Unit)) (fun i=>i+1) (vs.length-1) (fun i hi=>?_) ?_
    · exact M.i_bind this M.i_pure
    · simp only [m_gauge_rising_155_b0];have u:=h.up i (by omega);have c1:(m_gauge_Check_2 ((i+1:Nat):Int) L R vs).Ends (vs.getD (i+1) default).at_:=by
        unfold m_gauge_Check_2;rw [Int.toNat_natCast];exact M.i_grd (gA2 (by omega) (by omega)) M.i_pure
      have c2:(m_gauge_Check_2 (((i+1:Nat):Int)-1) L R vs).Ends (vs.getD i default).at_:=by
        unfold m_gauge_Check_2;rw [show Int.toNat (((i+1:Nat):Int)-1)=i by omega];exact M.i_grd (gA2 (by omega) (by omega)) M.i_pure
      exact M.i_t (decide_eq_true (by omega)) (M.i_bind c1 (M.i_grd (gA2 (by omega) (by omega)) (M.i_bind c2 (M.i_f (decide_eq_false (by omega)) (M.i_grd (gA2 (by omega) (by omega)) M.i_pure)))))
    · simp only [m_gauge_rising_155_b0];exact M.i_f (decide_eq_false (by omega)) M.i_pure
/-- The verticals with their widths, one behind the other. -/
theorem widths_out {S X:Type} {bd:S->Vrt × Int->M (S ⊕ X)} (h:Ga.Gs L R vs dp sp) (J:Nat->S->Prop) {s0:S} (h0:J 0 s0)
    (round:∀ i s,i<vs.length->J i s->(bd s (vs.getD i default,Ga.wd L R vs i)).Out (fun z=>∃ s',z = .inl s'/\J (i+1) s')) :
    (m_gauge_Gauging_widths_1 (M.yl bd) (.inl s0) L R vs).Out (fun z=>∃ s,z = .inl s/\J vs.length s):=by
  have n2:=h.n2;have l0:=h.l0;have r1:=h.r1;unfold m_gauge_Gauging_widths_1;refine M.o_bind (P:=fun z:(S ⊕ X) ⊕ (S ⊕ X)=>∃ s,z = .inr (.inl s)/\J vs.length s) (M.o_for vs.length (fun i (t:Nat × (S ⊕ X))=>t.1=i/\∃ s,t.2 = .inl s/\J i s) ?_ ?_ ⟨rfl,s0,rfl,h0⟩) ?_
  · rintro _ ⟨k,t⟩ hk ⟨rfl,s,rfl,hJ⟩;dsimp only at hk hJ;have b:=h.b k hk;simp only [m_gauge_Gauging_widths_1_b2];have yl:(M.yl bd (.inl s) (vs.getD k default,Ga.wd L R vs k)).Out (fun y=>∃ s',y=(true,.inl s')/\J (k+1) s'):=M.o_bind (round k s hk hJ) (by
      rintro _ ⟨s',rfl,h'⟩;exact M.o_pure ⟨s',rfl,h'⟩)
    have j1:∀ from_:Int,from_=(if 0<k then (vs.getD (k-1) default).at_ else L)->(m_gauge_Gauging_widths_1_j1 (M.yl bd) R vs k (.inl s) from_).Out (fun x=>match x with | .inl t=>t.1=k+1/\∃ s,t.2 = .inl s/\J (k+1) s | .inr r=>∃ s,r = .inr (.inl s)/\J vs.length s):=fun from_ hf=>by
      have fb:0<=from_/\from_<=1000:=by
        rw [hf];by_cases c:0<k
        · rw [if_pos c]; have:=h.b (k-1) (by omega); omega
        · rw [if_neg c]; have:=h.l1; omega
      unfold m_gauge_Gauging_widths_1_j1;refine M.o_if (fun c=>?_) (fun c=>?_)
      · have c:=of_decide_eq_true c;have b':=h.b (k+1) (by omega);rw [show Int.toNat ((k:Int)+1)=k+1 by omega];have w:(vs.getD (k+1) default).at_-from_=Ga.wd L R vs k:=by unfold Ga.wd; rw [if_pos (by omega),hf]
        refine M.o_grd (gA2 (by omega) (by omega)) (M.o_grd (gA2 (by omega) (by omega)) ?_);rw [w];refine M.o_bind yl ?_;rintro _ ⟨s',rfl,h'⟩;exact M.o_f rfl (M.o_pure ⟨rfl,s',rfl,h'⟩)
      · have c:=of_decide_eq_false c;have w:R-from_=Ga.wd L R vs k:=by unfold Ga.wd; rw [if_neg (by omega),hf]
        refine M.o_grd (gA2 (by omega) (by omega)) ?_;rw [w];refine M.o_bind yl ?_;rintro _ ⟨s',rfl,h'⟩;exact M.o_f rfl (M.o_pure ⟨rfl,s',rfl,h'⟩)
    refine M.o_t (decide_eq_true (by omega)) (M.o_grdD (by omega) (M.o_if (fun c=>?_) (fun c=>?_)))
    · have c:=of_decide_eq_true c;rw [show Int.toNat ((k:Int)-1)=k-1 by omega];exact M.o_grd (gA2 (by omega) (by omega)) (M.o_grd (gA2 (by omega) (by omega)) (M.o_mono (j1 _ (by rw [if_pos (by omega)])) (fun z hz=>by cases z <;> exact hz)))
    · have c:=of_decide_eq_false c;exact M.o_mono (j1 _ (by rw [if_neg (by omega)])) (fun z hz=>by cases z <;> exact hz)
  · rintro ⟨k,t⟩ ⟨e,s,rfl,hJ⟩;dsimp only at e;subst e;simp only [m_gauge_Gauging_widths_1_b2];exact M.o_f (decide_eq_false (by omega)) (M.o_pure ⟨s,rfl,hJ⟩)
  · rintro _ ⟨s,rfl,hJ⟩;exact M.o_pure ⟨s,rfl,hJ⟩
/-- What flows through a panel. -/
def gq_ (L R:Int) (vs:List Vrt) (dp sp:List Int) (k:Nat):Int:=Ga.wd L R vs k*dp.getD k 0*sp.getD k 0
theorem gq_b (h:Ga.Gs L R vs dp sp) {k:Nat} (hk:k<vs.length):(0<=Ga.wd L R vs k*dp.getD k 0/\Ga.wd L R vs k*dp.getD k 0<=2000000)/\-10000000000<=gq_ L R vs dp sp k/\gq_ L R vs dp sp k<=10000000000:=by
  have w:=h.wd_b hk;have d:=h.d k hk;have s:=h.s k hk;have a:=Int.mul_nonneg (show 0<=Ga.wd L R vs k by omega) (show 0<=dp.getD k 0 by omega);have b:=Ga.mulA (a:=Ga.wd L R vs k) (b:=dp.getD k 0) (A:=1000) (B:=2000) (by omega) (by omega);have c:=Ga.mulA (a:=Ga.wd L R vs k*dp.getD k 0) (b:=sp.getD k 0) (A:=2000000) (B:=5000) (by omega) (by omega);unfold gq_;omega
theorem real3_out (h:Ga.Gs L R vs dp sp):(m_gauge_Real L R vs dp sp).Out (fun z=>z=(Ga.Zs (gq_ L R vs dp sp) vs.length,0)):=by
  have ld:=h.ld;have ls:=h.ls;have n2:=h.n2;unfold m_gauge_Real;refine M.o_bindE (gcheck h) (M.o_f rfl (M.o_f (by rw [ld,ls]; simp) (M.o_bindE (a:=(L,R)) M.i_pure (M.o_bind (widths_out h (fun i (s:Int × Int)=>s.1=i/\s.2=Ga.Zs (gq_ L R vs dp sp) i) ⟨rfl,rfl⟩ ?_) ?_))))
  · rintro i ⟨s,s2⟩ hi ⟨e,e2⟩;dsimp only at e e2;subst e e2;simp only [m_gauge_Real_b0];have d:=h.d i hi;have s:=h.s i hi;have q:=gq_b h hi;have z:=Ga.Zs.bd (f:=gq_ L R vs dp sp) (B:=10000000000) (n:=i) fun k hk=>(gq_b h (show k<vs.length by omega)).2;rw [Int.toNat_natCast];have eq:Ga.wd L R vs i*dp.getD i 0*sp.getD i 0=gq_ L R vs dp sp i:=rfl;rw [eq];exact M.o_grd (gA2 (by omega) (by omega)) (M.o_bindE (gin_t (by omega) (by omega)) (M.o_grd (gOr2 (by omega) (by omega)) (M.o_bindE (M.i_opt (r:=true) (fun _=>gin_t (by omega) (by omega)) (fun h=>by cases h)) (M.o_f rfl (M.o_grd (gA2 (by omega) (by omega)) (M.o_grd (gA2 (by omega) (by omega)) (M.o_grd (gA2 (by omega) (by omega)) (M.o_grd (gA2 (by omega) (by omega)) (M.o_pure ⟨_,rfl,by dsimp only; omega,rfl⟩)))))))))
  · rintro _ ⟨⟨s,s2⟩,rfl,e,e2⟩;dsimp only at e e2;subst e2;exact M.o_pure rfl
theorem times_ends {l:List Span} (hn:l.length<=1000) (hb:∀ i,i<l.length->(-100000000000<=(Ga.tm l i).1*(l.getD i default).lo/\(Ga.tm l i).1*(l.getD i default).lo<=100000000000)/\(-100000000000<=(Ga.tm l i).1*(l.getD i default).hi/\(Ga.tm l i).1*(l.getD i default).hi<=100000000000)/\(-100000000000<=(Ga.tm l i).2*(l.getD i default).lo/\(Ga.tm l i).2*(l.getD i default).lo<=100000000000)/\-100000000000<=(Ga.tm l i).2*(l.getD i default).hi/\(Ga.tm l i).2*(l.getD i default).hi<=100000000000) :
    (m_gauge_times l).Ends (Ga.tm l l.length):=by
  unfold m_gauge_times;refine M.i_bind (a:=Ga.tm l l.length) (M.i_for (fun i=>((Ga.tm l i).1,(Ga.tm l i).2,i)) l.length (fun i hi=>?_) ?_) M.i_pure
  · have b:=hb i hi;simp only [m_gauge_times_b0];exact M.i_t (decide_eq_true (by omega)) (M.grdD (by omega) (M.i_grd (gA2 (by omega) (by omega)) (M.i_grd (gA2 (by omega) (by omega)) (M.i_grd (gA2 (by omega) (by omega)) (M.i_grd (gA2 (by omega) (by omega)) M.i_pure)))))
  · simp only [m_gauge_times_b0];exact M.i_f (decide_eq_false (by omega)) M.i_pure
theorem panel_out (h:Ga.Gs L R vs dp sp) {k:Nat} (hk:k<vs.length) :
    (m_gauge_times [(⟨Ga.wd L R vs k,Ga.wd L R vs k⟩:Span),(⟨(vs.getD k default).dlo,(vs.getD k default).dhi⟩:Span),(⟨(vs.getD k default).slo,(vs.getD k default).shi⟩:Span)]).Out (fun z=>(z.1<=gq_ L R vs dp sp k/\gq_ L R vs dp sp k<=z.2)/\-10000000000<=z.1/\z.2<=10000000000):=by
  have w:=h.wd_b hk;have d:=h.d k hk;have s:=h.s k hk;generalize hl:[(⟨Ga.wd L R vs k,Ga.wd L R vs k⟩:Span),(⟨(vs.getD k default).dlo,(vs.getD k default).dhi⟩:Span),(⟨(vs.getD k default).slo,(vs.getD k default).shi⟩:Span)]=l;have e0:l.getD 0 default=⟨Ga.wd L R vs k,Ga.wd L R vs k⟩:=by rw [← hl]; rfl
  have e1:l.getD 1 default=⟨(vs.getD k default).dlo,(vs.getD k default).dhi⟩:=by rw [← hl]; rfl
  have e2:l.getD 2 default=⟨(vs.getD k default).slo,(vs.getD k default).shi⟩:=by rw [← hl]; rfl
  have el:l.length=3:=by rw [← hl]; rfl
  have z0:Ga.tm l 0=(1,1):=rfl;have t0:=Ga.tm_b (l:=l) (i:=0) (B:=1) (b:=1000) (A:=1000) (by rw [z0]; decide) (by rw [z0]; decide) (by rw [e0]; dsimp only; omega) (by rw [e0]; dsimp only; omega) rfl;have t1:=Ga.tm_b (l:=l) (i:=1) (B:=1000) (b:=2000) (A:=2000000) t0.2.1 t0.2.2 (by rw [e1]; dsimp only; omega) (by rw [e1]; dsimp only; omega) rfl;have t2:=Ga.tm_b (l:=l) (i:=2) (B:=2000000) (b:=5000) (A:=10000000000) t1.2.1 t1.2.2 (by rw [e2]; dsimp only; omega) (by rw [e2]; dsimp only; omega) rfl;have p0:(Ga.tm l 1).1<=Ga.wd L R vs k/\Ga.wd L R vs k<=(Ga.tm l 1).2:=by
    have:=Ga.prod_in (lo:=(Ga.tm l 0).1) (hi:=(Ga.tm l 0).2) (p:=1) (c:=(l.getD 0 default).lo) (d:=(l.getD 0 default).hi) (q:=Ga.wd L R vs k) (by rw [z0]; decide) (by rw [z0]; decide) (by rw [e0]; exact Int.le_refl _) (by rw [e0]; exact Int.le_refl _);rw [Int.one_mul] at this;exact this
  have p1:(Ga.tm l 2).1<=Ga.wd L R vs k*dp.getD k 0/\Ga.wd L R vs k*dp.getD k 0<=(Ga.tm l 2).2 :=
    Ga.prod_in (c:=(l.getD 1 default).lo) (d:=(l.getD 1 default).hi) p0.1 p0.2 (by rw [e1]; dsimp only; omega) (by rw [e1]; dsimp only; omega)
  have p2:(Ga.tm l 3).1<=gq_ L R vs dp sp k/\gq_ L R vs dp sp k<=(Ga.tm l 3).2 :=
    Ga.prod_in (c:=(l.getD 2 default).lo) (d:=(l.getD 2 default).hi) p1.1 p1.2 (by rw [e2]; dsimp only; omega) (by rw [e2]; dsimp only; omega)
  refine M.o_of (times_ends (by omega) (fun i hi=>?_)) ?_
  · rcases (show i=0∨i=1∨i=2 by omega) with rfl | rfl | rfl
    · have:=t0.1; omega
    · have:=t1.1; omega
    · have:=t2.1; omega
  · rw [el];have:=t2.2;exact ⟨p2,this.1.1,this.2.2⟩
theorem panels_out (h:Ga.Gs L R vs dp sp):(m_gauge_Panels L R vs).Out (fun z=>z.2=0/\z.1.length=vs.length/\∀ k,k<vs.length->((z.1.getD k default).lo<=gq_ L R vs dp sp k/\gq_ L R vs dp sp k<=(z.1.getD k default).hi)/\-10000000000<=(z.1.getD k default).lo/\(z.1.getD k default).hi<=10000000000):=by
  have n2:=h.n2;unfold m_gauge_Panels;refine M.o_bindE (gcheck h) (M.o_f rfl (M.o_bindE (a:=(L,R)) M.i_pure (M.o_bind (widths_out h (fun i (s:List Span)=>s.length=i/\∀ k,k<i->((s.getD k default).lo<=gq_ L R vs dp sp k/\gq_ L R vs dp sp k<=(s.getD k default).hi)/\-10000000000<=(s.getD k default).lo/\(s.getD k default).hi<=10000000000) ⟨rfl,fun k hk=>by omega⟩ ?_) ?_)))
  · rintro i l hi ⟨ln,v⟩;simp only [m_gauge_Panels_b0];refine M.o_bindE (a:=(Ga.wd L R vs i,Ga.wd L R vs i)) M.i_pure (M.o_bind (panel_out h hi) ?_);rintro ⟨a,b⟩ p;dsimp only at p;refine M.o_grdD (by simp only [List.length_cons,List.length_nil]; omega) (M.o_pure ⟨_,rfl,by simp [ln],fun k hk=>?_⟩);rcases Nat.lt_or_ge k i with c | c
    · rw [Ga.appL ln c]; exact v k c
    · obtain rfl:k=i:=by omega
      rw [Ga.appE ln]; exact p
  · rintro _ ⟨l,rfl,ln,v⟩;exact M.o_pure ⟨rfl,ln,v⟩
theorem gflow_out (h:Ga.Gs L R vs dp sp):(m_gauge_Flow L R vs).Out (fun z=>z.2.2=0/\z.1<=Ga.Zs (gq_ L R vs dp sp) vs.length/\Ga.Zs (gq_ L R vs dp sp) vs.length<=z.2.1/\-100000000000<=z.1/\z.2.1<=100000000000):=by
  have n2:=h.n2;unfold m_gauge_Flow;refine M.o_bind (panels_out h) ?_;rintro ⟨l,e⟩ ⟨e0,ln,v⟩;dsimp only at e0 ln v;subst e0;have bl:∀ k,k<vs.length->-10000000000<=(l.getD k default).lo/\(l.getD k default).lo<=10000000000:=fun k hk=>by
    have:=v k hk; have:=(gq_b h hk).2; omega
  have bh:∀ k,k<vs.length->-10000000000<=(l.getD k default).hi/\(l.getD k default).hi<=10000000000:=fun k hk=>by
    have:=v k hk; have:=(gq_b h hk).2; omega
  refine M.o_bindE (a:=(Ga.Zs (fun k=>(l.getD k default).lo) vs.length,Ga.Zs (fun k=>(l.getD k default).hi) vs.length)) (M.i_for (fun i=>(Ga.Zs (fun k=>(l.getD k default).lo) i,Ga.Zs (fun k=>(l.getD k default).hi) i,i)) vs.length (fun i hi=>?_) ?_) (M.o_pure ⟨rfl,Ga.Zs.le fun k hk=>(v k hk).1.1,Ga.Zs.le fun k hk=>(v k hk).1.2,?_,?_⟩)
  · have z1:=Ga.Zs.bd (f:=fun k=>(l.getD k default).lo) (B:=10000000000) (n:=i) fun k hk=>bl k (by omega);have z2:=Ga.Zs.bd (f:=fun k=>(l.getD k default).hi) (B:=10000000000) (n:=i) fun k hk=>bh k (by omega);have b1:=bl i hi;have b2:=bh i hi;simp only [m_gauge_Flow_b0];refine M.i_t (decide_eq_true (by omega)) (M.grdD (by omega) (M.i_bind (a:=(Ga.Zs (fun k=>(l.getD k default).lo) i+(l.getD i default).lo,Ga.Zs (fun k=>(l.getD k default).hi) i+(l.getD i default).hi)) ?_ M.i_pure));unfold m_gauge_plus;exact M.i_grd (gA2 (by dsimp only; omega) (by dsimp only; omega)) (M.i_grd (gA2 (by dsimp only; omega) (by dsimp only; omega)) M.i_pure)
  · simp only [m_gauge_Flow_b0];exact M.i_f (decide_eq_false (by omega)) M.i_pure
  · have:=Ga.Zs.bd (f:=fun k=>(l.getD k default).lo) (B:=10000000000) (n:=vs.length) bl;dsimp only; omega
  · have:=Ga.Zs.bd (f:=fun k=>(l.getD k default).hi) (B:=10000000000) (n:=vs.length) bh;dsimp only; omega
/-- What really flowed, and the span that was found. -/
theorem sounded_out (b:List UInt8):(zdm b).Out (fun z=>z.2.2.2.2=0/\(z.2.2.2.1=true->(0<=z.2.1/\z.2.1<=z.1)/\z.1<=z.2.2.1/\z.2.2.1<=200000)):=by
  unfold zdm;refine M.o_bindE (a:=(0,0)) (by unfold zaI; exact M.i_pure) (M.o_bind section_out ?_);rintro ⟨L,R,az,dp,sp,u,x⟩ ⟨h,so⟩;dsimp only at h so ⊢;refine M.o_bind (gauged_out h so) ?_;rintro ⟨L',R',vs,u',x'⟩ ⟨e1,e2,g⟩;dsimp only at e1 e2 g ⊢;subst e1 e2;refine M.o_bind (real3_out g) ?_;rintro _ rfl;dsimp only;refine M.o_bind (gflow_out g) ?_;rintro ⟨lo,hi,e⟩ ⟨e0,h1,h2,h3,h4⟩;dsimp only at e0 h1 h2 h3 h4;subst e0;dsimp only;generalize Ga.Zs (gq_ L' R' vs dp sp) vs.length=q at *;refine M.o_f (by rw [decide_eq_false (by omega),decide_eq_false (by omega)]; rfl) ?_;by_cases c0:lo<0
  · rw [decide_eq_true c0];exact M.o_grd rfl (M.o_grd rfl (M.o_t rfl (M.o_pure ⟨rfl,fun h=>by cases h⟩)))
  · have d0:=Int.ediv_nonneg (show 0<=hi by omega) (show (0:Int)<=1000 by decide);have d1:=Int.ediv_le_self 1000 (show 0<=hi by omega);refine M.o_grd (by rw [decide_eq_false c0,gA3 (by omega) (by omega) (by omega)]; rfl) (M.o_grd (by rw [decide_eq_false c0,gA2 (by omega) (by omega)]; rfl) (M.o_if (fun c=>M.o_pure ⟨rfl,fun h=>by cases h⟩) (fun c=>?_)));rw [Bool.or_eq_false_iff] at c;have c2:=of_decide_eq_false c.2;refine M.o_grd (gA3 (by omega) (by omega) (by omega)) (M.o_grd (gA3 (by omega) (by omega) (by omega)) (M.o_grd (gA3 (by omega) (by omega) (by omega)) (M.o_grd (gA2 (by omega) (by omega)) (M.o_pure ⟨rfl,fun _=>?_⟩))));dsimp only;omega
end Go.Proofs.YtaolcidinlnklaaGreat
