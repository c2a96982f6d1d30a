/- Part 6 of the texts on which the proof rests. Conditions: none. -/
import Derived.KernelRfl
import Derived.Test.YtbgoclcmgbpckabGreatZA5
set_option linter.unusedVariables false
set_option linter.unusedSimpArgs false
set_option linter.unusedSectionVars false
-- libL/PN.lean
namespace Go.Nm
namespace M
variable {α β σ ρ:Type}
def Out (m:M α) (Q:α->Prop):Prop:=∃ r,m.Ends r/\Q r
theorem o_of {m:M α} {a:α} {Q:α->Prop} (h:m.Ends a) (q:Q a):m.Out Q:=⟨a,h,q⟩
theorem o_pure {a:α} {Q:α->Prop} (h:Q a):(pure a).Out Q:=⟨a,i_pure,h⟩
theorem o_mono {m:M α} {P Q:α->Prop} (h:m.Out P) (k:∀ a,P a->Q a):m.Out Q:=by
  obtain ⟨a,h1,h2⟩:=h;exact ⟨a,h1,k a h2⟩
theorem o_bind {m:M α} {k:α->M β} {P:α->Prop} {Q:β->Prop} (h:m.Out P) (h':∀ a,P a->(k a).Out Q):(bind m k).Out Q:=by
  obtain ⟨a,h1,h2⟩:=h;obtain ⟨b,h3,h4⟩:=h' a h2;exact ⟨b,i_bind h1 h3,h4⟩
theorem o_bindE {m:M α} {k:α->M β} {a:α} {Q:β->Prop} (h:m.Ends a) (h':(k a).Out Q):(bind m k).Out Q:=o_bind (o_of (Q:=fun x=>x=a) h rfl) (fun _ e=>by subst e; exact h')
theorem o_grd {b:Bool} {k:M α} {Q:α->Prop} (hb:b=true) (h:k.Out Q):(grd b k).Out Q:=by subst hb; exact h
theorem o_grdD {p:Prop} [Decidable p] {k:M α} {Q:α->Prop} (hp:p) (h:k.Out Q):(grd (decide p) k).Out Q:=o_grd (decide_eq_true hp) h
theorem o_if {b:Bool} {x y:M α} {Q:α->Prop} (h:b=true->x.Out Q) (h':b=false->y.Out Q):(bif b then x else y).Out Q:=by
  cases b with
  | true=>exact h rfl
  | false=>exact h' rfl
theorem o_t {b:Bool} {x y:M α} {Q:α->Prop} (hb:b=true) (h:x.Out Q):(bif b then x else y).Out Q:=by subst hb; exact h
theorem o_f {b:Bool} {x y:M α} {Q:α->Prop} (hb:b=false) (h:y.Out Q):(bif b then x else y).Out Q:=by subst hb; exact h
theorem o_opt {b:Bool} {m:M α} {d:α} {Q:α->Prop} (h:b=true->m.Out Q) (h':b=false->Q d):(opt b m d).Out Q:=by
  cases b with
  | true=>exact h rfl
  | false=>exact o_pure (h' rfl)
/-- What a round leaves. -/
def Rd (J:Nat->σ->Prop) (Q:ρ->Prop) (m:Nat):σ ⊕ ρ->Prop
  | .inl s=>∃ m',m'<m/\J m' s
  | .inr r=>Q r
theorem o_iter {body:σ->M (σ ⊕ ρ)} {Q:ρ->Prop} (J:Nat->σ->Prop) (round:∀ m s,J m s->(body s).Out (Rd J Q m)):∀ (m:Nat) (s:σ),J m s->(iter body s).Out Q:=by
  intro m;induction m using Nat.strongRecOn with
  | _ m ih =>
    intro s hs;obtain ⟨x,h1,h2⟩:=round m s hs;cases x with
    | inl s' =>
      obtain ⟨m',hlt,hj⟩:=h2;obtain ⟨r,h3,h4⟩:=ih m' hlt s' hj;exact ⟨r,i_next h1 h3,h4⟩
    | inr r=>exact ⟨r,i_stop h1,h2⟩
/-- A loop that counts from 0 to n. -/
theorem o_for {body:σ->M (σ ⊕ ρ)} {Q:ρ->Prop} (n:Nat) (J:Nat->σ->Prop) (round:∀ i s,i<n->J i s->(body s).Out (fun x=>match x with | .inl s'=>J (i+1) s' | .inr r=>Q r))
    (last:∀ s,J n s->(body s).Out (fun x=>match x with | .inl _=>False | .inr r=>Q r)) {s:σ} (h:J 0 s):(iter body s).Out Q:=by
  refine o_iter (fun m s=>∃ i,i<=n/\m=n-i/\J i s) ?_ n s ⟨0,Nat.zero_le _,rfl,h⟩;rintro m s ⟨i,hi,rfl,hj⟩;by_cases e:i<n
  · refine o_mono (round i s e hj) ?_;intro x hx;cases x with
    | inl s'=>exact ⟨n-(i+1),by omega,i+1,e,rfl,hx⟩
    | inr r=>exact hx
  · obtain rfl:i=n:=by omega
    refine o_mono (last s hj) ?_;intro x hx;cases x with
    | inl s'=>exact hx.elim
    | inr r=>exact hx
end M
theorem M.i_f {α:Type} {b:Bool} {x y:M α} {r:α} (hb:b=false) (h:y.Ends r):(bif b then x else y).Ends r:=by subst hb; exact h
theorem M.i_for {σ ρ:Type} {body:σ->M (σ ⊕ ρ)} {r:ρ} (st:Nat->σ) (n:Nat) (step:∀ i,i<n->(body (st i)).Ends (.inl (st (i+1)))) (fin:(body (st n)).Ends (.inr r)):(M.iter body (st 0)).Ends r:=by
  refine M.i_loop (r:=r) (fun m s=>∃ i,i<=n/\m=n-i/\s=st i) ?_ n (st 0) ⟨0,Nat.zero_le _,rfl,rfl⟩;rintro m s ⟨i,hi,rfl,rfl⟩;by_cases h:i<n
  · exact .inl ⟨_,n-(i+1),by omega,step i h,i+1,h,rfl,rfl⟩
  · obtain rfl:i=n:=by omega
    exact .inr fin
theorem M.i_t {α:Type} {b:Bool} {x y:M α} {r:α} (hb:b=true) (h:x.Ends r):(bif b then x else y).Ends r:=by subst hb; exact h
theorem take_succ_D {α:Type} (l:List α) (i:Nat) (h:i<l.length) (d:α):l.take i++[l.getD i d]=l.take (i+1):=by
  rw [List.take_succ_eq_append_getElem h];simp [List.getD,h]
theorem gset {α:Type} (l:List α) (i j:Nat) (x d:α) (h:i<l.length):(l.set i x).getD j d=if j=i then x else l.getD j d:=by
  simp only [List.getD_eq_getElem?_getD,List.getElem?_set];by_cases e:i=j
  · subst e; simp [h]
  · rw [if_neg e,if_neg (fun h=>e h.symm)]
theorem getD_el {α:Type} (l:List α) {k:Nat} (h:k<l.length) (d:α):l.getD k d=l[k]:=by rw [List.getD_eq_getElem?_getD,List.getElem?_eq_getElem h,Option.getD_some]
theorem gOr2 {c:Bool} {p q:Prop} [Decidable p] [Decidable q] (hp:p) (hq:q):(!c||(decide p&&decide q))=true:=by rw [decide_eq_true hp,decide_eq_true hq]; cases c <;> rfl
theorem gA2 {p q:Prop} [Decidable p] [Decidable q] (hp:p) (hq:q):(decide p&&decide q)=true:=by rw [decide_eq_true hp,decide_eq_true hq]; rfl
theorem gA3 {p q r:Prop} [Decidable p] [Decidable q] [Decidable r] (hp:p) (hq:q) (hr:r):(decide p&&decide q&&decide r)=true:=by rw [decide_eq_true hp,decide_eq_true hq,decide_eq_true hr]; rfl
theorem nodup_bound:∀ (n:Nat) (l:List Int),l.Nodup->(∀ x∈l,0<=x/\x<n)->l.length<=n
  | 0,l,_,hb=>by
    cases l with
    | nil=>exact Nat.le_refl _
    | cons x l=>have:=hb x (by simp); omega
  | n + 1, l, hn, hb => by
    by_cases hm:(n:Int)∈l
    · have h1:(l.erase (n:Int)).length=l.length-1:=List.length_erase_of_mem hm;have h2:=nodup_bound n (l.erase (n:Int)) (hn.erase _) (fun x hx=>by
        have hx':=(List.Nodup.mem_erase_iff hn).1 hx;have:=hb x hx'.2;have:=hx'.1;omega)
      have:=List.length_pos_of_mem hm;omega
    · have:=nodup_bound n l hn (fun x hx=>by
        have:=hb x hx;have:x ≠ n:=fun e=>hm (e ▸ hx);omega)
      omega
theorem mem_getD {α:Type} {l:List α} {x:α} (h:x∈l) (d:α):∃ i,i<l.length/\l.getD i d=x:=by
  obtain ⟨i,hi,e⟩:=List.getElem_of_mem h;exact ⟨i,hi,by rw [getD_el l hi d]; exact e⟩
end Go.Nm
-- libO/OP.lean
namespace Go.Nm
namespace Pk
/-- The first peak behind the flood of each one, and how many floods are over when a peak comes. -/
structure Fl (n:Nat) (nx kk:Nat->Nat):Prop where
  lt:∀ i,i<n->i<nx i
  le:∀ i,i<n->nx i<=n
  kle:∀ m,kk m<=m
  iff:∀ i m,i<n->m<=n->(i<kk m↔nx i<=m)
namespace Fl
variable {n:Nat} {nx kk:Nat->Nat}
theorem kmono (F:Fl n nx kk) {a b:Nat} (h:a<=b) (hb:b<=n):kk a<=kk b:=by
  rcases Nat.lt_or_ge (kk b) (kk a) with hlt | hge
  · have h1:=F.kle a;have h2:=(F.iff (kk b) a (by omega) (by omega)).1 hlt;have h3:=(F.iff (kk b) b (by omega) (by omega)).2 (by omega);omega
  · exact hge
end Fl
/-- The greatest worth of the peaks ahead of one. -/
structure IsS (n:Nat) (v:Nat->Int) (kk:Nat->Nat) (S:Nat->Int):Prop where
  z:S 0=0
  s:∀ i,i<n->S (i+1)=max (S i) (S (kk i)+v i)
/-- The greatest worth from a peak on. -/
structure IsB (n:Nat) (v:Nat->Int) (nx:Nat->Nat) (B:Nat->Int):Prop where
  z:B n=0
  s:∀ i,i<n->B i=max (max 0 (B (i+1))) (v i+B (nx i))
variable {n:Nat} {nx kk:Nat->Nat} {v S B:Nat->Int}
theorem IsS.mono (h:IsS n v kk S):∀ {a b:Nat},a<=b->b<=n->S a<=S b:=by
  intro a b hab;induction hab with
  | refl=>intro _; exact Int.le_refl _
  | @step m k ih =>
    intro hb;have:=ih (by omega);have e:=h.s m (by omega);rw [Nat.succ_eq_add_one];omega
theorem IsB.anti (h:IsB n v nx B):∀ {a b:Nat},a<=b->b<=n->B b<=B a:=by
  intro a b hab;induction hab with
  | refl=>intro _; exact Int.le_refl _
  | @step m k ih =>
    intro hb;have:=ih (by omega);have e:=h.s m (by omega);rw [Nat.succ_eq_add_one];omega
theorem fwd (F:Fl n nx kk) (hS:IsS n v kk S) (hB:IsB n v nx B):∀ i,i<=n->∀ m,m<=n->(∀ j,j<i->nx j<=m)->(i=0->True)->S i+B m<=B 0:=by
  intro i;induction i using Nat.strongRecOn with
  | _ i ih =>
    intro hi m hm hj _;cases i with
    | zero =>
      rw [hS.z];have:=hB.anti (Nat.zero_le m) hm;omega
    | succ i =>
      have e:=hS.s i (by omega);have k1:=ih i (by omega) (by omega) m hm (fun j hj'=>hj j (by omega)) (fun _=>trivial);have h1:=hj i (by omega);have b1:=hB.s i (by omega);have a1:=hB.anti h1 hm;have kl:=F.kle i;have k2:=ih (kk i) (by omega) (by omega) i (by omega) (fun j hj'=>(F.iff j i (by omega) (by omega)).1 hj') (fun _=>trivial);omega
theorem bwd (F:Fl n nx kk) (hS:IsS n v kk S) (hB:IsB n v nx B):∀ d i,i+d=n->B i+S (kk i)<=S n:=by
  intro d;induction d using Nat.strongRecOn with
  | _ d ih =>
    intro i hi;cases d with
    | zero =>
      obtain rfl:i=n:=by omega
      rw [hB.z];have:=hS.mono (F.kle i) (Nat.le_refl _);omega
    | succ d =>
      have e:=hB.s i (by omega);have k1:=ih d (by omega) (i+1) (by omega);have m1:=hS.mono (F.kmono (Nat.le_succ i) (by omega)) (Nat.le_trans (F.kle (i+1)) (by omega));have l1:=F.lt i (by omega);have l2:=F.le i (by omega);have k2:=ih (n-nx i) (by omega) (nx i) (by omega);have q:=(F.iff i (nx i) (by omega) l2).2 (Nat.le_refl _);have m2:=hS.mono q (Nat.le_trans (F.kle (nx i)) l2);have s1:=hS.s i (by omega);have m3:=hS.mono (Nat.le_trans (F.kle i) (show i<=n by omega)) (Nat.le_refl n);rw [Nat.succ_eq_add_one] at *;omega
/-- Reckoned from either end it is the same. -/
theorem both (F:Fl n nx kk) (hS:IsS n v kk S) (hB:IsB n v nx B):B 0=S n:=by
  have h1:=fwd F hS hB n (Nat.le_refl _) n (Nat.le_refl _) (fun j hj=>F.le j hj) (fun _=>trivial);have h2:=bwd F hS hB n 0 (by omega);have h3:kk 0=0:=by have:=F.kle 0; omega
  rw [h3,hS.z] at h2;rw [hB.z] at h1;omega
/-- The sum of a function's values from a to b. -/
def sm (d:Nat->Int) (a:Nat):Nat->Int
  | 0=>0
  | k+1=>sm d a k+d (a+k)
theorem sm_add (d:Nat->Int) (a j k:Nat):sm d a (j+k)=sm d a j+sm d (a+j) k:=by
  induction k with
  | zero=>simp [sm]
  | succ k ih=>rw [← Nat.add_assoc]; simp only [sm]; rw [ih,Nat.add_assoc]; omega
end Pk
end Go.Nm
-- libO/OQ.lean
namespace Go.Nm
namespace Pk
def dayAt (l:List Pk) (i:Nat):Int:=(l.getD i default).day
def stAt (l:List Pk) (i:Nat):Int:=(l.getD i default).stage
/-- Days that rise. -/
def Up (l:List Pk):Prop:=∀ i j,i<j->j<l.length->dayAt l i<dayAt l j
theorem Up.le {l:List Pk} (h:Up l) {i j:Nat} (hij:i<=j) (hj:j<l.length):dayAt l i<=dayAt l j:=by
  rcases Nat.lt_or_eq_of_le hij with e | e
  · have:=h i j e hj;omega
  · subst e; exact Int.le_refl _
theorem tw_lt {l:List Pk} {p:Pk->Bool}:∀ {j:Nat},j<(l.takeWhile p).length↔j<l.length/\∀ k,k<=j->p (l.getD k default)=true:=by
  induction l with
  | nil=>intro j; simp
  | cons a l ih =>
    intro j;rw [List.takeWhile_cons];by_cases e:p a=true
    · rw [if_pos e];cases j with
      | zero=>simp [e]
      | succ j =>
        simp only [List.length_cons,Nat.succ_lt_succ_iff,ih];refine and_congr_right fun _=>⟨fun h k hk=>?_,fun h k hk=>?_⟩
        · cases k with
          | zero=>simpa using e
          | succ k=>simpa using h k (by omega)
        · simpa using h (k+1) (by omega)
    · rw [if_neg e];simp only [List.length_nil,Nat.not_lt_zero,false_iff];intro h;exact e (by simpa using h.2 0 (Nat.zero_le _))
theorem tw_le (l:List Pk) (p:Pk->Bool):(l.takeWhile p).length<=l.length:=by
  induction l with
  | nil=>simp
  | cons a l ih =>
    rw [List.takeWhile_cons];split
    · simpa using ih
    · simp
/-- The first peak whose day is not ahead of a day. -/
def fst (l:List Pk) (t:Int):Nat:=(l.takeWhile fun p=>decide (p.day<t)).length
theorem fst_le (l:List Pk) (t:Int):fst l t<=l.length:=tw_le l _
theorem fst_lt {l:List Pk} (h:Up l) {t:Int} {j:Nat} (hj:j<l.length):j<fst l t↔dayAt l j<t:=by
  unfold fst;rw [tw_lt];constructor
  · rintro ⟨_,k⟩
    simpa [dayAt] using k j (Nat.le_refl _)
  · intro e;refine ⟨hj,fun k hk=>?_⟩;have:=h.le hk hj;show decide (dayAt l k<t)=true;exact decide_eq_true (by omega)
def nx (l:List Pk) (A:Int) (i:Nat):Nat:=fst l (dayAt l i+A)
def kk (l:List Pk) (A:Int) (m:Nat):Nat:=if m<l.length then fst l (dayAt l m-A+1) else l.length
theorem fl {l:List Pk} (h:Up l) {A:Int} (hA:1<=A):Fl l.length (nx l A) (kk l A) where
  lt i hi:=(fst_lt h hi).2 (by omega)
  le i _:=fst_le _ _
  kle m:=by
    unfold kk;split
    · rename_i hm
      rcases Nat.lt_or_ge m (fst l (dayAt l m-A+1)) with e | e
      · have:=(fst_lt h hm).1 e;omega
      · exact e
    · omega
  iff i m hi hm:=by
    unfold kk nx;split
    · rename_i hm
      rw [fst_lt h hi];have:=fst_lt h (t:=dayAt l i+A) hm;omega
    · have:=fst_le l (dayAt l i+A);omega
end Pk
end Go.Nm
namespace Go.Nm
namespace Pk
theorem IsS.uniq {n:Nat} {nx kk:Nat->Nat} {v S S':Nat->Int} (F:Fl n nx kk) (h:IsS n v kk S) (h':IsS n v kk S'):∀ i,i<=n->S i=S' i:=by
  intro i;induction i using Nat.strongRecOn with
  | _ i ih =>
    intro hi;cases i with
    | zero=>rw [h.z,h'.z]
    | succ i =>
      have:=F.kle i;rw [h.s i (by omega),h'.s i (by omega),ih i (by omega) (by omega),ih (kk i) (by omega) (by omega)]
variable {n:Nat} {nx kk:Nat->Nat} {v S:Nat->Int}
/-- Dues behind so many peaks. -/
def Du (n:Nat) (kk:Nat->Nat) (S:Nat->Int) (i:Nat) (out:Nat->Int):Prop:=∀ m,m<=n->sm out 0 m=S (min i (kk m))
theorem sm_range (d:Nat->Int) {a b:Nat} (h:a<=b):sm d a (b-a)=sm d 0 b-sm d 0 a:=by
  have:=sm_add d 0 a (b-a);rw [show a+(b-a)=b by omega,Nat.zero_add] at this;omega
theorem sm_set (d:Nat->Int) (p:Nat) (x:Int) (m:Nat):sm (fun k=>if k=p then d k+x else d k) 0 m=sm d 0 m+(if p<m then x else 0):=by
  induction m with
  | zero=>simp [sm]
  | succ m ih =>
    simp only [sm,ih,Nat.zero_add];by_cases e:m=p
    · subst e; simp; omega
    · by_cases e':p<m
      · rw [if_neg e,if_pos e',if_pos (by omega)]; omega
      · rw [if_neg e,if_neg e',if_neg (by omega)]; omega
theorem sm_zero (a m:Nat):sm (fun _=>0) a m=0:=by
  induction m with
  | zero=>rfl
  | succ m ih=>simp [sm,ih]
theorem Du.z (hS:IsS n v kk S):Du n kk S 0 (fun _=>0):=by
  intro m _;rw [Nat.zero_min,hS.z];exact sm_zero 0 m
/-- What a peak's days have when its turn comes. -/
theorem Du.has (F:Fl n nx kk) {i:Nat} {out:Nat->Int} (h:Du n kk S i out) (hi:i<n):sm out i (nx i-i)=S i-S (kk i):=by
  have l1:=F.lt i hi;have l2:=F.le i hi;have k1:=(F.iff i (nx i) hi l2).2 (Nat.le_refl _);have k2:=F.kle i;rw [sm_range out (Nat.le_of_lt l1),h (nx i) l2,h i (by omega),Nat.min_eq_left (Nat.le_of_lt k1),Nat.min_eq_right k2]
theorem Du.step (F:Fl n nx kk) (hS:IsS n v kk S) {i:Nat} {out:Nat->Int} (h:Du n kk S i out) (hi:i<n) {p:Nat} (hp:p+1=nx i) {x:Int} (hx:x=max 0 (v i-sm out i (nx i-i))):Du n kk S (i+1) (fun k=>if k=p then out k+x else out k):=by
  intro m hm;rw [sm_set,h m hm];rw [h.has F hi] at hx;have e:=hS.s i hi;have q:=F.iff i m hi hm;by_cases c:i<kk m
  · have:=q.1 c;rw [if_pos (by omega),Nat.min_eq_left (by omega),Nat.min_eq_left (by omega)];omega
  · rw [if_neg (by omega),Nat.min_eq_right (by omega),Nat.min_eq_right (by omega)];omega
theorem kk_n (F:Fl n nx kk):kk n=n:=by
  have h1:=F.kle n;rcases Nat.lt_or_ge (kk n) n with e | e
  · have:=(F.iff (kk n) n e (Nat.le_refl _)).2 (F.le _ e);omega
  · omega
section
variable (F:Fl n nx kk) (hS:IsS n v kk S) {out:Nat->Int} (h:Du n kk S n out)
include F h in
theorem Du.pre {m:Nat} (hm:m<=n):sm out 0 m=S (kk m):=by
  rw [h m hm,Nat.min_eq_right (Nat.le_trans (F.kle m) hm)]
include F hS h
omit hS in theorem Du.sum:sm out 0 n=S n:=by rw [h.pre F (Nat.le_refl _),kk_n F]
omit hS in theorem Du.at {p:Nat} (hp:p<n):out p=S (kk (p+1))-S (kk p):=by
  have h1:=h.pre F (show p+1<=n from hp);have h2:=h.pre F (Nat.le_of_lt hp);simp only [sm,Nat.zero_add] at h1;omega
theorem Du.most {c:Int} (hc:0<=c) (hv:∀ i,i<n->v i<=c) {p:Nat} (hp:p<n):out p<=c:=by
  rw [h.at F hp];have k:∀ j,kk p<=j->j<=kk (p+1)->S j<=S (kk p)+c:=by
    intro j hj;induction hj with
    | refl=>intro _; omega
    | @step j hj ih =>
      intro hj2;have:=ih (by omega);have hb:=F.kle (p+1);have e:=hS.s j (by omega);have q:=(F.iff j (p+1) (by omega) hp).1 (by omega);have:=F.lt j (by omega);have m1:=hS.mono (F.kmono (show j<=p by omega) (by omega)) (Nat.le_trans (F.kle p) (by omega));have:=hv j (by omega);rw [Nat.succ_eq_add_one];omega
  have:=k (kk (p+1)) (F.kmono (Nat.le_succ p) hp) (Nat.le_refl _);omega
end
end Pk
end Go.Nm
-- libO/OB.lean
namespace Go.Nm
namespace Bk
/-- What a recorded year says, where there is one. -/
def rec (ys:List Yr) (y:Int):Span:=match ys.find? (fun r=>r.year==y) with
  | some r=>⟨r.lo,r.hi⟩
  | none=>⟨0,2000⟩
/-- What an old note says besides. -/
def told (y:Int) (s:Span) (o:Old10):Span:=if o.src<=y/\y<=o.dst then (if o.passed.contains y then ⟨max s.lo o.stage,s.hi⟩ else ⟨s.lo,min s.hi (o.stage-1)⟩) else s
/-- The highest stages that a year can have: none if the least is above the greatest. -/
def kn (ys:List Yr) (os:List Old10) (y:Int):Span:=os.foldl (told y) (rec ys y)
/-- Whether a stage is one that a year can have, by what the notes say. -/
def can (ys:List Yr) (os:List Old10) (y x:Int):Bool:=(ys.all fun r=>!(r.year==y&&(decide (x<r.lo)||decide (x > r.hi))))&&(os.all fun o=>!(decide (o.src<=y)&&decide (y<=o.dst))||(o.passed.contains y==decide (o.stage<=x)))
structure OkY (f l:Int) (ys:List Yr):Prop where
  in_:∀ r∈ys,f<=r.year/\r.year<=l/\0<=r.lo/\r.lo<=r.hi/\r.hi<=2000
  up:ys.Pairwise fun a b=>a.year<b.year
structure OkO (f l:Int) (os:List Old10):Prop where
  in_:∀ o∈os,f<=o.src/\o.src<=o.dst/\o.dst<=l/\1<=o.stage/\o.stage<=2000
theorem rec_can {ys:List Yr} {f l y x:Int} (h:OkY f l ys) (h0:0<=x) (h1:x<=2000):(ys.all fun r=>!(r.year==y&&(decide (x<r.lo)||decide (x > r.hi))))=true↔(rec ys y).lo<=x/\x<=(rec ys y).hi:=by
  have hu:=h.up;clear h;unfold rec;induction ys with
  | nil=>simp; omega
  | cons r ys ih =>
    obtain ⟨h2,h3⟩:=List.pairwise_cons.1 hu;rw [List.all_cons,List.find?_cons];by_cases e:r.year=y
    · subst e;have k:(ys.all fun r'=>!(r'.year==r.year&&(decide (x<r'.lo)||decide (x > r'.hi))))=true:=by
        rw [List.all_eq_true];intro r' hr;have:=h2 r' hr;have:(r'.year==r.year)=false:=by rw [beq_eq_false_iff_ne]; omega
        rw [this]; rfl
      simp only [beq_self_eq_true,k,Bool.and_true,Bool.true_and,Bool.not_eq_true',Bool.or_eq_false_iff,decide_eq_false_iff_not];omega
    · have e':(r.year==y)=false:=by rw [beq_eq_false_iff_ne]; exact e
      simp only [e',Bool.false_and,Bool.not_false,Bool.true_and];exact ih hu.of_cons
theorem told_can (y x:Int):∀ (os:List Old10) (s:Span),((s.lo<=x/\x<=s.hi)/\(os.all fun o=>!(decide (o.src<=y)&&decide (y<=o.dst))||(o.passed.contains y==decide (o.stage<=x)))=true)↔(os.foldl (told y) s).lo<=x/\x<=(os.foldl (told y) s).hi
  | [],s=>by simp
  | o :: os,s=>by
    rw [List.foldl_cons,← told_can y x os (told y s o),List.all_cons,Bool.and_eq_true,← and_assoc];refine and_congr_left fun _=>?_;unfold told;by_cases h:o.src<=y/\y<=o.dst
    · rw [if_pos h];simp only [h.1,h.2,decide_true,Bool.and_self,Bool.not_true,Bool.false_or,beq_iff_eq];by_cases c:o.passed.contains y=true
      · rw [if_pos c,c];by_cases d:o.stage<=x
        · simp only [d,decide_true,and_true]; omega
        · simp only [d,decide_false]; simp; omega
      · rw [if_neg c];rw [Bool.not_eq_true] at c;rw [c];by_cases d:o.stage<=x
        · simp only [d,decide_true]; simp; omega
        · simp only [d,decide_false,and_true]; omega
    · rw [if_neg h];have:(!(decide (o.src<=y)&&decide (y<=o.dst)))=true:=by
        by_cases h1:o.src<=y
        · by_cases h2:y<=o.dst
          · exact absurd ⟨h1,h2⟩ h
          · simp [h2]
        · simp [h1]
      rw [this,Bool.true_or];simp
theorem can_iff {ys:List Yr} {os:List Old10} {f l y x:Int} (h:OkY f l ys) (h0:0<=x) (h1:x<=2000):can ys os y x=true↔(kn ys os y).lo<=x/\x<=(kn ys os y).hi:=by
  unfold can kn;rw [Bool.and_eq_true,rec_can h h0 h1];exact told_can y x os (rec ys y)
theorem told_in {f l y:Int} {s:Span}:∀ {os:List Old10},(∀ o∈os,f<=o.src/\o.src<=o.dst/\o.dst<=l/\1<=o.stage/\o.stage<=2000)->0<=s.lo->s.lo<=2000->0<=s.hi->s.hi<=2000 →
    0<=(os.foldl (told y) s).lo/\(os.foldl (told y) s).lo<=2000/\0<=(os.foldl (told y) s).hi/\(os.foldl (told y) s).hi<=2000
  | [],_,h1,h2,h3,h4=>⟨h1,h2,h3,h4⟩
  | o :: os,h,h1,h2,h3,h4=>by
    have k:=h o (by simp);rw [List.foldl_cons];have q:0<=(told y s o).lo/\(told y s o).lo<=2000/\0<=(told y s o).hi/\(told y s o).hi<=2000:=by
      unfold told;split
      · split
        · dsimp only; omega
        · dsimp only; omega
      · exact ⟨h1,h2,h3,h4⟩
    exact told_in (fun o' ho=>h o' (by simp [ho])) q.1 q.2.1 q.2.2.1 q.2.2.2
theorem rec_in {ys:List Yr} {f l:Int} (h:OkY f l ys) (y:Int):0<=(rec ys y).lo/\(rec ys y).lo<=2000/\0<=(rec ys y).hi/\(rec ys y).hi<=2000:=by
  unfold rec;cases e:ys.find? (fun r=>r.year==y) with
  | none=>dsimp only; omega
  | some r =>
    have:=h.in_ r (List.mem_of_find?_eq_some e);dsimp only;omega
theorem kn_in {ys:List Yr} {os:List Old10} {f l f' l':Int} (h:OkY f l ys) (k:OkO f' l' os) (y:Int):0<=(kn ys os y).lo/\(kn ys os y).lo<=2000/\0<=(kn ys os y).hi/\(kn ys os y).hi<=2000:=by
  obtain ⟨h1,h2,h3,h4⟩:=rec_in h y;exact told_in k.in_ h1 h2 h3 h4
end Bk
end Go.Nm
-- libO/OS.lean
namespace Go.Nm
structure SOk (c u x:Int):Prop where
  u0:0<=u
  u1:u<=c
  x0:0<=x
  x1:x<251
theorem SOk.mono {c d u x:Int} (h:SOk c u x) (hd:c<=d):SOk d u x:=⟨h.u0,Int.le_trans h.u1 hd,h.x0,h.x1⟩
/-- What a stream gives: a number below n. -/
structure Nx (c n:Int) (y:Int × Int × Int):Prop where
  ok:SOk c y.2.1 y.2.2
  lt:1<=n->0<=y.1/\y.1<n
  no:n<1->y.1=0
end Go.Nm
namespace Go.Proofs.YtbgoclcmgbpckabGreat
open Go Go.Nm
theorem next_out {b:List UInt8} {c u x n:Int} (h:SOk c u x) (hc:c<=1000000000000) (hn:n<=1000000):(zab b u x n).Out (Nx (c+1) n):=by
  obtain ⟨u0,u1,x0,x1⟩:=h;unfold zab;refine M.o_if (fun hb=>?_) (fun hb=>?_)
  · simp only [Bool.or_eq_true,decide_eq_true_eq,beq_iff_eq] at hb;refine M.o_pure ⟨⟨u0,by dsimp only; omega,x0,x1⟩,fun h1=>⟨Int.le_refl _,?_⟩,fun _=>rfl⟩;dsimp only;omega
  · simp only [Bool.or_eq_false_iff,decide_eq_false_iff_not,beq_eq_false_iff_ne,ne_eq] at hb;have hl:(0:Int)<(b.length:Int):=by omega
    have m0:=Int.emod_nonneg u (show (b.length:Int) ≠ 0 by omega);have m1:=Int.emod_lt_of_pos u hl;have d0:=Int.ediv_nonneg u0 (show (0:Int)<=(b.length:Int) by omega);have d1:u / (b.length:Int)<=u:=Int.ediv_le_self _ u0;have y1:((b.getD (Int.toNat (u % (b.length:Int))) 0).toNat:Int)<256:=by
      have:=UInt8.toNat_lt (b.getD (Int.toNat (u % (b.length:Int))) 0);omega
    have y0:(0:Int)<=((b.getD (Int.toNat (u % (b.length:Int))) 0).toNat:Int):=Int.natCast_nonneg _;generalize ((b.getD (Int.toNat (u % (b.length:Int))) 0).toNat:Int)=y at *;generalize u % (b.length:Int)=m at *;generalize u / (b.length:Int)=d at *;have hn0:0<n:=by omega
    have fin:∀ z:Int,0<=z->0<=z % n/\z % n<n:=fun z hz=>⟨Int.emod_nonneg _ (by omega),Int.emod_lt_of_pos _ hn0⟩
    have pr:∀ z w:Int,0<=z->Nx (c+1) n (z % n,u+1,w % 251):=fun z w hz=>⟨⟨by dsimp only; omega,by dsimp only; omega,by dsimp only; omega,by dsimp only; omega⟩,fun _=>fin z hz,fun h=>by omega⟩
    refine M.o_grd (by simp only [Bool.and_eq_true,decide_eq_true_eq]; omega) (M.o_grd (by simp only [Bool.and_eq_true,decide_eq_true_eq]; omega) (M.o_grd (by simp only [Bool.and_eq_true,decide_eq_true_eq]; omega) ?_));refine M.o_if (fun h1=>?_) (fun h1=>?_)
    · refine M.o_grd (by simp only [Bool.and_eq_true,decide_eq_true_eq]; omega) (M.o_grd (by simp only [Bool.and_eq_true,decide_eq_true_eq]; omega) (M.o_grd (by simp only [Bool.and_eq_true,decide_eq_true_eq]; omega) (M.o_grd (by simp only [Bool.and_eq_true,decide_eq_true_eq]; omega) (M.o_grd (by simp only [Bool.and_eq_true,decide_eq_true_eq]; omega) ?_))));refine M.o_grd (by simp only [Bool.and_eq_true,decide_eq_true_eq]; omega) (M.o_grd (by simp only [Bool.and_eq_true,decide_eq_true_eq]; omega) (M.o_grd (by simp only [Bool.and_eq_true,decide_eq_true_eq]; omega) (M.o_grd (by simp only [Bool.and_eq_true,decide_eq_true_eq]; omega) ?_)));refine M.o_if (fun h2=>?_) (fun h2=>?_)
      · refine M.o_grd (by simp only [Bool.and_eq_true,decide_eq_true_eq]; omega) (M.o_grd (by simp only [Bool.and_eq_true,decide_eq_true_eq]; omega) (M.o_grd (by simp only [Bool.and_eq_true,decide_eq_true_eq]; omega) (M.o_pure (pr _ _ (by omega)))))
      · refine M.o_grd (by simp only [Bool.and_eq_true,decide_eq_true_eq]; omega) (M.o_pure (pr _ _ (by omega)))
    · refine M.o_grd (by simp only [Bool.and_eq_true,decide_eq_true_eq]; omega) (M.o_grd (by simp only [Bool.and_eq_true,decide_eq_true_eq]; omega) (M.o_grd (by simp only [Bool.and_eq_true,decide_eq_true_eq]; omega) (M.o_grd (by simp only [Bool.and_eq_true,decide_eq_true_eq]; omega) (M.o_grd (by simp only [Bool.and_eq_true,decide_eq_true_eq]; omega) ?_))));refine M.o_if (fun h2=>?_) (fun h2=>?_)
      · refine M.o_grd (by simp only [Bool.and_eq_true,decide_eq_true_eq]; omega) (M.o_grd (by simp only [Bool.and_eq_true,decide_eq_true_eq]; omega) (M.o_grd (by simp only [Bool.and_eq_true,decide_eq_true_eq]; omega) (M.o_pure (pr _ _ (by omega)))))
      · refine M.o_grd (by simp only [Bool.and_eq_true,decide_eq_true_eq]; omega) (M.o_pure (pr _ _ (by omega)))
theorem within_out {b:List UInt8} {c u x lo hi:Int} (h:SOk c u x) (hc:c<=1000000000000) (h0:-1000<=lo) (h1:lo<=hi) (h2:hi<=10000):(zae b u x lo hi).Out (fun y=>SOk (c+1) y.2.1 y.2.2/\lo<=y.1/\y.1<=hi):=by
  unfold zae;refine M.o_grd (gA2 (by omega) (by omega)) (M.o_grd (gA2 (by omega) (by omega)) (M.o_bind (next_out h hc (by omega)) ?_));rintro ⟨r,u',x'⟩ ⟨k,hl,_⟩;have:=hl (by omega);dsimp only at this k ⊢;exact M.o_grd (gA2 (by omega) (by omega)) (M.o_pure ⟨k,by dsimp only; omega,by dsimp only; omega⟩)
end Go.Proofs.YtbgoclcmgbpckabGreat
-- libO/OR.lean
namespace Go.Nm
theorem SOk.zero:SOk 0 0 0:=⟨Int.le_refl _,Int.le_refl _,Int.le_refl _,by decide⟩
end Go.Nm
namespace Go.Proofs.YtbgoclcmgbpckabGreat
open Go Go.Nm
theorem pick_num {v n:Int} (h:1<=n/\n<=1000000):(zaY v n).Out (fun r=>0<=r/\r<n):=by
  unfold zaY;have h1:Int.tmod v n<n:=Int.tmod_lt_of_pos v (by omega);have h2:-n<Int.tmod v n:=by
    have:=Int.tmod_lt_of_pos (-v) (show 0<n by omega);rw [Int.neg_tmod] at this;omega
  refine M.o_f (decide_eq_false (by omega)) (M.o_grdD (by omega) (M.o_if (fun hb=>?_) (fun hb=>?_)))
  · have:=of_decide_eq_true hb;exact M.o_grd (gA2 (by omega) (by omega)) (M.o_pure (by omega))
  · have:=of_decide_eq_false hb;exact M.o_pure (by omega)
end Go.Proofs.YtbgoclcmgbpckabGreat
-- libO/QA.lean
namespace Go.Nm
namespace Pk
/-- The first that is not 0. -/
def fe (f:Nat->Int):Nat->Int
  | 0=>0
  | n+1=>if fe f n ≠ 0 then fe f n else f n
theorem fe_all {f:Nat->Int}:∀ {n:Nat},fe f n=0↔∀ i,i<n->f i=0
  | 0=>by simp [fe]
  | n + 1 => by
    have ih:=fe_all (f:=f) (n:=n);unfold fe;constructor
    · intro h i hi;split at h
      · rename_i h1; exact absurd h h1
      · rename_i h1
        rcases Nat.lt_or_eq_of_le (Nat.le_of_lt_succ hi) with e | e
        · exact ih.1 (Classical.not_not.1 h1) i e
        · rw [e]; exact h
    · intro h;have h1:=ih.2 fun i hi=>h i (by omega);rw [if_neg (by rw [h1]; simp)];exact h n (by omega)
theorem fe_stop {f:Nat->Int} {i:Nat} (h0:fe f i=0) (h:f i ≠ 0):∀ {n:Nat},i<n->fe f n=f i
  | 0,hn=>by omega
  | n+1,hn=>by
    unfold fe;rcases Nat.lt_or_eq_of_le (Nat.le_of_lt_succ hn) with e | e
    · have ih:=fe_stop h0 h e;rw [if_pos (by rw [ih]; exact h),ih]
    · subst e;rw [if_neg (by rw [h0]; simp)]
def pkB (p:Pk):Bool:=(decide (0<=p.day)&&decide (p.day<=4000))&&(decide (0<=p.stage)&&decide (p.stage<=2000))
def errP (l:List Pk) (i:Nat):Int:=if pkB (l.getD i default)=false then 110 else if 0<i/\(l.getD i default).day<=(l.getD (i-1) default).day then 9 else 0
def chkP (l:List Pk):Int:=if 40<l.length then 3 else fe (errP l) l.length
/-- Peaks that are right. -/
structure Ok (l:List Pk):Prop where
  few:l.length<=40
  day:∀ i,i<l.length->0<=dayAt l i/\dayAt l i<=4000
  st:∀ i,i<l.length->0<=stAt l i/\stAt l i<=2000
  up:Up l
theorem chk_ok {l:List Pk} (h:chkP l=0):Ok l:=by
  unfold chkP at h;split at h
  · cases h
  · rename_i h40
    have k:=fe_all.1 h;have k1:∀ i,i<l.length->pkB (l.getD i default)=true/\(0<i->dayAt l (i-1)<dayAt l i):=by
      intro i hi;have:=k i hi;unfold errP at this;split at this
      · cases this
      · rename_i h1
        split at this
        · cases this
        · rename_i h2
          refine ⟨by simpa using h1,fun h0=>?_⟩;unfold dayAt;omega
    have k2:∀ i,i<l.length->(0<=dayAt l i/\dayAt l i<=4000)/\(0<=stAt l i/\stAt l i<=2000):=by
      intro i hi;have:=(k1 i hi).1
      simpa [pkB,dayAt,stAt] using this
    refine ⟨by omega,fun i hi=>(k2 i hi).1,fun i hi=>(k2 i hi).2,?_⟩;intro i j hij hj;induction j with
    | zero=>omega
    | succ j ih =>
      have h1:=(k1 (j+1) hj).2 (by omega);simp only [Nat.add_sub_cancel] at h1;rcases Nat.lt_or_eq_of_le (Nat.le_of_lt_succ hij) with e | e
      · have:=ih e (by omega);omega
      · subst e; exact h1
def askP (l:List Pk) (A T:Int):Int:=if chkP l ≠ 0 then chkP l else if (1<=A/\A<=60)/\(0<=T/\T<=2000) then 0 else 4
end Pk
end Go.Nm
namespace Go.Proofs.YtbgoclcmgbpckabGreat
open Go Go.Nm
theorem in_ends (x a b:Int):(zag x a b).Ends (decide (a<=x)&&decide (x<=b)):=M.i_pure
theorem gI2 {c:Bool} {p q:Prop} [Decidable p] [Decidable q] (h:c=true->p/\q):(!c||(decide p&&decide q))=true:=by
  cases c with
  | true=>exact gA2 (h rfl).1 (h rfl).2
  | false=>rfl
end Go.Proofs.YtbgoclcmgbpckabGreat
-- libO/QB.lean
namespace Go.Nm
namespace Pk
end Pk
end Go.Nm
namespace Go.Proofs.YtbgoclcmgbpckabGreat
open Go Go.Nm
variable {l:List Pk} {A T:Int}
/-- What a peak has above the threshold. -/
def vP (l:List Pk) (T:Int) (i:Nat):Int:=Pk.stAt l i-T
end Go.Proofs.YtbgoclcmgbpckabGreat
-- libO/QC.lean
namespace Go.Nm
namespace Pk
def cA (c:List Int) (k:Nat):Nat:=Int.toNat (c.getD k 0)
/-- A choice: a strictly increasing list of peaks. -/
def Ris (n:Nat) (c:List Int):Prop:=∀ k,k<c.length->0<=c.getD k 0/\c.getD k 0<n/\(0<k->c.getD (k-1) 0<c.getD k 0)
/-- Of floods of their own, each above the threshold. -/
def Good (l:List Pk) (A T:Int) (c:List Int):Prop:=∀ k,k<c.length->T<stAt l (cA c k)/\(0<k->A<=dayAt l (cA c k)-dayAt l (cA c (k-1)))
def wS (l:List Pk) (T:Int) (c:List Int):Nat->Int
  | 0=>0
  | k+1=>wS l T c k+(stAt l (cA c k)-T)
theorem Ris.low {n:Nat} {c:List Int} (h:Ris n c):∀ k:Nat,k<c.length->(k:Int)<=c.getD k 0
  | 0,hk=>by have:=(h 0 hk).1; omega
  | k+1,hk=>by
    have ih:=h.low k (by omega);have:=(h (k+1) hk).2.2 (by omega);rw [Nat.add_sub_cancel] at this;omega
theorem Ris.few {n:Nat} {c:List Int} (h:Ris n c):c.length<=n:=by
  rcases Nat.eq_zero_or_pos c.length with e | e
  · omega
  · have h1:=h.low (c.length-1) (by omega);have h2:=h (c.length-1) (by omega);omega
theorem Ris.mono {n:Nat} {c:List Int} (h:Ris n c) {j k:Nat} (hjk:j<k) (hk:k<c.length):c.getD j 0<c.getD k 0:=by
  induction k with
  | zero=>omega
  | succ k ih =>
    have h1:=(h (k+1) hk).2.2 (by omega);rw [Nat.add_sub_cancel] at h1;rcases Nat.lt_or_eq_of_le (Nat.le_of_lt_succ hjk) with e | e
    · have:=ih e (by omega);omega
    · rw [e]; exact h1
theorem Ris.at_ {n:Nat} {c:List Int} (h:Ris n c) {k:Nat} (hk:k<c.length):cA c k<n:=by
  have:=h k hk;unfold cA;omega
/-- What is said of a worth. -/
structure WoE (l:List Pk) (A T:Int) (c:List Int) (y:Int × Int):Prop where
  ask:askP l A T ≠ 0->y=(0,askP l A T)
  arg:askP l A T=0->¬ Ris l.length c->y=(0,2)
  bad:askP l A T=0->Ris l.length c->¬ Good l A T c->y=(0,7)
  ok:askP l A T=0->Ris l.length c->Good l A T c->y=(wS l T c c.length,0)
theorem WoE.uniq {l:List Pk} {A T:Int} {c:List Int} {y y':Int × Int} (h:WoE l A T c y) (h':WoE l A T c y'):y=y':=by
  by_cases h0:askP l A T=0
  · by_cases h1:Ris l.length c
    · by_cases h2:Good l A T c
      · rw [h.ok h0 h1 h2,h'.ok h0 h1 h2]
      · rw [h.bad h0 h1 h2,h'.bad h0 h1 h2]
    · rw [h.arg h0 h1,h'.arg h0 h1]
  · rw [h.ask h0,h'.ask h0]
end Pk
end Go.Nm
namespace Go.Proofs.YtbgoclcmgbpckabGreat
open Go Go.Nm
variable {l:List Pk} {A T:Int}
end Go.Proofs.YtbgoclcmgbpckabGreat
-- libO/QD.lean
namespace Go.Nm
namespace Pk
variable {l:List Pk} {A T:Int} {c:List Int}
theorem getD_app (c:List Int) (x:Int) (k:Nat):(c++[x]).getD k 0=if k<c.length then c.getD k 0 else if k=c.length then x else 0:=by
  simp only [List.getD_eq_getElem?_getD];by_cases h:k<c.length
  · rw [if_pos h,List.getElem?_append_left h]
  · rw [if_neg h,List.getElem?_append_right (by omega)];by_cases e:k=c.length
    · subst e; simp
    · rw [if_neg e,List.getElem?_eq_none (by simp; omega)]; rfl
theorem Ris.app {n:Nat} (h:Ris n c) {x:Nat} (hx:x<n) (hl:0<c.length->cA c (c.length-1)<x):Ris n (c++[(x:Int)]):=by
  intro k hk;rw [List.length_append,List.length_singleton] at hk;rw [getD_app,getD_app];by_cases e:k<c.length
  · rw [if_pos e,if_pos (by omega)];exact h k e
  · obtain rfl:k=c.length:=by omega
    rw [if_neg (by omega),if_pos rfl];refine ⟨by omega,by omega,fun h0=>?_⟩;rw [if_pos (by omega)];have h1:=hl h0;have h2:=h (c.length-1) (by omega);unfold cA at h1;omega
theorem cA_app {k x:Nat} (h:k<=c.length):cA (c++[(x:Int)]) k=if k<c.length then cA c k else x:=by
  unfold cA;rw [getD_app];by_cases e:k<c.length
  · rw [if_pos e,if_pos e]
  · rw [if_neg e,if_neg e,if_pos (by omega)];omega
theorem Good.app (h:Good l A T c) {x:Nat} (h1:T<stAt l x) (h2:0<c.length->A<=dayAt l x-dayAt l (cA c (c.length-1))):Good l A T (c++[(x:Int)]):=by
  intro k hk;rw [List.length_append,List.length_singleton] at hk;rw [cA_app (by omega),cA_app (by omega)];by_cases e:k<c.length
  · rw [if_pos e,if_pos (by omega)];exact h k e
  · obtain rfl:k=c.length:=by omega
    rw [if_neg (by omega)];refine ⟨h1,fun h0=>?_⟩;rw [if_pos (by omega)];exact h2 h0
end Pk
end Go.Nm
namespace Go.Proofs.YtbgoclcmgbpckabGreat
open Go Go.Nm
variable {l:List Pk} {A T:Int}
end Go.Proofs.YtbgoclcmgbpckabGreat
-- libO/QE.lean
namespace Go.Proofs.YtbgoclcmgbpckabGreat
open Go Go.Nm
variable {l:List Pk} {A T:Int}
/-- Dues that prove something. -/
def Prv (l:List Pk) (A T:Int) (d:List Int):Prop:=∀ i,i<l.length->vP l T i<=Pk.sm (fun k=>d.getD k 0) i (Pk.nx l A i-i)
def DuR (d:List Int):Prop:=∀ i,i<d.length->0<=d.getD i 0/\d.getD i 0<=2000
structure PrE (l:List Pk) (A T w:Int) (d:List Int) (y:Bool × Int):Prop where
  ask:Pk.askP l A T ≠ 0->y=(false,Pk.askP l A T)
  len:Pk.askP l A T=0->d.length ≠ l.length->y=(false,2)
  rng:Pk.askP l A T=0->d.length=l.length->¬ DuR d->y=(false,4)
  ok:Pk.askP l A T=0->d.length=l.length->DuR d->y.2=0/\(y.1=true↔Prv l A T d/\Pk.sm (fun k=>d.getD k 0) 0 l.length<=w)
theorem PrE.uniq {w:Int} {d:List Int} {y y':Bool × Int} (h:PrE l A T w d y) (h':PrE l A T w d y'):y=y':=by
  by_cases h0:Pk.askP l A T=0
  · by_cases h1:d.length=l.length
    · by_cases h2:DuR d
      · obtain ⟨a1,a2⟩:=h.ok h0 h1 h2;obtain ⟨b1,b2⟩:=h'.ok h0 h1 h2;have e:y.1=y'.1:=by
          cases c1:y.1 <;> cases c2:y'.1
          · rfl
          · rw [c1] at a2; rw [c2] at b2;exact a2.2 (b2.1 rfl)
          · rw [c1] at a2; rw [c2] at b2;exact (b2.2 (a2.1 rfl)).symm
          · rfl
        exact Prod.ext e (by rw [a1,b1])
      · rw [h.rng h0 h1 h2,h'.rng h0 h1 h2]
    · rw [h.len h0 h1,h'.len h0 h1]
  · rw [h.ask h0,h'.ask h0]
theorem index_int {s:List Int} {f:Int->M Bool} {q:Int->Bool} (hl:s.length<=1000000) (h:∀ x,x∈s->(f x).Ends (q x)):∃ r,(zay s f).Ends r/\decide (0<=r)=s.any q:=by
  have out:(zay s f).Out (fun r=>decide (0<=r)=s.any q):=by
    unfold zay;refine M.o_bind (P:=fun y=>match y with | .inl r=>decide (0<=r)=s.any q | .inr (_:Unit)=>s.any q=false) ?_ ?_
    · refine M.o_for s.length (fun i (k:Nat)=>k=i/\(s.take i).any q=false) ?_ ?_ ⟨rfl,by simp⟩
      · rintro i k hi ⟨rfl,hJ⟩;simp only [zaP];have hm:s.getD k 0∈s:=by rw [getD_el s hi]; exact List.getElem_mem hi
        refine M.o_t (decide_eq_true (by omega)) (M.o_grdD (by omega) (M.o_bindE (h _ hm) (M.o_if (fun hb=>?_) (fun hb=>?_))))
        · refine M.o_pure ?_;dsimp only;rw [show s.any q=true from List.any_eq_true.2 ⟨_,hm,hb⟩];exact decide_eq_true (by omega)
        · refine M.o_pure ⟨rfl,?_⟩;rw [← take_succ_D s k hi 0,List.any_append,hJ];simp only [List.any_cons,List.any_nil,Bool.or_false,Bool.false_or];exact hb
      · rintro k ⟨rfl,hJ⟩;simp only [zaP];rw [List.take_length] at hJ;exact M.o_f (by simp) (M.o_pure hJ)
    · intro y hy;cases y with
      | inl r=>exact M.o_pure hy
      | inr u=>exact M.o_pure (by show decide ((0:Int)<=-1)=s.any q; rw [show s.any q=false from hy]; rfl)
  exact out
theorem every_int {s:List Int} {so:Int->M Bool} {p:Int->Bool} (hl:s.length<=1000000) (h:∀ x,x∈s->(so x).Ends (p x)):(zcw s so).Ends (s.all p):=by
  unfold zcw zaD;obtain ⟨r,h1,h2⟩:=index_int (s:=s) (f:=fun x=>zbe x so) (q:=fun x=>!(p x)) hl (fun x hx=>by unfold zbe; exact M.i_bind (h x hx) M.i_pure);refine M.i_bind (M.i_bind h1 M.i_pure) ?_;rw [h2,List.any_eq_not_all_not];simp only [Bool.not_not];exact M.i_pure
theorem dur_all {d:List Int}:(d.all fun n=>decide (0<=n)&&decide (n<=2000))=true↔DuR d:=by
  rw [List.all_eq_true];constructor
  · intro h i hi;have:=h (d.getD i 0) (by rw [getD_el d hi]; exact List.getElem_mem hi)
    rwa [Bool.and_eq_true,decide_eq_true_eq,decide_eq_true_eq] at this
  · intro h x hx;obtain ⟨i,hi,rfl⟩:=mem_getD hx 0;have:=h i hi;exact gA2 this.1 this.2
end Go.Proofs.YtbgoclcmgbpckabGreat
-- libO/BA.lean
namespace Go.Nm
/-- A loop that looks at one after the other, till one is not so. -/
theorem M.o_scan {ρ:Type} {body:Nat->M (Nat ⊕ ρ)} {Q:ρ->Prop} (n:Nat) (p:Nat->Prop) (h:∀ s,s<n->(∀ k,k<s->p k)->(body s).Out (fun x=>match x with | .inl s'=>s'=s+1/\p s | .inr r=>Q r))
    (he:(∀ k,k<n->p k)->(body n).Out (fun x=>match x with | .inl _=>False | .inr r=>Q r)):(M.iter body 0).Out Q:=by
  refine M.o_for n (fun i (s:Nat)=>s=i/\∀ k,k<i->p k) ?_ ?_ ⟨rfl,fun k hk=>by omega⟩
  · rintro i s hi ⟨rfl,hp⟩;refine M.o_mono (h s hi hp) ?_;intro x hx;cases x with
    | inl s' =>
      refine ⟨hx.1,fun k hk=>?_⟩;rcases Nat.lt_or_eq_of_le (Nat.le_of_lt_succ hk) with e | e
      · exact hp k e
      · subst e; exact hx.2
    | inr r=>exact hx
  · rintro s ⟨rfl,hp⟩;refine M.o_mono (he hp) ?_;intro x hx;cases x with
    | inl u=>exact hx.elim
    | inr r=>exact hx
theorem M.Out.ends {α:Type} {m:M α} {a:α} (h:m.Out (fun r=>r=a)):m.Ends a:=by
  obtain ⟨r,h1,rfl⟩:=h;exact h1
namespace Bk
def frB (f l:Int):Bool:=((decide (0<=f)&&decide (f<=l))&&(decide (0<=l)&&decide (l<=3000)))&&decide (l-f<1000)
def fewO (o:Old10):Bool:=decide ((o.passed.length:Int)<=10)
def yrB (f l:Int) (r:Yr):Bool:=((decide (f<=r.year)&&decide (r.year<=l))&&(decide (0<=r.lo)&&decide (r.lo<=r.hi)))&&(decide (0<=r.hi)&&decide (r.hi<=2000))
def errY (f l:Int) (ys:List Yr) (i:Nat):Int:=if yrB f l (ys.getD i default)=false then 110 else if 0<i/\(ys.getD i default).year<=(ys.getD (i-1) default).year then 9 else 0
/-- Strictly increasing, from a first to a last number. -/
def Rin (l:List Int) (a b:Int):Prop:=∀ i,i<l.length->(a<=l.getD i 0/\l.getD i 0<=b)/\(0<i->l.getD (i-1) 0<l.getD i 0)
instance (l:List Int) (a b:Int):Decidable (Rin l a b):=inferInstanceAs (Decidable (∀ i,i<l.length->_))
def oB (f l:Int) (o:Old10):Bool:=(((decide (f<=o.src)&&decide (o.src<=o.dst))&&(decide (f<=o.dst)&&decide (o.dst<=l)))&&(decide (1<=o.stage)&&decide (o.stage<=2000)))&&decide (Rin o.passed o.src o.dst)
def chkB (ys:List Yr) (os:List Old10) (f l:Int):Int :=
  if frB f l=false then 110 else if 60<ys.length∨8<os.length∨os.all fewO=false then 3 else if Pk.fe (errY f l ys) ys.length ≠ 0 then Pk.fe (errY f l ys) ys.length else if os.all (oB f l)=false then 110 else 0
/-- Books that are right. -/
structure Ok (ys:List Yr) (os:List Old10) (f l:Int):Prop where
  f0:0<=f
  fl:f<=l
  l3:l<=3000
  ln:l-f<1000
  y60:ys.length<=60
  o8:os.length<=8
  few:∀ o∈os,o.passed.length<=10
  y:OkY f l ys
  o:OkO f l os
  ris:∀ o∈os,Rin o.passed o.src o.dst
theorem chk_ok {ys:List Yr} {os:List Old10} {f l:Int} (h:chkB ys os f l=0):Ok ys os f l:=by
  unfold chkB at h;split at h
  · cases h
  · rename_i h1
    rw [Bool.not_eq_false] at h1;split at h
    · cases h
    · rename_i h2
      split at h
      · rename_i h3; exact absurd h h3
      · rename_i h3
        split at h
        · cases h
        · rename_i h4
          rw [Bool.not_eq_false] at h4;have h1:((0<=f/\f<=l)/\(0<=l/\l<=3000))/\l-f<1000:=by simpa [frB] using h1
          have hf:os.all fewO=true:=by
            cases e:os.all fewO with
            | true=>rfl
            | false=>exact absurd (.inr (.inr e)) h2
          have k:=Pk.fe_all.1 (Classical.not_not.1 h3);have k1:∀ i,i<ys.length->yrB f l (ys.getD i default)=true/\(0<i->(ys.getD (i-1) default).year<(ys.getD i default).year):=by
            intro i hi;have:=k i hi;unfold errY at this;split at this
            · cases this
            · rename_i h1
              split at this
              · cases this
              · rename_i h2
                refine ⟨by simpa using h1,fun h0=>?_⟩;omega
          refine ⟨h1.1.1.1,h1.1.1.2,h1.1.2.2,h1.2,by omega,by omega,fun o ho=>?_,⟨fun r hr=>?_,?_⟩,⟨fun o ho=>?_⟩,fun o ho=>?_⟩
          · have:=List.all_eq_true.1 hf o ho;unfold fewO at this;have:=of_decide_eq_true this;omega
          · obtain ⟨i,hi,rfl⟩:=List.getElem_of_mem hr;have:=(k1 i hi).1;rw [List.getD_eq_getElem?_getD,List.getElem?_eq_getElem hi,Option.getD_some] at this;have:((f<=ys[i].year/\ys[i].year<=l)/\(0<=ys[i].lo/\ys[i].lo<=ys[i].hi))/\(0<=ys[i].hi/\ys[i].hi<=2000):=by simpa [yrB] using this
            omega
          · have hup:∀ i j,i<j->j<ys.length->(ys.getD i default).year<(ys.getD j default).year:=by
              intro i j hij hj;induction j with
              | zero=>omega
              | succ j ih =>
                have h1:=(k1 (j+1) hj).2 (by omega);simp only [Nat.add_sub_cancel] at h1;rcases Nat.lt_or_eq_of_le (Nat.le_of_lt_succ hij) with e | e
                · have:=ih e (by omega);omega
                · subst e; exact h1
            rw [List.pairwise_iff_getElem];intro i j hi hj hij;have:=hup i j hij hj
            rwa [List.getD_eq_getElem?_getD,List.getElem?_eq_getElem hi,Option.getD_some,List.getD_eq_getElem?_getD,List.getElem?_eq_getElem hj,Option.getD_some] at this
          · have:=List.all_eq_true.1 h4 o ho;have:(((f<=o.src/\o.src<=o.dst)/\(f<=o.dst/\o.dst<=l))/\(1<=o.stage/\o.stage<=2000))/\Rin o.passed o.src o.dst:=by simpa [oB] using this
            omega
          · have:=List.all_eq_true.1 h4 o ho;have:(((f<=o.src/\o.src<=o.dst)/\(f<=o.dst/\o.dst<=l))/\(1<=o.stage/\o.stage<=2000))/\Rin o.passed o.src o.dst:=by simpa [oB] using this
            exact this.2
end Bk
end Go.Nm
namespace Go.Proofs.YtbgoclcmgbpckabGreat
open Go Go.Nm
theorem index_old {s:List Old10} {f:Old10->M Bool} {q:Old10->Bool} (hl:s.length<=1000000) (h:∀ x,x∈s->(f x).Ends (q x)):(zcd s f).Out (fun r=>decide (0<=r)=s.any q):=by
  unfold zcd;refine M.o_bind (P:=fun y=>match y with | .inl i=>0<=i/\s.any q=true | .inr (_:Unit)=>s.any q=false) ?_ ?_
  · refine M.o_scan s.length (fun k=>q (s.getD k default)=false) ?_ ?_
    · intro k hk hp;simp only [zcX];have e:s.getD k default=s[k]:=by rw [List.getD_eq_getElem?_getD,List.getElem?_eq_getElem hk,Option.getD_some]
      refine M.o_t (decide_eq_true (by omega)) (M.o_grdD (by omega) (M.o_bindE (h _ (by rw [e]; exact List.getElem_mem hk)) (M.o_if (fun hb=>?_) (fun hb=>?_))))
      · exact M.o_pure ⟨by omega,List.any_eq_true.2 ⟨_,by rw [e]; exact List.getElem_mem hk,hb⟩⟩
      · exact M.o_pure ⟨rfl,hb⟩
    · intro hp;simp only [zcX];refine M.o_f (by simp) (M.o_pure ?_);rw [List.any_eq_false];intro x hx;obtain ⟨i,hi,rfl⟩:=List.getElem_of_mem hx;have:=hp i hi;rw [List.getD_eq_getElem?_getD,List.getElem?_eq_getElem hi,Option.getD_some] at this;simp [this]
  · intro y hy;cases y with
    | inl i=>exact M.o_pure (by rw [hy.2]; exact decide_eq_true hy.1)
    | inr u=>exact M.o_pure (by rw [hy]; decide)
theorem every_old {s:List Old10} {so:Old10->M Bool} {p:Old10->Bool} (hl:s.length<=1000000) (h:∀ x,x∈s->(so x).Ends (p x)):(za1 s so).Ends (s.all p):=by
  unfold za1 zdC;obtain ⟨r,h1,h2⟩:=index_old (s:=s) (f:=fun x=>zbc x so) (q:=fun x=>!(p x)) hl (fun x hx=>by unfold zbc; exact M.i_bind (h x hx) M.i_pure);refine M.i_bind (M.i_bind h1 M.i_pure) ?_;rw [h2,List.any_eq_not_all_not];simp only [Bool.not_not];exact M.i_pure
theorem rising_ends (l:List Int) (a b:Int) (hb:b<=1000000) (ha:-1000000<=a):(zbb l a b).Ends (decide (Bk.Rin l a b)):=by
  refine M.Out.ends ?_;unfold zbb;refine M.o_bind (P:=fun y=>match y with | .inl (_:Unit)=>¬ Bk.Rin l a b | .inr (_:Unit)=>Bk.Rin l a b) ?_ ?_
  · refine M.o_for l.length (fun i (s:Int × Nat)=>s.2=i/\a<=s.1/\s.1=(if i=0 then a else l.getD (i-1) 0+1)/\∀ k,k<i->(a<=l.getD k 0/\l.getD k 0<=b)/\(0<k->l.getD (k-1) 0<l.getD k 0)) ?_ ?_ ⟨rfl,Int.le_refl _,rfl,fun k hk=>by omega⟩
    · rintro i ⟨x,s⟩ hi ⟨e1,e2,e3,e4⟩;dsimp only at e1 e2 e3;subst e1;simp only [zcY];refine M.o_t (decide_eq_true (by omega)) (M.o_grdD (by omega) (M.o_bindE (in_ends _ _ _) (M.o_if (fun hc=>?_) (fun hc=>?_))))
      · rw [Bool.not_eq_true',Bool.and_eq_false_iff,decide_eq_false_iff_not,decide_eq_false_iff_not] at hc;refine M.o_pure fun hR=>?_;have:=hR s hi;split at e3 <;> omega
      · rw [Bool.not_eq_false',Bool.and_eq_true,decide_eq_true_eq,decide_eq_true_eq] at hc;refine M.o_grd (gA2 (by omega) (by omega)) (M.o_pure ⟨rfl,by dsimp only; omega,by rw [if_neg (by omega),Nat.add_sub_cancel],fun k hk=>?_⟩);rcases Nat.lt_or_eq_of_le (Nat.le_of_lt_succ hk) with e | e
        · exact e4 k e
        · subst e;split at e3 <;> omega
    · rintro ⟨x,s⟩ ⟨e1,e2,e3,e4⟩;dsimp only at e1 e2 e3;subst e1;simp only [zcY];exact M.o_f (by simp) (M.o_pure e4)
  · intro y hy;cases y with
    | inl u=>exact M.o_pure (decide_eq_false hy).symm
    | inr u=>exact M.o_pure (decide_eq_true hy).symm
theorem yr_ends (ys:List Yr) (os:List Old10) (f l:Int) (r:Yr):(zb5 ys os f l r).Ends (Bk.yrB f l r):=by
  unfold zb5 Bk.yrB;generalize ha:(decide (f<=r.year)&&decide (r.year<=l))=A;generalize hb:(decide (0<=r.lo)&&decide (r.lo<=r.hi))=B;generalize hc:(decide (0<=r.hi)&&decide (r.hi<=2000))=C;have a1:=in_ends r.year f l;have b1:=in_ends r.lo 0 r.hi;have c1:=in_ends r.hi 0 2000;rw [ha] at a1; rw [hb] at b1; rw [hc] at c1;refine M.i_bind a1 (M.i_bind (a:=A&&B) (M.i_opt (fun h=>by rw [h]; exact b1) (fun h=>by rw [h]; rfl)) (M.i_bind (a:=(A&&(A&&B))&&C) (M.i_opt (fun h=>by rw [h]; exact c1) (fun h=>by rw [h]; rfl)) ?_));cases A <;> cases B <;> cases C <;> exact M.i_pure
theorem old_ends {ys:List Yr} {os:List Old10} {f l:Int} (hl:l<=3000) (hf:0<=f) (o:Old10):(zbm o ys os f l).Ends (Bk.oB f l o):=by
  unfold zbm zdb Bk.oB;generalize ha:(decide (f<=o.src)&&decide (o.src<=o.dst))=A;generalize hb:(decide (f<=o.dst)&&decide (o.dst<=l))=B;generalize hc:(decide (1<=o.stage)&&decide (o.stage<=2000))=C;have a1:=in_ends o.src f o.dst;have b1:=in_ends o.dst f l;have c1:=in_ends o.stage 1 2000;rw [ha] at a1; rw [hb] at b1; rw [hc] at c1;have d1:A=true->B=true->(zbb o.passed o.src o.dst).Ends (decide (Bk.Rin o.passed o.src o.dst)):=by
    rintro rfl rfl;rw [Bool.and_eq_true,decide_eq_true_eq,decide_eq_true_eq] at ha hb;exact rising_ends _ _ _ (by omega) (by omega)
  generalize (decide (Bk.Rin o.passed o.src o.dst))=E at d1;refine M.i_bind (M.i_bind a1 (M.i_bind (a:=A&&B) (M.i_opt (fun h=>by rw [h]; exact b1) (fun h=>by rw [h]; rfl)) (M.i_bind (a:=(A&&(A&&B))&&C) (M.i_opt (fun h=>by rw [h]; exact c1) (fun h=>by rw [h]; rfl)) (M.i_bind (a:=(((A&&(A&&B))&&((A&&(A&&B))&&C)))&&E) (M.i_opt (fun h=>?_) (fun h=>by rw [h]; rfl)) M.i_pure)))) ?_
  · rw [h];have:A=true/\B=true:=by cases A <;> cases B <;> simp_all
    exact d1 this.1 this.2
  · cases A <;> cases B <;> cases C <;> cases E <;> exact M.i_pure
theorem check_ends (ys:List Yr) (os:List Old10) (f l:Int) (hy:ys.length<=1000000) (ho:os.length<=1000000):(zbD ys os f l).Ends (Bk.chkB ys os f l):=by
  unfold zbD Bk.chkB;refine M.i_bind (in_ends _ _ _) (M.i_bind (a:=(decide (0<=f)&&decide (f<=l))&&(decide (0<=l)&&decide (l<=3000))) (M.i_opt (fun h=>by rw [Bool.not_not] at h; rw [h]; exact in_ends _ _ _) (fun h=>by rw [Bool.not_not] at h; rw [h]; rfl)) ?_);have e1:((!(decide (0<=f)&&decide (f<=l)))||!((decide (0<=f)&&decide (f<=l))&&(decide (0<=l)&&decide (l<=3000)))) = !((decide (0<=f)&&decide (f<=l))&&(decide (0<=l)&&decide (l<=3000))):=by
    cases (decide (0<=f)&&decide (f<=l)) <;> rfl
  rw [e1];refine M.i_grd (gI2 fun h=>?_) ?_
  · rw [Bool.not_not,Bool.and_eq_true,Bool.and_eq_true,Bool.and_eq_true,decide_eq_true_eq,decide_eq_true_eq,decide_eq_true_eq,decide_eq_true_eq] at h;omega
  have e2:((!((decide (0<=f)&&decide (f<=l))&&(decide (0<=l)&&decide (l<=3000))))||decide (1000<=l-f)) = !(Bk.frB f l):=by
    unfold Bk.frB;rw [Bool.eq_iff_iff];simp only [Bool.or_eq_true,Bool.not_eq_true',Bool.and_eq_false_iff,decide_eq_true_eq,decide_eq_false_iff_not];omega
  rw [e2];refine M.i_if (fun h1=>?_) (fun h1=>?_)
  · rw [Bool.not_eq_true'] at h1;rw [if_pos h1];exact M.i_pure
  · rw [Bool.not_eq_false'] at h1;rw [if_neg (by rw [h1]; simp)];have hfl:0<=f/\l<=3000:=by
      have h1:((0<=f/\f<=l)/\(0<=l/\l<=3000))/\l-f<1000:=by simpa [Bk.frB] using h1
      exact ⟨h1.1.1.1,h1.1.2.2⟩
    have few:=every_old (s:=os) (so:=fun xqz=>zbL xqz) (p:=Bk.fewO) ho (fun o _=>M.i_pure);by_cases hm:60<ys.length∨8<os.length
    · have e3:(decide (60<(ys.length:Int))||decide (8<(os.length:Int)))=true:=by
        rw [Bool.or_eq_true,decide_eq_true_eq,decide_eq_true_eq]; omega
      rw [e3,if_pos (hm.elim (fun h=>.inl h) (fun h=>.inr (.inl h)))];exact M.i_bind (a:=false) (M.i_opt (fun h=>by cases h) (fun _=>rfl)) (M.i_t rfl M.i_pure)
    · have e3 : (decide (60 < (ys.length : Int)) || decide (8 < (os.length : Int))) = false := by
        rw [Bool.or_eq_false_iff,decide_eq_false_iff_not,decide_eq_false_iff_not]; omega
      rw [e3];refine M.i_bind (M.i_opt (fun _=>few) (fun h=>by cases h)) ?_;cases hf:os.all Bk.fewO with
      | false =>
        rw [if_pos (.inr (.inr rfl))];exact M.i_t rfl M.i_pure
      | true =>
        rw [if_neg (fun h=>h.elim (fun h=>hm (.inl h)) (fun h=>h.elim (fun h=>hm (.inr h)) (fun h=>by cases h)))];refine M.i_f rfl ?_;have out:(M.iter (zbg ys os f l) 0).Out (fun y=>(match y with | .inl s=>s ≠ 0/\s=Pk.fe (Bk.errY f l ys) ys.length | .inr (_:Unit)=>Pk.fe (Bk.errY f l ys) ys.length=0)):=by
          refine M.o_for ys.length (fun i s=>s=i/\Pk.fe (Bk.errY f l ys) i=0) ?_ ?_ ⟨rfl,rfl⟩
          · rintro i s hi ⟨rfl,h0⟩;simp only [zbg];refine M.o_t (decide_eq_true (by omega)) (M.o_grdD (by omega) (M.o_bindE (yr_ends _ _ _ _ _) (M.o_if (fun h1=>?_) (fun h1=>?_))))
            · have e:Bk.errY f l ys s=110:=by unfold Bk.errY; rw [if_pos (by simpa using h1)]
              exact M.o_pure ⟨by decide,by rw [Pk.fe_stop h0 (by rw [e]; decide) hi,e]⟩
            · have h1:Bk.yrB f l (ys.getD s default)=true:=by simpa using h1
              refine M.o_grd (gI2 fun h=>by have:=of_decide_eq_true h; omega) (M.o_grd (gI2 fun h=>by have:=of_decide_eq_true h; omega) ?_);rw [show Int.toNat ((s:Int)-1)=s-1 by omega];refine M.o_if (fun h2=>?_) (fun h2=>?_)
              · rw [Bool.and_eq_true,decide_eq_true_eq,decide_eq_true_eq] at h2;have e:Bk.errY f l ys s=9:=by unfold Bk.errY; rw [if_neg (by rw [h1]; simp),if_pos ⟨by omega,h2.2⟩]
                exact M.o_pure ⟨by decide,by rw [Pk.fe_stop h0 (by rw [e]; decide) hi,e]⟩
              · refine M.o_pure ⟨rfl,?_⟩;have e:Bk.errY f l ys s=0:=by
                  unfold Bk.errY;rw [if_neg (by rw [h1]; simp),if_neg];intro hh;rw [Bool.and_eq_false_iff,decide_eq_false_iff_not,decide_eq_false_iff_not] at h2;omega
                show (if Pk.fe (Bk.errY f l ys) s ≠ 0 then _ else _)=_;rw [if_neg (by rw [h0]; simp),e]
          · rintro s ⟨rfl,h0⟩;simp only [zbg];exact M.o_f (by simp) (M.o_pure h0)
        obtain ⟨y,g1,g2⟩:=out;refine M.i_bind g1 ?_;cases y with
        | inl s =>
          dsimp only at g2 ⊢;rw [← g2.2,if_pos g2.1]; exact M.i_pure
        | inr u =>
          dsimp only at g2 ⊢;rw [g2,if_neg (by simp)];refine M.i_bind (every_old ho fun o _=>old_ends hfl.2 hfl.1 o) ?_;cases os.all (Bk.oB f l) with
          | true=>exact M.i_f rfl M.i_pure
          | false=>exact M.i_t rfl M.i_pure
end Go.Proofs.YtbgoclcmgbpckabGreat
-- libO/BB.lean
namespace Go.Nm
theorem lookM_map {κ ν:Type} [DecidableEq κ] (g:κ->ν->ν):∀ (m:List (κ × ν)) (k:κ),lookM (m.map fun p=>(p.1,g p.1 p.2)) k=(lookM m k).map (g k)
  | [],k=>rfl
  | p :: m,k=>by
    rw [List.map_cons];unfold lookM;by_cases h:p.1=k
    · rw [if_pos h,if_pos h,h]; rfl
    · rw [if_neg h,if_neg h,lookM_map g m k]
namespace Bk
/-- The first year that can have none. -/
def First (ys:List Yr) (os:List Old10) (f l y:Int):Prop:=f<=y/\y<=l/\(kn ys os y).hi<(kn ys os y).lo/\∀ z,f<=z->z<y->(kn ys os z).lo<=(kn ys os z).hi
def Fine (ys:List Yr) (os:List Old10) (f l:Int):Prop:=∀ z,f<=z->z<=l->(kn ys os z).lo<=(kn ys os z).hi
theorem First.uniq {ys:List Yr} {os:List Old10} {f l y z:Int} (h:First ys os f l y) (k:First ys os f l z):y=z:=by
  obtain ⟨h1,h2,h3,h4⟩:=h;obtain ⟨k1,k2,k3,k4⟩:=k;rcases Int.lt_trichotomy y z with e | e | e
  · have:=k4 y h1 e; omega
  · exact e
  · have:=h4 z k1 e; omega
theorem First.bad {ys:List Yr} {os:List Old10} {f l y:Int} (h:First ys os f l y) (k:Fine ys os f l):False:=by
  obtain ⟨h1,h2,h3,h4⟩:=h;have:=k y h1 h2;omega
theorem rec_take {ys:List Yr} (hu:ys.Pairwise fun a b=>a.year<b.year) {s:Nat} (hs:s<ys.length) (y:Int):rec (ys.take (s+1)) y=if y=(ys.getD s default).year then ⟨(ys.getD s default).lo,(ys.getD s default).hi⟩ else rec (ys.take s) y:=by
  have e:ys.getD s default=ys[s]:=by rw [List.getD_eq_getElem?_getD,List.getElem?_eq_getElem hs,Option.getD_some]
  rw [e];unfold rec;rw [← List.take_append_getElem hs,List.find?_append];by_cases hy:y=ys[s].year
  · rw [if_pos hy];have:(ys.take s).find? (fun r=>r.year==y)=none:=by
      rw [List.find?_eq_none];intro r hr;obtain ⟨i,hi,rfl⟩:=List.getElem_of_mem hr;rw [List.length_take] at hi;rw [List.getElem_take];have:=List.pairwise_iff_getElem.1 hu i s (by omega) hs (by omega);rw [beq_iff_eq];omega
    rw [this];simp [hy]
  · rw [if_neg hy];have:(ys[s].year==y)=false:=by rw [beq_eq_false_iff_ne]; exact fun h=>hy h.symm
    simp only [List.find?_cons,this,List.find?_nil,Option.or_none]
end Bk
end Go.Nm
namespace Go.Proofs.YtbgoclcmgbpckabGreat
open Go Go.Nm
variable {ys:List Yr} {os:List Old10} {f l:Int}
theorem index_in (s:List Int) (v:Int):(zcC s v).Out (fun r=>decide (0<=r)=s.contains v):=by
  unfold zcC;refine M.o_bind (P:=fun y=>match y with | .inl i=>0<=i/\s.contains v=true | .inr (_:Unit)=>s.contains v=false) ?_ ?_
  · refine M.o_scan s.length (fun k=>s.getD k 0 ≠ v) ?_ ?_
    · intro k hk hp;simp only [zb7];have e:s.getD k 0=s[k]:=by rw [List.getD_eq_getElem?_getD,List.getElem?_eq_getElem hk,Option.getD_some]
      refine M.o_t (decide_eq_true (by omega)) (M.o_grdD (by omega) (M.o_if (fun hb=>?_) (fun hb=>?_)))
      · refine M.o_pure ⟨by omega,?_⟩;rw [List.contains_iff_mem,(beq_iff_eq.1 hb),e];exact List.getElem_mem hk
      · exact M.o_pure ⟨rfl,fun h=>(beq_eq_false_iff_ne.1 hb) h.symm⟩
    · intro hp;simp only [zb7];refine M.o_f (by simp) (M.o_pure ?_);rw [← Bool.not_eq_true,List.contains_iff_mem];intro hx;obtain ⟨i,hi,e⟩:=List.getElem_of_mem hx;have:=hp i hi;rw [List.getD_eq_getElem?_getD,List.getElem?_eq_getElem hi,Option.getD_some] at this;exact this e
  · intro y hy;cases y with
    | inl i=>exact M.o_pure (by rw [hy.2]; exact decide_eq_true hy.1)
    | inr u=>exact M.o_pure (by rw [hy]; decide)
theorem contains_ends (s:List Int) (v:Int):(zbo s v).Ends (s.contains v):=by
  unfold zbo;obtain ⟨r,h1,h2⟩:=index_in s v;exact M.i_bind h1 (by rw [h2]; exact M.i_pure)
theorem told_ends (h:Bk.OkO f l os) (ky:Int) (vl:Span):(zbp os ky vl).Ends (os.foldl (Bk.told ky) vl):=by
  refine M.Out.ends ?_;unfold zbp;refine M.o_bind (P:=fun y=>(⟨y.1,y.2⟩:Span)=os.foldl (Bk.told ky) vl) ?_ (fun y e=>M.o_pure e);refine M.o_for os.length (fun i (s:Nat × Int × Int)=>s.1=i/\(⟨s.2.1,s.2.2⟩:Span)=(os.take i).foldl (Bk.told ky) vl) ?_ ?_ ⟨rfl,rfl⟩
  · rintro i ⟨s,a,b⟩ hi ⟨e1,e2⟩;dsimp only at e1 e2;subst e1;simp only [zci];have e:os.getD s default=os[s]:=by rw [List.getD_eq_getElem?_getD,List.getElem?_eq_getElem hi,Option.getD_some]
    have ho:=h.in_ os[s] (List.getElem_mem hi);have et:(os.take (s+1)).foldl (Bk.told ky) vl=Bk.told ky ⟨a,b⟩ os[s]:=by
      rw [← List.take_append_getElem hi,List.foldl_append,← e2]; rfl
    rw [e];refine M.o_t (decide_eq_true (by omega)) (M.o_grdD (by omega) (M.o_bindE (in_ends _ _ _) (M.o_if (fun hb=>?_) (fun hb=>?_))))
    · rw [Bool.not_eq_true',Bool.and_eq_false_iff,decide_eq_false_iff_not,decide_eq_false_iff_not] at hb;refine M.o_pure ⟨rfl,?_⟩;rw [et,Bk.told,if_neg (by omega)]
    · rw [Bool.not_eq_false',Bool.and_eq_true,decide_eq_true_eq,decide_eq_true_eq] at hb;refine M.o_bindE (contains_ends _ _) (M.o_if (fun hc=>?_) (fun hc=>?_))
      · refine M.o_pure ⟨rfl,?_⟩;rw [et,Bk.told,if_pos hb,if_pos hc]
      · refine M.o_grd (gA2 (by omega) (by omega)) (M.o_pure ⟨rfl,?_⟩);rw [et,Bk.told,if_pos hb,if_neg (by rw [hc]; simp)]
  · rintro ⟨s,a,b⟩ ⟨e1,e2⟩;dsimp only at e1 e2;subst e1;simp only [zci];rw [List.take_length] at e2;exact M.o_f (by simp) (M.o_pure e2)
/-- What a book at work knows of its years. -/
def Knows (ys:List Yr) (os:List Old10) (f l:Int) (m:List (Int × Span)):Prop:=∀ y,f<=y->y<=l->(lookM m y).getD default=Bk.kn ys os y
theorem opened_bad (hy:ys.length<=1000000) (ho:os.length<=1000000) (h:Bk.chkB ys os f l ≠ 0):(zaB ys os f l).Ends (.inl (Bk.chkB ys os f l)):=by
  unfold zaB;exact M.i_bind (check_ends ys os f l hy ho) (M.i_t (bne_iff_ne.2 h) M.i_pure)
theorem opened_ok (hy:ys.length<=1000000) (ho:os.length<=1000000) (h0:Bk.chkB ys os f l=0):∃ m,(zaB ys os f l).Ends (.inr (f,l,m,0))/\Knows ys os f l m:=by
  have h:=Bk.chk_ok h0;have hf0:=h.f0;have hfl:=h.fl;have hl3:=h.l3;obtain ⟨m1,g1,k1⟩:(M.iter (zaZ l) (([]:List (Int × Span)),f)).Out (fun m=>∀ y,f<=y->y<=l->lookM m y=some ⟨0,2000⟩):=by
    refine M.o_for (Int.toNat (l+1-f)) (fun i (s:List (Int × Span) × Int)=>s.2=f+i/\∀ y,f<=y->y<f+i->lookM s.1 y=some ⟨0,2000⟩) ?_ ?_ ⟨by simp,fun y h1 h2=>by simp at h2; omega⟩
    · rintro i ⟨m,y⟩ hi ⟨e1,e2⟩;dsimp only at e1 e2;subst e1;simp only [zaZ];refine M.o_t (decide_eq_true (by omega)) (M.o_grd (gA2 (by omega) (by omega)) (M.o_pure ⟨by dsimp only; omega,fun z h1 h2=>?_⟩));rw [lookM_set];split
      · rfl
      · exact e2 z h1 (by omega)
    · rintro ⟨m,y⟩ ⟨e1,e2⟩;dsimp only at e1 e2;subst e1;simp only [zaZ];exact M.o_f (decide_eq_false (by omega)) (M.o_pure fun z h1 h2=>e2 z h1 (by omega))
  obtain ⟨m2,g2,k2⟩:(M.iter (zbw ys) (m1,0)).Out (fun m=>∀ y,f<=y->y<=l->lookM m y=some (Bk.rec ys y)):=by
    refine M.o_for ys.length (fun i (s:List (Int × Span) × Nat)=>s.2=i/\∀ y,f<=y->y<=l->lookM s.1 y=some (Bk.rec (ys.take i) y)) ?_ ?_ ⟨rfl,k1⟩
    · rintro i ⟨m,s⟩ hi ⟨e1,e2⟩;dsimp only at e1 e2;subst e1;simp only [zbw];have e:ys.getD s default=ys[s]:=by rw [List.getD_eq_getElem?_getD,List.getElem?_eq_getElem hi,Option.getD_some]
      have hr:=h.y.in_ ys[s] (List.getElem_mem hi);rw [← e] at hr;have et:=Bk.rec_take h.y.up hi;refine M.o_t (decide_eq_true (by omega)) (M.o_grdD (by omega) (M.o_if (fun hb=>?_) (fun hb=>?_)))
      · refine M.o_pure ⟨rfl,fun y h1 h2=>?_⟩;rw [lookM_set,et];split
        · rfl
        · exact e2 y h1 h2
      · rw [Bool.not_eq_false',decide_eq_true_eq] at hb;refine M.o_pure ⟨rfl,fun y h1 h2=>?_⟩;rw [et];split
        · rename_i hy'
          have k:=e2 _ hr.1 hr.2.1;rw [k] at hb;rw [hy',k];have h5:(ys.getD s default).lo=(Bk.rec (ys.take s) (ys.getD s default).year).lo:=congrArg Yr.lo hb;have h6:(ys.getD s default).hi=(Bk.rec (ys.take s) (ys.getD s default).year).hi:=congrArg Yr.hi hb;refine congrArg some ?_;rw [h5,h6]
        · exact e2 y h1 h2
    · rintro ⟨m,s⟩ ⟨e1,e2⟩;dsimp only at e1 e2;subst e1;simp only [zbw];rw [List.take_length] at e2;exact M.o_f (by simp) (M.o_pure e2)
  have g3:=M.mapL_ends (body:=zbp os) (g:=fun ky vl=>os.foldl (Bk.told ky) vl) (m:=m2) (fun p _=>told_ends h.o p.1 p.2);refine ⟨m2.map fun p=>(p.1,os.foldl (Bk.told p.1) p.2),?_,fun y h1 h2=>?_⟩
  · unfold zaB;refine M.i_bind (check_ends ys os f l hy ho) ?_;rw [h0];exact M.i_f rfl (M.i_bind g1 (M.i_bind g2 (M.i_bind g3 M.i_pure)))
  · have e:=lookM_map (fun ky vl=>os.foldl (Bk.told ky) vl) m2 y;rw [e,k2 y h1 h2];rfl
/-- A round over the years of a book at work. -/
theorem years_out {S X:Type} {bd:S->Int × Span->M (S ⊕ X)} {Q:S ⊕ X->Prop} {m:List (Int × Span)} {a b c d:Int} {s0:S} (hd:d<=3000) (ha:0<=a) (hab:a<=b+1) (hb:b<=d) (hc:c<=a) (hm:Knows ys os c d m) (J:Int->S->Prop) (h0:J a s0)
    (hr:∀ y s,a<=y->y<=b->J y s->(bd s (y,Bk.kn ys os y)).Out (fun x=>match x with | .inl s'=>J (y+1) s' | .inr x=>Q (.inr x))) (hl:∀ s,J (b+1) s->Q (.inl s)) (yw:List Yr) (ow:List Old10) (cw dw:Int) :
    (zaq (M.yl bd) (.inl s0) a b yw ow cw dw m).Out Q:=by
  unfold zaq;refine M.o_bind (P:=fun y=>match y with | .inl t=>Q t | .inr t=>Q t) ?_ (fun y hy=>by cases y with | inl t=>exact M.o_pure hy | inr t=>exact M.o_pure hy);refine M.o_for (Int.toNat (b+1-a)) (fun i (s:Int × (S ⊕ X))=>s.1=a+i/\∃ s',s.2 = .inl s'/\J (a+i) s') ?_ ?_ ⟨by simp,s0,rfl,by simpa using h0⟩
  · rintro i ⟨y,t⟩ hi ⟨e1,s',e2,hj⟩;dsimp only at e1 e2;subst e1 e2;simp only [zb6];rw [hm (a+i) (by omega) (by omega)];refine M.o_t (decide_eq_true (by omega)) ?_;obtain ⟨x,g1,g2⟩:=hr (a+i) s' (by omega) (by omega) hj;cases x with
    | inl s2 =>
      refine M.o_bindE (a:=(true,.inl s2)) (M.i_bind g1 M.i_pure) (M.o_f rfl (M.o_grd (gA2 (by omega) (by omega)) (M.o_pure ⟨by dsimp only; omega,s2,rfl,?_⟩)));dsimp only at g2;rw [show a+((i+1:Nat):Int)=a+i+1 by omega];exact g2
    | inr x2=>exact M.o_bindE (a:=(false,.inr x2)) (M.i_bind g1 M.i_pure) (M.o_t rfl (M.o_pure g2))
  · rintro ⟨y,t⟩ ⟨e1,s',e2,hj⟩;dsimp only at e1 e2;subst e1 e2;simp only [zb6];refine M.o_f (decide_eq_false (by omega)) (M.o_pure ?_);refine hl s' ?_
    rwa [show a+(Int.toNat (b+1-a):Int)=b+1 by omega] at hj
theorem clash_out (h:Bk.Ok ys os f l) {m:List (Int × Span)} (hm:Knows ys os f l m):(zbh ys os f l m).Out (fun r=>(r=(0,false)/\Bk.Fine ys os f l)∨(r.2=true/\Bk.First ys os f l r.1)):=by
  have hf0:=h.f0;have hfl:=h.fl;have hl3:=h.l3;unfold zbh zak;refine M.o_bindE M.i_pure (M.o_bind (P:=fun x=>match x with | .inl (_:Unit)=>Bk.Fine ys os f l | .inr y=>Bk.First ys os f l y) ?_ ?_)
  · refine years_out hl3 hf0 (by omega) (Int.le_refl _) (Int.le_refl _) hm (fun y _=>∀ z,f<=z->z<y->(Bk.kn ys os z).lo<=(Bk.kn ys os z).hi) (fun z h1 h2=>by omega) ?_ ?_ _ _ _ _
    · intro y s h1 h2 hj;simp only [zaz];refine M.o_if (fun hb=>?_) (fun hb=>?_)
      · exact M.o_pure ⟨h1,h2,of_decide_eq_true hb,hj⟩
      · have:=of_decide_eq_false hb;refine M.o_pure fun z h3 h4=>?_;by_cases e:z=y
        · subst e; omega
        · exact hj z h3 (by omega)
    · intro s hj z h1 h2;exact hj z h1 (by omega)
  · intro y hy;cases y with
    | inl u=>exact M.o_pure (.inl ⟨rfl,hy⟩)
    | inr y=>exact M.o_pure (.inr ⟨rfl,hy⟩)
end Go.Proofs.YtbgoclcmgbpckabGreat
-- libO/BC.lean
namespace Go.Nm
namespace Bk
/-- The first year without a truth, or the error. -/
def ClE (ys:List Yr) (os:List Old10) (f l:Int) (r:Int × Int):Prop:=(chkB ys os f l ≠ 0/\r=(0,chkB ys os f l))∨(chkB ys os f l=0/\Fine ys os f l/\r=(0,5))∨(chkB ys os f l=0/\First ys os f l r.1/\r.2=0)
theorem ClE.uniq {ys:List Yr} {os:List Old10} {f l:Int} {r s:Int × Int} (h:ClE ys os f l r) (k:ClE ys os f l s):r=s:=by
  rcases h with ⟨h1,rfl⟩ | ⟨h1,h2,rfl⟩ | ⟨h1,h2,h3⟩
  · rcases k with ⟨k1,rfl⟩ | ⟨k1,_⟩ | ⟨k1,_⟩
    · rfl
    · exact absurd k1 h1
    · exact absurd k1 h1
  · rcases k with ⟨k1,rfl⟩ | ⟨k1,k2,rfl⟩ | ⟨k1,k2,k3⟩
    · exact absurd h1 k1
    · rfl
    · exact (k2.bad h2).elim
  · rcases k with ⟨k1,rfl⟩ | ⟨k1,k2,rfl⟩ | ⟨k1,k2,k3⟩
    · exact absurd h1 k1
    · exact (h2.bad k2).elim
    · exact Prod.ext (h2.uniq k2) (by rw [h3,k3])
/-- The highest stages of a year, or the error. -/
def HiE (ys:List Yr) (os:List Old10) (f l y:Int) (r:Int × Int × Int):Prop:=(chkB ys os f l ≠ 0/\r=(0,0,chkB ys os f l))∨(chkB ys os f l=0/\¬ (f<=y/\y<=l)/\r=(0,0,2))∨(chkB ys os f l=0/\(f<=y/\y<=l)/\¬ Fine ys os f l/\r=(0,0,6)) ∨
  (chkB ys os f l=0/\(f<=y/\y<=l)/\Fine ys os f l/\r=((kn ys os y).lo,(kn ys os y).hi,0))
theorem HiE.uniq {ys:List Yr} {os:List Old10} {f l y:Int} {r s:Int × Int × Int} (h:HiE ys os f l y r) (k:HiE ys os f l y s):r=s:=by
  rcases h with ⟨h1,rfl⟩ | ⟨h1,h2,rfl⟩ | ⟨h1,h2,h3,rfl⟩ | ⟨h1,h2,h3,rfl⟩ <;> rcases k with ⟨k1,rfl⟩ | ⟨k1,k2,rfl⟩ | ⟨k1,k2,k3,rfl⟩ | ⟨k1,k2,k3,rfl⟩ <;> first | rfl | contradiction
/-- A truth that can be. -/
def Can (ys:List Yr) (os:List Old10) (f:Int) (st:List Int):Prop:=∀ i,i<st.length->(kn ys os (f+i)).lo<=st.getD i 0/\st.getD i 0<=(kn ys os (f+i)).hi
def All2 (st:List Int):Prop:=∀ i,i<st.length->0<=st.getD i 0/\st.getD i 0<=2000
def HoE (ys:List Yr) (os:List Old10) (f l:Int) (st:List Int) (r:Bool × Int):Prop:=(chkB ys os f l ≠ 0/\r=(false,chkB ys os f l))∨(chkB ys os f l=0/\(st.length:Int) ≠ l-f+1/\r=(false,2))∨(chkB ys os f l=0/\(st.length:Int)=l-f+1/\¬ All2 st/\r=(false,4)) ∨
  (chkB ys os f l=0/\(st.length:Int)=l-f+1/\All2 st/\¬ Can ys os f st/\r=(false,0))∨(chkB ys os f l=0/\(st.length:Int)=l-f+1/\All2 st/\Can ys os f st/\r=(true,0))
theorem HoE.uniq {ys:List Yr} {os:List Old10} {f l:Int} {st:List Int} {r s:Bool × Int} (h:HoE ys os f l st r) (k:HoE ys os f l st s):r=s:=by
  rcases h with ⟨h1,rfl⟩ | ⟨h1,h2,rfl⟩ | ⟨h1,h2,h3,rfl⟩ | ⟨h1,h2,h3,h4,rfl⟩ | ⟨h1,h2,h3,h4,rfl⟩ <;> rcases k with ⟨k1,rfl⟩ | ⟨k1,k2,rfl⟩ | ⟨k1,k2,k3,rfl⟩ | ⟨k1,k2,k3,k4,rfl⟩ | ⟨k1,k2,k3,k4,rfl⟩ <;> first | rfl | contradiction
end Bk
end Go.Nm
namespace Go.Proofs.YtbgoclcmgbpckabGreat
open Go Go.Nm
variable {ys:List Yr} {os:List Old10} {f l:Int}
theorem of_holds (hy:ys.length<=1000000) (ho:os.length<=1000000) (st:List Int) (hs:st.length<=1000000):(zaF ys os f l st).Out (Bk.HoE ys os f l st):=by
  unfold zaF;by_cases h0:Bk.chkB ys os f l=0
  · have h := Bk.chk_ok h0;have hf0:=h.f0;have hfl:=h.fl;have hl3:=h.l3;have hln:=h.ln;obtain ⟨m,g1,hm⟩:=opened_ok hy ho h0;refine M.o_bindE g1 (M.o_f rfl (M.o_grd (gA2 (by omega) (by omega)) (M.o_grd (gA2 (by omega) (by omega)) (M.o_if (fun hl=>?_) (fun hl=>?_)))))
    · exact M.o_pure (.inr (.inl ⟨h0,bne_iff_ne.1 hl,rfl⟩))
    · have hl:(st.length:Int)=l-f+1:=by simpa using hl
      refine M.o_bindE (every_int (p:=fun n=>decide (0<=n)&&decide (n<=2000)) hs (fun x _=>by unfold zc7; exact M.i_bind (in_ends _ _ _) M.i_pure)) (M.o_if (fun hb=>?_) (fun hb=>?_))
      · rw [Bool.not_eq_true'] at hb;refine M.o_pure (.inr (.inr (.inl ⟨h0,hl,fun hA=>?_,rfl⟩)));have:=dur_all.2 (show DuR st from hA);rw [hb] at this;cases this
      · rw [Bool.not_eq_false'] at hb;have hA:Bk.All2 st:=dur_all.1 hb;unfold zak;refine M.o_bindE M.i_pure (M.o_bind (P:=fun x=>match x with | .inl (_:Unit)=>Bk.Can ys os f st | .inr (_:Unit)=>¬ Bk.Can ys os f st) ?_ ?_)
        · refine years_out hl3 hf0 (by omega) (Int.le_refl _) (Int.le_refl _) hm (fun y _=>∀ i:Nat,f+i<y->(Bk.kn ys os (f+i)).lo<=st.getD i 0/\st.getD i 0<=(Bk.kn ys os (f+i)).hi) (fun i h1=>by omega) ?_ ?_ _ _ _ _
          · intro y s h1 h2 hj;obtain ⟨i,rfl⟩:∃ i:Nat,y=f+i:=⟨Int.toNat (y-f),by omega⟩
            simp only [zaA];rw [show Int.toNat (f+i-f)=i by omega];refine M.o_grd (gA2 (by omega) (by omega)) (M.o_grd (gA2 (by omega) (by omega)) (M.o_bindE (in_ends _ _ _) (M.o_if (fun hb=>?_) (fun hb=>?_))))
            · rw [Bool.not_eq_true',Bool.and_eq_false_iff,decide_eq_false_iff_not,decide_eq_false_iff_not] at hb;refine M.o_pure fun hC=>?_;have:=hC i (by omega);omega
            · rw [Bool.not_eq_false',Bool.and_eq_true,decide_eq_true_eq,decide_eq_true_eq] at hb;refine M.o_pure fun j h3=>?_;by_cases e:j=i
              · subst e; exact hb
              · exact hj j (by omega)
          · intro s hj i hi;exact hj i (by omega)
        · intro z hz;cases z with
          | inl u=>exact M.o_pure (.inr (.inr (.inr (.inr ⟨h0,hl,hA,hz,rfl⟩))))
          | inr u=>exact M.o_pure (.inr (.inr (.inr (.inl ⟨h0,hl,hA,hz,rfl⟩))))
  · exact M.o_bindE (opened_bad hy ho h0) (M.o_t (bne_iff_ne.2 h0) (M.o_pure (.inl ⟨h0,rfl⟩)))
end Go.Proofs.YtbgoclcmgbpckabGreat
-- libO/BE.lean
namespace Go.Nm
namespace Bk
/-- What the years from one on can have. -/
def kl (ys:List Yr) (os:List Old10) (a:Int) (n:Nat):List Span:=(List.range n).map fun (i:Nat)=>kn ys os (a+(i:Int))
theorem kl_succ (ys:List Yr) (os:List Old10) (a:Int) (n:Nat):kl ys os a (n+1)=kl ys os a n++[kn ys os (a+(n:Int))]:=by
  unfold kl;rw [List.range_succ,List.map_append];rfl
theorem kl_len (ys:List Yr) (os:List Old10) (a:Int) (n:Nat):(kl ys os a n).length=n:=by unfold kl; rw [List.length_map,List.length_range]
theorem kl_mem {ys:List Yr} {os:List Old10} {a:Int} {n:Nat} {s:Span} (h:s∈kl ys os a n):∃ i:Nat,i<n/\s=kn ys os (a+(i:Int)):=by
  unfold kl at h;obtain ⟨i,hi,rfl⟩:=List.mem_map.1 h;exact ⟨i,List.mem_range.1 hi,rfl⟩
def In (f l fr to:Int):Prop:=f<=fr/\fr<=to/\to<=l
/-- The first error of a book, two years, a number, and that no truth can be. -/
def WrE (ys:List Yr) (os:List Old10) (f l fr to n a b e:Int):Prop:=(chkB ys os f l ≠ 0/\e=chkB ys os f l)∨(chkB ys os f l=0/\¬ In f l fr to/\e=2)∨(chkB ys os f l=0/\In f l fr to/\¬ (a<=n/\n<=b)/\e=4) ∨
  (chkB ys os f l=0/\In f l fr to/\(a<=n/\n<=b)/\¬ Fine ys os f l/\e=6)∨(chkB ys os f l=0/\In f l fr to/\(a<=n/\n<=b)/\Fine ys os f l/\e=0)
theorem WrE.uniq {ys:List Yr} {os:List Old10} {f l fr to n a b e e':Int} (h:WrE ys os f l fr to n a b e) (k:WrE ys os f l fr to n a b e'):e=e':=by
  rcases h with ⟨h1,rfl⟩ | ⟨h1,h2,rfl⟩ | ⟨h1,h2,h3,rfl⟩ | ⟨h1,h2,h3,h4,rfl⟩ | ⟨h1,h2,h3,h4,rfl⟩ <;> rcases k with ⟨k1,rfl⟩ | ⟨k1,k2,rfl⟩ | ⟨k1,k2,k3,rfl⟩ | ⟨k1,k2,k3,k4,rfl⟩ | ⟨k1,k2,k3,k4,rfl⟩ <;> first | rfl | contradiction
theorem WrE.ok {ys:List Yr} {os:List Old10} {f l fr to n a b:Int} (h:WrE ys os f l fr to n a b 0):chkB ys os f l=0/\In f l fr to/\(a<=n/\n<=b)/\Fine ys os f l:=by
  rcases h with ⟨h1,h2⟩ | ⟨h1,h2,h3⟩ | ⟨h1,h2,h3,h4⟩ | ⟨h1,h2,h3,h4,h5⟩ | ⟨h1,h2,h3,h4,h5⟩
  · exact absurd h2.symm h1
  · cases h3
  · cases h4
  · cases h5
  · exact ⟨h1,h2,h3,h4⟩
theorem WrE.last {ys:List Yr} {os:List Old10} {f l fr to n a b b' e:Int} (h:WrE ys os f l fr to n a b e) (hb:chkB ys os f l=0->In f l fr to->b=b'):WrE ys os f l fr to n a b' e:=by
  rcases h with ⟨h1,h2⟩ | ⟨h1,h2,h3⟩ | ⟨h1,h2,h3,h4⟩ | ⟨h1,h2,h3,h4,h5⟩ | ⟨h1,h2,h3,h4,h5⟩
  · exact .inl ⟨h1,h2⟩
  · exact .inr (.inl ⟨h1,h2,h3⟩)
  · exact .inr (.inr (.inl ⟨h1,h2,by rw [← hb h1 h2]; exact h3,h4⟩))
  · exact .inr (.inr (.inr (.inl ⟨h1,h2,by rw [← hb h1 h2]; exact h3,h4,h5⟩)))
  · exact .inr (.inr (.inr (.inr ⟨h1,h2,by rw [← hb h1 h2]; exact h3,h4,h5⟩)))
def many (p:Span->Bool) (ys:List Yr) (os:List Old10) (fr to:Int):Int:=((kl ys os fr (Int.toNat (to+1-fr))).countP p:Nat)
def lop (x:Int) (s:Span):Bool:=decide (x<=s.lo)
def hip (x:Int) (s:Span):Bool:=decide (x<=s.hi)
def PaE (ys:List Yr) (os:List Old10) (f l fr to st:Int) (r:Int × Int × Int):Prop:=(r.2.2 ≠ 0/\WrE ys os f l fr to st 0 2000 r.2.2/\r.1=0/\r.2.1=0)∨(r.2.2=0/\WrE ys os f l fr to st 0 2000 0/\r.1=many (lop st) ys os fr to/\r.2.1=many (hip st) ys os fr to)
theorem PaE.wr {ys:List Yr} {os:List Old10} {f l fr to st:Int} {r:Int × Int × Int} (h:PaE ys os f l fr to st r):WrE ys os f l fr to st 0 2000 r.2.2:=by
  rcases h with ⟨h1,h2,h3⟩ | ⟨h1,h2,h3⟩
  · exact h2
  · rw [h1]; exact h2
theorem PaE.uniq {ys:List Yr} {os:List Old10} {f l fr to st:Int} {r s:Int × Int × Int} (h:PaE ys os f l fr to st r) (k:PaE ys os f l fr to st s):r=s:=by
  have e:=h.wr.uniq k.wr;obtain ⟨r1,r2,r3⟩:=r;obtain ⟨s1,s2,s3⟩:=s;dsimp only at e;subst e;rcases h with ⟨h1,h2,h3,h4⟩ | ⟨h1,h2,h3,h4⟩ <;> rcases k with ⟨k1,k2,k3,k4⟩ | ⟨k1,k2,k3,k4⟩ <;> dsimp only at h1 h3 h4 k1 k3 k4
  · rw [h3,h4,k3,k4]
  · exact absurd k1 h1
  · exact absurd h1 k1
  · rw [h3,h4,k3,k4]
/-- The highest number that so many have. -/
def Top (L:List Int) (t v:Int):Prop:=0<=v/\v<=2000/\t<=(L.countP (fun x=>decide (v<=x)):Nat)/\((L.countP (fun x=>decide (v+1<=x)):Nat):Int)<t
theorem cnt_mono {L:List Int} {v w:Int} (h:v<=w):L.countP (fun x=>decide (w<=x))<=L.countP (fun x=>decide (v<=x)):=by
  refine List.countP_mono_left fun x _ hx=>?_;have:=of_decide_eq_true hx;exact decide_eq_true (by omega)
theorem Top.uniq {L:List Int} {t v w:Int} (h:Top L t v) (k:Top L t w):v=w:=by
  obtain ⟨h1,h2,h3,h4⟩:=h;obtain ⟨k1,k2,k3,k4⟩:=k;rcases Int.lt_trichotomy v w with e | e | e
  · have:=cnt_mono (L:=L) (v:=v+1) (w:=w) (by omega);omega
  · exact e
  · have:=cnt_mono (L:=L) (v:=w+1) (w:=v) (by omega);omega
theorem top_sort {L:List Int} (hL:∀ x∈L,0<=x/\x<=2000) {t:Nat} (h1:1<=t) (h2:t<=L.length):Top L t ((isort L).getD (L.length-t) 0):=by
  have hp:=isort_perm L;have hlen:(isort L).length=L.length:=hp.length_eq;have ha:=isort_asc L;have hm:∀ x∈isort L,0<=x/\x<=2000:=fun x hx=>hL x (hp.mem_iff.1 hx);unfold Top;rw [← hp.countP_eq,← hp.countP_eq];generalize isort L=s at *;have hk:L.length-t<s.length:=by omega
  have e:s.getD (L.length-t) 0=s[L.length-t]:=by rw [List.getD_eq_getElem?_getD,List.getElem?_eq_getElem hk,Option.getD_some]
  rw [e];have hv:=hm s[L.length-t] (List.getElem_mem hk);refine ⟨hv.1,hv.2,?_,?_⟩
  · have e1:s.countP (fun x=>decide (s[L.length-t]<=x))=(s.take (L.length-t)).countP (fun x=>decide (s[L.length-t]<=x))+(s.drop (L.length-t)).countP (fun x=>decide (s[L.length-t]<=x)):=by
      rw [← List.countP_append,List.take_append_drop]
    have e2:(s.drop (L.length-t)).countP (fun x=>decide (s[L.length-t]<=x))=(s.drop (L.length-t)).length:=by
      rw [List.countP_eq_length];intro x hx;obtain ⟨i,hi,rfl⟩:=List.getElem_of_mem hx;rw [List.length_drop] at hi;rw [List.getElem_drop];refine decide_eq_true ?_;by_cases h0:i=0
      · subst h0; exact Int.le_refl _
      · exact List.pairwise_iff_getElem.1 ha (L.length-t) (L.length-t+i) hk (by omega) (by omega)
    rw [List.length_drop] at e2;omega
  · have e1:s.countP (fun x=>decide (s[L.length-t]+1<=x))=(s.take (L.length-t+1)).countP (fun x=>decide (s[L.length-t]+1<=x))+(s.drop (L.length-t+1)).countP (fun x=>decide (s[L.length-t]+1<=x)):=by
      rw [← List.countP_append,List.take_append_drop]
    have e2:(s.take (L.length-t+1)).countP (fun x=>decide (s[L.length-t]+1<=x))=0:=by
      rw [List.countP_eq_zero];intro x hx;obtain ⟨i,hi,rfl⟩:=List.getElem_of_mem hx;rw [List.length_take] at hi;rw [List.getElem_take,decide_eq_true_eq];by_cases h0:i=L.length-t
      · subst h0; omega
      · have:=List.pairwise_iff_getElem.1 ha i (L.length-t) (by omega) hk (by omega);omega
    have e3:=List.countP_le_length (p:=fun x=>decide (s[L.length-t]+1<=x)) (l:=s.drop (L.length-t+1));rw [List.length_drop] at e3;omega
def ReE (ys:List Yr) (os:List Old10) (f l fr to t:Int) (r:Int × Int × Int):Prop:=(r.2.2 ≠ 0/\WrE ys os f l fr to t 1 (to-fr+1) r.2.2/\r.1=0/\r.2.1=0) ∨
  (r.2.2=0/\WrE ys os f l fr to t 1 (to-fr+1) 0/\Top ((kl ys os fr (Int.toNat (to+1-fr))).map Span.lo) t r.1/\Top ((kl ys os fr (Int.toNat (to+1-fr))).map Span.hi) t r.2.1)
theorem ReE.wr {ys:List Yr} {os:List Old10} {f l fr to t:Int} {r:Int × Int × Int} (h:ReE ys os f l fr to t r):WrE ys os f l fr to t 1 (to-fr+1) r.2.2:=by
  rcases h with ⟨h1,h2,h3⟩ | ⟨h1,h2,h3⟩
  · exact h2
  · rw [h1]; exact h2
theorem ReE.uniq {ys:List Yr} {os:List Old10} {f l fr to t:Int} {r s:Int × Int × Int} (h:ReE ys os f l fr to t r) (k:ReE ys os f l fr to t s):r=s:=by
  have e:=h.wr.uniq k.wr;obtain ⟨r1,r2,r3⟩:=r;obtain ⟨s1,s2,s3⟩:=s;dsimp only at e;subst e;rcases h with ⟨h1,h2,h3,h4⟩ | ⟨h1,h2,h3,h4⟩ <;> rcases k with ⟨k1,k2,k3,k4⟩ | ⟨k1,k2,k3,k4⟩ <;> dsimp only at h1 h3 h4 k1 k3 k4
  · rw [h3,h4,k3,k4]
  · exact absurd k1 h1
  · exact absurd h1 k1
  · rw [h3.uniq k3,h4.uniq k4]
end Bk
end Go.Nm
namespace Go.Proofs.YtbgoclcmgbpckabGreat
open Go Go.Nm
variable {ys:List Yr} {os:List Old10} {f l:Int}
theorem between_out (hy:ys.length<=1000000) (ho:os.length<=1000000) (fr to n a b:Int):(zbs ys os f l fr to n a b).Out (fun r=>match r with | .inl e=>e ≠ 0/\Bk.WrE ys os f l fr to n a b e | .inr (f',l',m,z)=>f'=f/\l'=l/\z=0/\Bk.WrE ys os f l fr to n a b 0/\Knows ys os f l m):=by
  unfold zbs;by_cases h0:Bk.chkB ys os f l=0
  · have h:=Bk.chk_ok h0;obtain ⟨m,g1,hm⟩:=opened_ok hy ho h0;refine M.o_bindE g1 (M.o_f rfl (M.o_bindE (in_ends _ _ _) (M.o_bindE (a:=(decide (f<=fr)&&decide (fr<=to))&&(decide (f<=to)&&decide (to<=l))) (M.i_opt (fun h=>by rw [Bool.not_not] at h; rw [h]; exact in_ends _ _ _) (fun h=>by rw [Bool.not_not] at h; rw [h]; rfl)) (M.o_if (fun hb=>?_) (fun hb=>?_)))))
    · have hI:¬ Bk.In f l fr to:=by
        rintro ⟨i1,i2,i3⟩;rw [decide_eq_true i1,decide_eq_true i2,decide_eq_true i3,decide_eq_true (show f<=to by omega)] at hb;cases hb
      exact M.o_pure ⟨by decide,.inr (.inl ⟨h0,hI,rfl⟩)⟩
    · have hI:Bk.In f l fr to:=by
        rw [Bool.or_eq_false_iff,Bool.not_eq_false',Bool.not_eq_false'] at hb;have:=hb.2;rw [Bool.and_eq_true,Bool.and_eq_true,Bool.and_eq_true,decide_eq_true_eq,decide_eq_true_eq,decide_eq_true_eq,decide_eq_true_eq] at this;exact ⟨this.1.1,this.1.2,this.2.2⟩
      refine M.o_bindE (in_ends _ _ _) (M.o_if (fun hb=>?_) (fun hb=>?_))
      · rw [Bool.not_eq_true',Bool.and_eq_false_iff,decide_eq_false_iff_not,decide_eq_false_iff_not] at hb;exact M.o_pure ⟨by decide,.inr (.inr (.inl ⟨h0,hI,by omega,rfl⟩))⟩
      · rw [Bool.not_eq_false',Bool.and_eq_true,decide_eq_true_eq,decide_eq_true_eq] at hb;refine M.o_bind (clash_out h hm) ?_;rintro ⟨y',c⟩ (⟨e,hF⟩ | ⟨e,hF⟩)
        · rw [Prod.mk.injEq] at e;obtain ⟨rfl,rfl⟩:=e;exact M.o_f rfl (M.o_pure ⟨rfl,rfl,rfl,.inr (.inr (.inr (.inr ⟨h0,hI,hb,hF,rfl⟩))),hm⟩)
        · dsimp only at e hF;subst e;exact M.o_t rfl (M.o_pure ⟨by decide,.inr (.inr (.inr (.inl ⟨h0,hI,hb,fun hh=>hF.bad hh,rfl⟩)))⟩)
  · exact M.o_bindE (opened_bad hy ho h0) (M.o_t (bne_iff_ne.2 h0) (M.o_pure ⟨h0,.inl ⟨h0,rfl⟩⟩))
theorem cnt_succ (p:Span->Bool) (a:Int) (n:Nat):((Bk.kl ys os a (n+1)).countP p:Int)=((Bk.kl ys os a n).countP p:Int)+(if p (Bk.kn ys os (a+(n:Int)))=true then 1 else 0):=by
  rw [Bk.kl_succ,List.countP_append];simp only [List.countP_cons,List.countP_nil];split <;> simp
theorem cnt_le (p:Span->Bool) (a:Int) (n:Nat):(Bk.kl ys os a n).countP p<=n:=by
  have:=List.countP_le_length (p:=p) (l:=Bk.kl ys os a n)
  rwa [Bk.kl_len] at this
theorem of_passed (hy:ys.length<=1000000) (ho:os.length<=1000000) (fr to st:Int):(zap ys os f l fr to st).Out (Bk.PaE ys os f l fr to st):=by
  unfold zap;refine M.o_bind (between_out hy ho fr to st 0 2000) ?_;rintro (e | ⟨f',l',m,z⟩) h
  · exact M.o_t (bne_iff_ne.2 h.1) (M.o_pure (.inl ⟨h.1,h.2,rfl,rfl⟩))
  · obtain ⟨rfl,rfl,rfl,hw,hm⟩:=h;obtain ⟨h0,⟨i1,i2,i3⟩,hn,hF⟩:=hw.ok;have h:=Bk.chk_ok h0;have hf0:=h.f0;have hl3:=h.l3;have hln:=h.ln;unfold zak;refine M.o_f rfl (M.o_bindE M.i_pure (M.o_bind (P:=fun x=>match x with | .inl s=>s=(Bk.many (Bk.lop st) ys os fr to,Bk.many (Bk.hip st) ys os fr to) | .inr (_:Unit)=>False) ?_ ?_))
    · refine years_out (s0:=((0:Int),(0:Int))) hl3 (by omega) (by omega) i3 i1 hm (fun y s=>∃ n:Nat,y=fr+n/\s=(((Bk.kl ys os fr n).countP (Bk.lop st):Int),((Bk.kl ys os fr n).countP (Bk.hip st):Int))) ⟨0,by omega,rfl⟩ ?_ ?_ _ _ _ _
      · rintro y ⟨s,s2⟩ h1 h2 ⟨n,rfl,e⟩;obtain ⟨rfl,rfl⟩:=Prod.mk.inj e;have c1:=cnt_le (ys:=ys) (os:=os) (Bk.lop st) fr n;have c2:=cnt_le (ys:=ys) (os:=os) (Bk.hip st) fr n;have d1:=cnt_succ (ys:=ys) (os:=os) (Bk.lop st) fr n;have d2:=cnt_succ (ys:=ys) (os:=os) (Bk.hip st) fr n;simp only [zas];refine M.o_bindE M.i_pure (M.o_bindE M.i_pure (M.o_bindE M.i_pure (M.o_if (fun hb=>?_) (fun hb=>?_))))
        · have hb':Bk.lop st (Bk.kn ys os (fr+(n:Int)))=true:=hb;rw [if_pos hb'] at d1;refine M.o_grd (gA2 (by omega) (by omega)) (M.o_bindE M.i_pure (M.o_bindE M.i_pure (M.o_bindE M.i_pure (M.o_if (fun hc=>?_) (fun hc=>?_)))))
          · have hc':Bk.hip st (Bk.kn ys os (fr+(n:Int)))=true:=hc;rw [if_pos hc'] at d2;exact M.o_grd (gA2 (by omega) (by omega)) (M.o_pure ⟨n+1,by omega,by rw [d1,d2]⟩)
          · have hc':Bk.hip st (Bk.kn ys os (fr+(n:Int)))=false:=hc;rw [if_neg (by rw [hc']; simp)] at d2;exact M.o_pure ⟨n+1,by omega,by rw [d1,d2,Int.add_zero]⟩
        · have hb':Bk.lop st (Bk.kn ys os (fr+(n:Int)))=false:=hb;rw [if_neg (by rw [hb']; simp)] at d1;refine M.o_bindE M.i_pure (M.o_bindE M.i_pure (M.o_bindE M.i_pure (M.o_if (fun hc=>?_) (fun hc=>?_))))
          · have hc':Bk.hip st (Bk.kn ys os (fr+(n:Int)))=true:=hc;rw [if_pos hc'] at d2;exact M.o_grd (gA2 (by omega) (by omega)) (M.o_pure ⟨n+1,by omega,by rw [d1,d2,Int.add_zero]⟩)
          · have hc':Bk.hip st (Bk.kn ys os (fr+(n:Int)))=false:=hc;rw [if_neg (by rw [hc']; simp)] at d2;exact M.o_pure ⟨n+1,by omega,by rw [d1,d2,Int.add_zero,Int.add_zero]⟩
      · rintro s ⟨n,e,rfl⟩;unfold Bk.many;rw [show Int.toNat (to+1-fr)=n by omega]
    · intro x hx;cases x with
      | inl s=>subst hx; exact M.o_pure (.inr ⟨rfl,hw,rfl,rfl⟩)
      | inr u=>exact hx.elim
end Go.Proofs.YtbgoclcmgbpckabGreat
-- libO/BF.lean
namespace Go.Proofs.YtbgoclcmgbpckabGreat
open Go Go.Nm
variable {ys:List Yr} {os:List Old10} {f l:Int}
theorem told_list {m:List (Int × Span)} {c d fr to:Int} {bd:List Int->Int × Span->M (List Int ⊕ Unit)} (g:Span->Int) (hb:∀ q x s,q.length<=100000->(bd q (x,s)).Ends (.inl (q++[g s]))) (hd:d<=3000) (ha:0<=fr) (hab:fr<=to+1) (hto:to<=d) (hc:c<=fr) (hm:Knows ys os c d m) (yw:List Yr) (ow:List Old10) (cw dw:Int) :
    (zaq (M.yl bd) (.inl []) fr to yw ow cw dw m).Ends (.inl ((Bk.kl ys os fr (Int.toNat (to+1-fr))).map g)):=by
  refine M.Out.ends ?_;refine years_out (s0:=([]:List Int)) hd ha hab hto hc hm (fun y s=>∃ n:Nat,y=fr+n/\s=(Bk.kl ys os fr n).map g) ⟨0,by omega,rfl⟩ ?_ ?_ _ _ _ _
  · rintro y s h1 h2 ⟨n,rfl,rfl⟩;refine M.o_of (hb _ _ _ (by rw [List.length_map,Bk.kl_len]; omega)) ⟨n+1,by omega,?_⟩;rw [Bk.kl_succ,List.map_append];rfl
  · rintro s ⟨n,e,rfl⟩;rw [show Int.toNat (to+1-fr)=n by omega]
/-! ### Shares -/
theorem share_ends {n d:Nat} (hn:n<=1000000) (hd:d<=1000000) (h0:0<d):(zbB (n:Int) (d:Int)).Ends (((n / Nat.gcd n d:Nat):Int),((d / Nat.gcd n d:Nat):Int)):=by
  refine M.Out.ends ?_;unfold zbB;have hg:0<Nat.gcd n d:=Nat.gcd_pos_of_pos_right _ h0;refine M.o_bind (P:=fun a=>a=((Nat.gcd n d:Nat):Int)) ?_ ?_
  · refine M.o_iter (fun k (s:Int × Int)=>∃ a b:Nat,s=((a:Int),(b:Int))/\k=b/\Nat.gcd a b=Nat.gcd n d) ?_ d _ ⟨n,d,rfl,rfl,rfl⟩;rintro k ⟨x,y⟩ ⟨a,b,e,hk,e2⟩;subst hk;obtain ⟨rfl,rfl⟩:=Prod.mk.inj e;simp only [zdc];refine M.o_if (fun hb=>?_) (fun hb=>?_)
    · have hb:k ≠ 0:=fun e=>by subst e; simp at hb
      refine M.o_grd (gA2 (by omega) (by omega)) (M.o_pure ⟨a % k,Nat.mod_lt _ (by omega),k,a % k,?_,rfl,?_⟩)
      · rw [Prod.mk.injEq];exact ⟨rfl,(Int.natCast_emod a k).symm⟩
      · rw [← e2,Nat.gcd_comm a k,Nat.gcd_rec k a,Nat.gcd_comm]
    · have hb:k=0:=by
        have:(k:Int)=0:=by simpa using hb
        omega
      subst hb;rw [Nat.gcd_zero_right] at e2;exact M.o_pure (by rw [e2]; rfl)
  · rintro a rfl;exact M.o_grd (gA3 (by omega) (by omega) (by omega)) (M.o_grd (gA3 (by omega) (by omega) (by omega)) (M.o_pure (by rw [Int.natCast_ediv,Int.natCast_ediv])))
/-! ### The highest stage that is passed so often -/
theorem wr64_id {a:Int} (h:-9223372036854775808<=a/\a<=9223372036854775807):wr64 a=a:=wrap64 h
theorem reach_one (g:Span->Int) (hg:∀ s:Span,(0<=s.lo/\s.lo<=2000/\0<=s.hi/\s.hi<=2000)->0<=g s/\g s<=2000) {fr to t:Int} (h:Bk.Ok ys os f l) (hI:Bk.In f l fr to) (ht:1<=t/\t<=to-fr+1) {L:List Int} (hL:L=(Bk.kl ys os fr (Int.toNat (to+1-fr))).map g) :
    (M.grd (decide (L.length<=1000000))<|M.gi (((isort L).length:Int)-t) <|
      M.grd (decide ((0:Int)<=(((isort L).length:Int)-t))&&decide ((((isort L).length:Int)-t)<((isort L).length:Int)))<|M.pure ((isort L).getD (Int.toNat (((isort L).length:Int)-t)) 0)).Out (Bk.Top L t):=by
  obtain ⟨i1,i2,i3⟩:=hI;have hl3:=h.l3;have hf0:=h.f0;have hlen:L.length=Int.toNat (to+1-fr):=by rw [hL,List.length_map,Bk.kl_len]
  have hsl:(isort L).length=L.length:=(isort_perm L).length_eq;have hall:∀ x∈L,0<=x/\x<=2000:=by
    intro x hx;rw [hL] at hx;obtain ⟨s,hs,rfl⟩:=List.mem_map.1 hx;obtain ⟨i,hi,rfl⟩:=Bk.kl_mem hs;exact hg _ (Bk.kn_in h.y h.o _)
  have k:=Bk.top_sort hall (t:=Int.toNat t) (by omega) (by omega);rw [hsl];refine M.o_grdD (by omega) (M.o_grd (gA2 (by omega) (by omega)) (M.o_grd (gA2 (by omega) (by omega)) (M.o_pure ?_)));rw [show Int.toNat ((L.length:Int)-t)=L.length-Int.toNat t by omega]
  rwa [show ((Int.toNat t:Nat):Int)=t by omega] at k
theorem of_reaches (hy:ys.length<=1000000) (ho:os.length<=1000000) (fr to t:Int):(zaX ys os f l fr to t).Out (Bk.ReE ys os f l fr to t):=by
  unfold zaX;have hlast:Bk.chkB ys os f l=0->Bk.In f l fr to->wr64 (wr64 (to-fr)+1)=to-fr+1:=by
    rintro h0 ⟨i1,i2,i3⟩;have h:=Bk.chk_ok h0;have hf0:=h.f0;have hl3:=h.l3;rw [wr64_id (a:=to-fr) (by omega),wr64_id (by omega)]
  refine M.o_bind (between_out hy ho fr to t 1 (wr64 (wr64 (to-fr)+1))) ?_;rintro (e | ⟨f',l',m,z⟩) h
  · exact M.o_t (bne_iff_ne.2 h.1) (M.o_pure (.inl ⟨h.1,h.2.last hlast,rfl,rfl⟩))
  · obtain ⟨rfl,rfl,rfl,hw,hm⟩:=h;have hw:=hw.last hlast;obtain ⟨h0,hI,hn,hF⟩:=hw.ok;have h:=Bk.chk_ok h0;have hf0:=h.f0;have hl3:=h.l3;have hln:=h.ln;obtain ⟨i1,i2,i3⟩:=id hI;have r1:(za8 ys os f' l' m fr to t).Out (Bk.Top ((Bk.kl ys os fr (Int.toNat (to+1-fr))).map Span.lo) t):=by
      unfold za8 zak;refine M.o_bindE M.i_pure (M.o_bindE (told_list Span.lo (fun q x s hq=>?_) hl3 (by omega) (by omega) (by omega) (by omega) hm _ _ _ _) (reach_one Span.lo (fun s hs=>by omega) h hI hn rfl));simp only [zaw];exact M.i_bind M.i_pure (M.i_grd (decide_eq_true (by simp only [List.length_cons,List.length_nil]; omega)) M.i_pure)
    have r2:(zbd ys os f' l' m fr to t).Out (Bk.Top ((Bk.kl ys os fr (Int.toNat (to+1-fr))).map Span.hi) t):=by
      unfold zbd zak;refine M.o_bindE M.i_pure (M.o_bindE (told_list Span.hi (fun q x s hq=>?_) hl3 (by omega) (by omega) (by omega) (by omega) hm _ _ _ _) (reach_one Span.hi (fun s hs=>by omega) h hI hn rfl));simp only [zax];exact M.i_bind M.i_pure (M.i_grd (decide_eq_true (by simp only [List.length_cons,List.length_nil]; omega)) M.i_pure)
    refine M.o_f rfl (M.o_bindE M.i_pure (M.o_bind r1 fun a ha=>M.o_bindE M.i_pure (M.o_bind r2 fun b hb=>M.o_pure (.inr ⟨rfl,hw,ha,hb⟩))))
theorem top_some {L:List Int} {t:Int} (hL:∀ x∈L,0<=x/\x<=2000) (h:1<=t/\t<=L.length):∃ v,Bk.Top L t v:=by
  have k:=Bk.top_sort hL (t:=Int.toNat t) (by omega) (by omega);rw [show ((Int.toNat t:Nat):Int)=t by omega] at k;exact ⟨_,k⟩
end Go.Proofs.YtbgoclcmgbpckabGreat
-- libO/BG.lean
namespace Go.Nm
namespace Bk
/-- The shares of all years, or the error. -/
def RtE (ys:List Yr) (os:List Old10) (f l st:Int) (r:Int × Int × Int × Int × Int):Prop:=(r.2.2.2.2 ≠ 0/\WrE ys os f l f l st 0 2000 r.2.2.2.2/\r.1=0/\r.2.1=0/\r.2.2.1=0/\r.2.2.2.1=0) ∨
  (r.2.2.2.2=0/\WrE ys os f l f l st 0 2000 0/\∃ a b:Nat,a<=100000/\b<=100000/\many (lop st) ys os f l=a/\many (hip st) ys os f l=b/\r.1=((a / Nat.gcd a (Int.toNat (l-f+1)):Nat):Int)/\r.2.1=((Int.toNat (l-f+1) / Nat.gcd a (Int.toNat (l-f+1)):Nat):Int) ∧
    r.2.2.1=((b / Nat.gcd b (Int.toNat (l-f+1)):Nat):Int)/\r.2.2.2.1=((Int.toNat (l-f+1) / Nat.gcd b (Int.toNat (l-f+1)):Nat):Int))
end Bk
end Go.Nm
namespace Go.Proofs.YtbgoclcmgbpckabGreat
open Go Go.Nm
variable {ys:List Yr} {os:List Old10} {f l:Int}
theorem of_returns (hy:ys.length<=1000000) (ho:os.length<=1000000) (st:Int):(zby ys os f l st).Out (Bk.RtE ys os f l st):=by
  unfold zby;refine M.o_bind (of_passed hy ho f l st) ?_;rintro ⟨a,b,e⟩ (⟨h1,h2,h3,h4⟩ | ⟨h1,h2,h3,h4⟩)
  · dsimp only at h1 h2 ⊢;exact M.o_t (bne_iff_ne.2 h1) (M.o_pure (.inl ⟨h1,h2,rfl,rfl,rfl,rfl⟩))
  · dsimp only at h1 h3 h4 ⊢;subst h1 h3 h4;obtain ⟨h0,hI,hn,hF⟩:=h2.ok;have h:=Bk.chk_ok h0;have hf0:=h.f0;have hfl:=h.fl;have hl3:=h.l3;have hln:=h.ln;have c1:=cnt_le (ys:=ys) (os:=os) (Bk.lop st) f (Int.toNat (l+1-f));have c2:=cnt_le (ys:=ys) (os:=os) (Bk.hip st) f (Int.toNat (l+1-f));have k1:=share_ends (n:=(Bk.kl ys os f (Int.toNat (l+1-f))).countP (Bk.lop st)) (d:=Int.toNat (l-f+1)) (by omega) (by omega) (by omega);have k2:=share_ends (n:=(Bk.kl ys os f (Int.toNat (l+1-f))).countP (Bk.hip st)) (d:=Int.toNat (l-f+1)) (by omega) (by omega) (by omega);rw [show ((Int.toNat (l-f+1):Nat):Int)=l-f+1 by omega] at k1 k2;exact M.o_f rfl (M.o_grd (gA2 (by omega) (by omega)) (M.o_grd (gA2 (by omega) (by omega)) (M.o_bindE k1 (M.o_bindE k2 (M.o_pure (.inr ⟨rfl,h2,_,_,by omega,by omega,rfl,rfl,rfl,rfl,rfl,rfl⟩))))))
end Go.Proofs.YtbgoclcmgbpckabGreat
-- libO/BH.lean
namespace Go.Nm
namespace Bk
theorem chk_of {ys:List Yr} {os:List Old10} {f l:Int} (h:Ok ys os f l):chkB ys os f l=0:=by
  have h1:=h.f0;have h2:=h.fl;have h3:=h.l3;have h4:=h.ln;have h5:=h.y60;have h6:=h.o8;have hfr:frB f l=true:=by
    simp only [frB,Bool.and_eq_true,decide_eq_true_eq];omega
  have hfew:os.all fewO=true:=by
    rw [List.all_eq_true];intro o ho;have:=h.few o ho;exact decide_eq_true (by omega)
  have hb:os.all (oB f l)=true:=by
    rw [List.all_eq_true];intro o ho;have k1:=h.o.in_ o ho;have k2:=h.ris o ho;simp only [oB,Bool.and_eq_true,decide_eq_true_eq];exact ⟨⟨⟨⟨k1.1,k1.2.1⟩,by omega,k1.2.2.1⟩,k1.2.2.2.1,k1.2.2.2.2⟩,k2⟩
  have he:Pk.fe (errY f l ys) ys.length=0:=by
    rw [Pk.fe_all];intro i hi;have e:ys.getD i default=ys[i]:=by rw [List.getD_eq_getElem?_getD,List.getElem?_eq_getElem hi,Option.getD_some]
    have k1:=h.y.in_ ys[i] (List.getElem_mem hi);unfold errY;rw [if_neg,if_neg]
    · rintro ⟨h0,hle⟩;have e2:ys.getD (i-1) default=ys[i-1]:=by rw [List.getD_eq_getElem?_getD,List.getElem?_eq_getElem (by omega),Option.getD_some]
      rw [e,e2] at hle;have:=List.pairwise_iff_getElem.1 h.y.up (i-1) i (by omega) hi (by omega);omega
    · rw [e];have:yrB f l ys[i]=true:=by
        simp only [yrB,Bool.and_eq_true,decide_eq_true_eq];omega
      rw [this];simp
  unfold chkB;rw [if_neg (by rw [hfr]; simp),if_neg (by rw [hfew]; simp; omega),if_neg (by rw [he]; simp),if_neg (by rw [hb]; simp)]
/-- A truth of a book. -/
structure Tr (ys:List Yr) (os:List Old10) (f l:Int) (t:List Int):Prop where
  ok:Ok ys os f l
  len:(t.length:Int)=l-f+1
  all:All2 t
  can:Can ys os f t
theorem Tr.at_ {ys:List Yr} {os:List Old10} {f l:Int} {t:List Int} (h:Tr ys os f l t) {y:Int} (h1:f<=y) (h2:y<=l):(kn ys os y).lo<=t.getD (Int.toNat (y-f)) 0/\t.getD (Int.toNat (y-f)) 0<=(kn ys os y).hi:=by
  have hl:=h.len;have k:=h.can (Int.toNat (y-f)) (by omega)
  rwa [show f+((Int.toNat (y-f):Nat):Int)=y by omega] at k
theorem Tr.fine {ys:List Yr} {os:List Old10} {f l:Int} {t:List Int} (h:Tr ys os f l t):Fine ys os f l:=fun z h1 h2=>by
  have:=h.at_ h1 h2;omega
/-- An old note that a truth bears out. -/
structure Nt (f l:Int) (t:List Int) (o:Old10):Prop where
  a:f<=o.src
  b:o.src<=o.dst
  c:o.dst<=l
  s1:1<=o.stage
  s2:o.stage<=2000
  few:o.passed.length<=10
  up:o.passed.Pairwise (· < ·)
  mem:∀ y,y∈o.passed↔(o.src<=y/\y<=o.dst)/\o.stage<=t.getD (Int.toNat (y-f)) 0
theorem Nt.rin {f l:Int} {t:List Int} {o:Old10} (h:Nt f l t o):Rin o.passed o.src o.dst:=by
  intro i hi;have e:o.passed.getD i 0=o.passed[i]:=by rw [List.getD_eq_getElem?_getD,List.getElem?_eq_getElem hi,Option.getD_some]
  rw [e];refine ⟨((h.mem _).1 (List.getElem_mem hi)).1,fun h0=>?_⟩;have e2:o.passed.getD (i-1) 0=o.passed[i-1]:=by rw [List.getD_eq_getElem?_getD,List.getElem?_eq_getElem (by omega),Option.getD_some]
  rw [e2];exact List.pairwise_iff_getElem.1 h.up (i-1) i (by omega) hi (by omega)
/-- Recorded years that a truth bears out. -/
structure Yt (f l:Int) (t:List Int) (ys:List Yr):Prop where
  in_:∀ r∈ys,(f<=r.year/\r.year<=l/\0<=r.lo/\r.lo<=r.hi/\r.hi<=2000)/\r.lo<=t.getD (Int.toNat (r.year-f)) 0/\t.getD (Int.toNat (r.year-f)) 0<=r.hi
  up:ys.Pairwise fun a b=>a.year<b.year
/-- What is borne out is a book with a truth. -/
theorem Tr.of {ys:List Yr} {os:List Old10} {f l:Int} {t:List Int} (h0:0<=f) (h1:f<=l) (h2:l<=3000) (h3:l-f<1000) (hy:ys.length<=60) (ho:os.length<=8) (hl:(t.length:Int)=l-f+1) (ha:All2 t) (hY:Yt f l t ys) (hO:∀ o∈os,Nt f l t o):Tr ys os f l t:=by
  have oky:OkY f l ys:=⟨fun r hr=>(hY.in_ r hr).1,hY.up⟩
  refine ⟨⟨h0,h1,h2,h3,hy,ho,fun o h=>(hO o h).few,oky,⟨fun o h=>?_⟩,fun o h=>(hO o h).rin⟩,hl,ha,fun i hi=>?_⟩
  · have k:=hO o h;exact ⟨k.a,k.b,k.c,k.s1,k.s2⟩
  · rw [← can_iff oky (ha i hi).1 (ha i hi).2];unfold Bk.can;rw [Bool.and_eq_true,List.all_eq_true,List.all_eq_true];refine ⟨fun r hr=>?_,fun o hm=>?_⟩
    · have k:=(hY.in_ r hr).2;by_cases e:r.year=f+i
      · rw [e,show Int.toNat (f+(i:Int)-f)=i by omega] at k;rw [decide_eq_false (by omega),decide_eq_false (by omega)];simp
      · rw [beq_eq_false_iff_ne.2 e];rfl
    · have k:=hO o hm;by_cases e:o.src<=f+i/\f+i<=o.dst
      · have m:=k.mem (f+i);rw [show Int.toNat (f+(i:Int)-f)=i by omega] at m;rw [Bool.or_eq_true]
        right
        rw [beq_iff_eq,Bool.eq_iff_iff,List.contains_iff_mem,m,decide_eq_true_eq];exact ⟨fun h=>h.2,fun h=>⟨e,h⟩⟩
      · rw [Bool.or_eq_true]
        left
        rw [Bool.not_eq_true',Bool.and_eq_false_iff,decide_eq_false_iff_not,decide_eq_false_iff_not];omega
/-- What is made. -/
structure Md (most:Int) (ys:List Yr) (os:List Old10) (f l:Int) (t:List Int):Prop where
  f0:0<=f
  f2:f<2000
  fl:f<=l
  near:l-f<most
  len:(t.length:Int)=l-f+1
  t6:∀ i,i<t.length->0<=t.getD i 0/\t.getD i 0<600
  y60:ys.length<=60
  o3:os.length<=3
  y:Yt f l t ys
  o:∀ o∈os,Nt f l t o
theorem Md.tr {most:Int} {ys:List Yr} {os:List Old10} {f l:Int} {t:List Int} (h:Md most ys os f l t) (hm:most<=1000):Tr ys os f l t:=by
  have h1:=h.f0;have h2:=h.f2;have h3:=h.fl;have h4:=h.near;have h5:=h.o3;exact .of h1 h3 (by omega) (by omega) h.y60 (by omega) h.len (fun i hi=>by have:=h.t6 i hi; omega) h.y h.o
end Bk
end Go.Nm
namespace Go.Proofs.YtbgoclcmgbpckabGreat
open Go Go.Nm
variable {ys:List Yr} {os:List Old10} {f l:Int} {t:List Int} {b:List UInt8}
theorem noted_years {a d s:Int} (h1:f<=a) (h2:a<=d) (h3:d<=l) (hl:(t.length:Int)=l-f+1) (hl1:t.length<=1000) (hf:0<=f/\f<=100000):(M.iter (zbx f t d s) (a,[])).Out (fun y=>y.2.length<=1000/\y.2.Pairwise (· < ·)/\∀ z,z∈y.2↔(a<=z/\z<=d)/\s<=t.getD (Int.toNat (z-f)) 0):=by
  refine M.o_for (Int.toNat (d+1-a)) (fun i (x:Int × List Int)=>x.1=a+i/\x.2.length<=i/\x.2.Pairwise (· < ·)/\∀ z,z∈x.2↔(a<=z/\z<a+i)/\s<=t.getD (Int.toNat (z-f)) 0) ?_ ?_ ⟨by simp,by simp,by simp,fun z=>by simp; omega⟩
  · rintro i ⟨y,q⟩ hi ⟨e1,e2,e3,e4⟩;dsimp only at e1 e2 e3 e4;subst e1;simp only [zbx];refine M.o_t (decide_eq_true (by omega)) (M.o_grd (gA2 (by omega) (by omega)) (M.o_grd (gA2 (by omega) (by omega)) (M.o_if (fun hb=>?_) (fun hb=>?_))))
    · have hb:=of_decide_eq_true hb;refine M.o_grdD (by simp only [List.length_cons,List.length_nil]; omega) (M.o_grd (gA2 (by omega) (by omega)) (M.o_pure ⟨by dsimp only; omega,by dsimp only; rw [List.length_append,List.length_singleton]; omega,?_,fun z=>?_⟩))
      · rw [List.pairwise_append];refine ⟨e3,by simp,fun u hu v hv=>?_⟩;rw [List.mem_singleton] at hv;have:=((e4 u).1 hu).1;omega
      · dsimp only;rw [List.mem_append,List.mem_singleton,e4];constructor
        · rintro (h | rfl)
          · exact ⟨by omega,h.2⟩
          · exact ⟨by omega,hb⟩
        · rintro ⟨h,h'⟩;by_cases e:z=a+i
          · exact .inr e
          · exact .inl ⟨by omega,h'⟩
    · have hb:=of_decide_eq_false hb;refine M.o_grd (gA2 (by omega) (by omega)) (M.o_pure ⟨by dsimp only; omega,by dsimp only; omega,e3,fun z=>?_⟩);dsimp only;rw [e4];constructor
      · rintro ⟨h,h'⟩;exact ⟨by omega,h'⟩
      · rintro ⟨h,h'⟩;by_cases e:z=a+i
        · subst e; exact absurd h' hb
        · exact ⟨by omega,h'⟩
  · rintro ⟨y,q⟩ ⟨e1,e2,e3,e4⟩;dsimp only at e1 e2 e3 e4;subst e1;simp only [zbx];refine M.o_f (decide_eq_false (by omega)) (M.o_pure ⟨by dsimp only; omega,e3,fun z=>?_⟩);dsimp only;rw [e4];constructor
    · rintro ⟨h,h'⟩;exact ⟨by omega,h'⟩
    · rintro ⟨h,h'⟩;exact ⟨by omega,h'⟩
theorem noted_out {c u x:Int} (hk:SOk c u x) (hc:c<=1000000) (hf:0<=f/\f<2000) (hfl:f<=l) (hln:l-f<1000) (hl:(t.length:Int)=l-f+1) (h6:∀ i,i<t.length->0<=t.getD i 0/\t.getD i 0<600) :
    (zcn b u x ys os f l t).Out (fun y=>Bk.Nt f l t ⟨y.1,y.2.1,y.2.2.1,y.2.2.2.1⟩/\SOk (c+3) y.2.2.2.2.1 y.2.2.2.2.2):=by
  unfold zcn;refine M.o_bind (within_out hk (by omega) (by omega) (by omega) (by omega)) ?_;rintro ⟨r2,u1,x1⟩ ⟨k1,g1,g1'⟩;dsimp only at k1 g1 g1' ⊢;refine M.o_bind (within_out k1 (by omega) (by omega) (by omega) (by omega)) ?_;rintro ⟨r3,u2,x2⟩ ⟨k2,g2,g2'⟩;dsimp only at k2 g2 g2' ⊢;refine M.o_bind (within_out k2 (by omega) (by omega) (by omega) (by omega)) ?_;rintro ⟨r4,u3,x3⟩ ⟨k3,g3,g3'⟩;dsimp only at k3 g3 g3' ⊢;refine M.o_bind (P:=fun y=>Bk.Nt f l t ⟨r2,r4,y.1,y.2.2⟩) ?_ ?_
  · refine M.o_iter (fun m (s:Int × Bool × List Int)=>(1<=s.1/\s.1<=2000)/\((s.2.1=true/\m=1+Int.toNat (2000-s.1))∨(s.2.1=false/\m=0/\Bk.Nt f l t ⟨r2,r4,s.1,s.2.2⟩))) ?_ (1+Int.toNat (2000-r3)) _ ⟨⟨by omega,by omega⟩,.inl ⟨rfl,rfl⟩⟩;rintro m ⟨s2,ag,l4⟩ ⟨⟨b1,b2⟩,hj⟩;dsimp only at b1 b2 hj;simp only [zdg];rcases hj with ⟨rfl,rfl⟩ | ⟨rfl,rfl,hN⟩
    · refine M.o_t rfl (M.o_bind (noted_years (s:=s2) g1 g3 g3' hl (by omega) (by omega)) ?_);rintro ⟨q1,q⟩ ⟨n1,n2,n3⟩;dsimp only at n1 n2 n3 ⊢;refine M.o_if (fun hb=>?_) (fun hb=>?_)
      · have hb:=of_decide_eq_true hb;have hs:s2<600:=by
          cases q with
          | nil=>simp at hb
          | cons z q =>
            have h:=(n3 z).1 (by simp);have:=h6 (Int.toNat (z-f)) (by omega);omega
        refine M.o_grd (gA2 (by omega) (by omega)) (M.o_pure ⟨1+Int.toNat (2000-(s2+100)),by omega,⟨by dsimp only; omega,by dsimp only; omega⟩,.inl ⟨rfl,?_⟩⟩);dsimp only;rw [show min 2000 (s2+100)=s2+100 by omega]
      · have hb:=of_decide_eq_false hb;exact M.o_pure ⟨0,by omega,⟨b1,b2⟩,.inr ⟨rfl,rfl,⟨g1,g3,g3',b1,b2,by dsimp only; omega,n2,n3⟩⟩⟩
    · exact M.o_f rfl (M.o_pure hN)
  · rintro ⟨s3,l5,l6⟩ hN;exact M.o_pure ⟨hN,k3.mono (by omega)⟩
end Go.Proofs.YtbgoclcmgbpckabGreat
-- libO/BI.lean
namespace Go.Nm
namespace Bk
/-- What a truth has from one year on. -/
def vl (t:List Int) (f a:Int) (n:Nat):List Int:=(List.range n).map fun (i:Nat)=>t.getD (Int.toNat (a+(i:Int)-f)) 0
theorem mapc {g h:Nat->Int} {n:Nat} (hgh:∀ i,i<n->g i<=h i) (st:Int):((List.range n).map g).countP (fun x=>decide (st<=x))<=((List.range n).map h).countP (fun x=>decide (st<=x)):=by
  rw [List.countP_map,List.countP_map];refine List.countP_mono_left fun i hi hx=>?_;have h1:=hgh i (List.mem_range.1 hi);have h2:st<=g i:=of_decide_eq_true hx;exact decide_eq_true (by omega)
theorem Top.le {A B:List Int} {t u v:Int} (hc:∀ x,A.countP (fun y=>decide (x<=y))<=B.countP (fun y=>decide (x<=y))) (hu:Top A t u) (hv:Top B t v):u<=v:=by
  obtain ⟨h1,h2,h3,h4⟩:=hu;obtain ⟨k1,k2,k3,k4⟩:=hv;refine Int.not_lt.1 fun e=>?_;have:=cnt_mono (L:=B) (v:=v+1) (w:=u) (by omega);have:=hc u;omega
theorem los (ys:List Yr) (os:List Old10) (a:Int) (n:Nat):(kl ys os a n).map Span.lo=(List.range n).map fun (i:Nat)=>(kn ys os (a+(i:Int))).lo:=by unfold kl; rw [List.map_map]; rfl
theorem his (ys:List Yr) (os:List Old10) (a:Int) (n:Nat):(kl ys os a n).map Span.hi=(List.range n).map fun (i:Nat)=>(kn ys os (a+(i:Int))).hi:=by unfold kl; rw [List.map_map]; rfl
theorem many_lo (ys:List Yr) (os:List Old10) (fr to st:Int):many (lop st) ys os fr to=(((kl ys os fr (Int.toNat (to+1-fr))).map Span.lo).countP (fun x=>decide (st<=x)):Nat):=by unfold many; rw [List.countP_map]; rfl
theorem many_hi (ys:List Yr) (os:List Old10) (fr to st:Int):many (hip st) ys os fr to=(((kl ys os fr (Int.toNat (to+1-fr))).map Span.hi).countP (fun x=>decide (st<=x)):Nat):=by unfold many; rw [List.countP_map]; rfl
theorem Tr.lo_ct {ys:List Yr} {os:List Old10} {f l:Int} {t:List Int} (h:Tr ys os f l t) {fr to:Int} (hI:In f l fr to) (st:Int):((kl ys os fr (Int.toNat (to+1-fr))).map Span.lo).countP (fun x=>decide (st<=x))<=(vl t f fr (Int.toNat (to+1-fr))).countP (fun x=>decide (st<=x)):=by
  obtain ⟨i1,i2,i3⟩:=hI;rw [los];exact mapc (fun i hi=>(h.at_ (y:=fr+i) (by omega) (by omega)).1) st
theorem Tr.ct_hi {ys:List Yr} {os:List Old10} {f l:Int} {t:List Int} (h:Tr ys os f l t) {fr to:Int} (hI:In f l fr to) (st:Int):(vl t f fr (Int.toNat (to+1-fr))).countP (fun x=>decide (st<=x))<=((kl ys os fr (Int.toNat (to+1-fr))).map Span.hi).countP (fun x=>decide (st<=x)):=by
  obtain ⟨i1,i2,i3⟩:=hI;rw [his];exact mapc (fun i hi=>(h.at_ (y:=fr+i) (by omega) (by omega)).2) st
theorem share_nat {n d:Nat} (h0:0<d):n / Nat.gcd n d*d=n*(d / Nat.gcd n d)/\0<d / Nat.gcd n d/\d / Nat.gcd n d<=d/\n / Nat.gcd n d<=n:=by
  have hg:0<Nat.gcd n d:=Nat.gcd_pos_of_pos_right _ h0;have hN:n / Nat.gcd n d*Nat.gcd n d=n:=Nat.div_mul_cancel (Nat.gcd_dvd_left n d);have hD:d / Nat.gcd n d*Nat.gcd n d=d:=Nat.div_mul_cancel (Nat.gcd_dvd_right n d);generalize Nat.gcd n d=g at *;refine ⟨?_,Nat.div_pos (Nat.le_of_dvd h0 ⟨d / g,by rw [Nat.mul_comm]; exact hD.symm⟩) hg,Nat.div_le_self _ _,Nat.div_le_self _ _⟩;generalize n / g=N at *;generalize d / g=D at *;have:N*(D*g)=N*g*D:=by rw [Nat.mul_comm D g,Nat.mul_assoc]
  rw [hN,hD] at this;exact this
/-- What is told of a book with a truth. -/
theorem Tr.wr {ys:List Yr} {os:List Old10} {f l:Int} {t:List Int} (h:Tr ys os f l t) {fr to n a b:Int} (hI:In f l fr to) (hn:a<=n/\n<=b):WrE ys os f l fr to n a b 0:=.inr (.inr (.inr (.inr ⟨chk_of h.ok,hI,hn,h.fine,rfl⟩)))
end Bk
end Go.Nm
namespace Go.Proofs.YtbgoclcmgbpckabGreat
open Go Go.Nm
variable {ys:List Yr} {os:List Old10} {f l:Int} {t:List Int}
theorem tr_passed (h:Bk.Tr ys os f l t) {fr to st:Int} (hI:Bk.In f l fr to) (hs:0<=st/\st<=2000):(zap ys os f l fr to st).Ends (Bk.many (Bk.lop st) ys os fr to,Bk.many (Bk.hip st) ys os fr to,0):=by
  have h60:=h.ok.y60;have h8:=h.ok.o8;obtain ⟨r,g,e⟩:=of_passed (ys:=ys) (os:=os) (f:=f) (l:=l) (by omega) (by omega) fr to st;have k:Bk.PaE ys os f l fr to st (Bk.many (Bk.lop st) ys os fr to,Bk.many (Bk.hip st) ys os fr to,0):=.inr ⟨rfl,h.wr hI hs,rfl,rfl⟩;rw [← e.uniq k];exact g
theorem tr_reaches (h:Bk.Tr ys os f l t) {fr to n:Int} (hI:Bk.In f l fr to) (hn:1<=n/\n<=to-fr+1):∃ u v,(zaX ys os f l fr to n).Ends (u,v,0)/\Bk.Top ((Bk.kl ys os fr (Int.toNat (to+1-fr))).map Span.lo) n u/\Bk.Top ((Bk.kl ys os fr (Int.toNat (to+1-fr))).map Span.hi) n v:=by
  have h60:=h.ok.y60;have h8:=h.ok.o8;obtain ⟨⟨u,v,z⟩,g,e⟩:=of_reaches (ys:=ys) (os:=os) (f:=f) (l:=l) (by omega) (by omega) fr to n;have hw:z=0:=e.wr.uniq (h.wr hI hn);subst hw;rcases e with ⟨h1,_⟩ | ⟨_,_,h3,h4⟩
  · exact absurd rfl h1
  · exact ⟨u,v,g,h3,h4⟩
theorem tr_holds (h:Bk.Tr ys os f l t):(zaF ys os f l t).Ends (true,0):=by
  have h60:=h.ok.y60;have h8:=h.ok.o8;have hl:=h.len;have h1:=h.ok.ln;obtain ⟨r,g,e⟩:=of_holds (ys:=ys) (os:=os) (f:=f) (l:=l) (by omega) (by omega) t (by omega);have k:Bk.HoE ys os f l t (true,0):=.inr (.inr (.inr (.inr ⟨Bk.chk_of h.ok,h.len,h.all,h.can,rfl⟩)));rw [← e.uniq k];exact g
theorem tr_returns (h:Bk.Tr ys os f l t) {st:Int} (hs:0<=st/\st<=2000):∃ a b:Nat,Bk.many (Bk.lop st) ys os f l=a/\Bk.many (Bk.hip st) ys os f l=b/\a<=100000/\b<=100000 ∧
    (zby ys os f l st).Ends (((a / Nat.gcd a t.length:Nat):Int),((t.length / Nat.gcd a t.length:Nat):Int),((b / Nat.gcd b t.length:Nat):Int),((t.length / Nat.gcd b t.length:Nat):Int),0):=by
  have h60:=h.ok.y60;have h8:=h.ok.o8;have hfl:=h.ok.fl;have hl:=h.len;obtain ⟨⟨r1,r2,r3,r4,z⟩,g,e⟩:=of_returns (ys:=ys) (os:=os) (f:=f) (l:=l) (by omega) (by omega) st;rcases e with ⟨h1,h2,_⟩ | ⟨h1,_,a,b,ha,hb,h3,h4,h5,h6,h7,h9⟩
  · exact absurd (h2.uniq (h.wr ⟨Int.le_refl _,hfl,Int.le_refl _⟩ hs)) h1
  · dsimp only at h1 h5 h6 h7 h9;subst h1 h5 h6 h7 h9;rw [show Int.toNat (l-f+1)=t.length by omega] at g;exact ⟨a,b,h3,h4,ha,hb,g⟩
end Go.Proofs.YtbgoclcmgbpckabGreat
-- libO/BP.lean
namespace Go.Nm
namespace Bk
/-- What is told of two parts is together what is told of both. -/
theorem many_part (p:Span->Bool) (ys:List Yr) (os:List Old10) {a m b:Int} (h1:a<=m) (h2:m<=b):many p ys os a b=many p ys os a m+many p ys os (m+1) b:=by
  unfold many;have e:Int.toNat (b+1-a)=Int.toNat (m+1-a)+Int.toNat (b+1-(m+1)):=by omega
  have k:∀ n k:Nat,kl ys os a (n+k)=kl ys os a n++kl ys os (a+(n:Int)) k:=by
    intro n k;induction k with
    | zero=>simp [kl]
    | succ k ih =>
      rw [← Nat.add_assoc,kl_succ,ih,kl_succ,List.append_assoc];have:a+((n+k:Nat):Int)=a+(n:Int)+(k:Int):=by omega
      rw [this]
  rw [e,k,List.countP_append,show a+((Int.toNat (m+1-a):Nat):Int)=m+1 by omega];omega
end Bk
end Go.Nm
-- libD/GA.lean
namespace Go.Nm
namespace Fl
/-- The greatest whole number whose square is at most a number. -/
def rtN:Nat->Nat
  | 0=>0
  | n+1=>if (rtN n+1)*(rtN n+1)<=n+1 then rtN n+1 else rtN n
def rt (n:Int):Int:=rtN n.toNat
/-- Rows whose stages rise and whose numbers do not fall. -/
def Rows:List FRow->Prop
  | []=>True
  | [a]=>0<=a.stage/\a.stage<=2000/\0<=a.carry/\a.carry<=100000
  | a :: b :: r=>0<=a.stage/\a.stage<b.stage/\0<=a.carry/\a.carry<=b.carry/\Rows (b :: r)
theorem Rows.head {a:FRow} {r:List FRow} (h:Rows (a :: r)):0<=a.stage/\a.stage<=2000/\0<=a.carry/\a.carry<=100000:=by
  induction r generalizing a with
  | nil=>exact h
  | cons b r ih =>
    obtain ⟨h1,h2,h3,h4,h5⟩:=h;have:=ih h5;omega
/-- What is carried between two rows. -/
def ip (a b:FRow) (s:Int):Int:=a.carry+(b.carry-a.carry)*(s-a.stage) / (b.stage-a.stage)
def go:FRow->List FRow->Int->Int
  | a,[],_=>a.carry
  | a,b :: r,s=>if s<b.stage then ip a b s else go b r s
def car:List FRow->Int->Int
  | [],_=>0
  | a :: r,s=>if s<a.stage then 0 else go a r s
end Fl
end Go.Nm
-- libD/GB.lean
namespace Go.Nm
namespace Fl
theorem Rows.pw:∀ {l:List FRow},Rows l->l.Pairwise (fun a b=>a.stage<b.stage)
  | [],_=>List.Pairwise.nil
  | [a],_=>List.pairwise_singleton _ _
  | a :: b :: r,h=>by
    obtain ⟨h1,h2,h3,h4,h5⟩:=h;have ih:=h5.pw;refine List.Pairwise.cons (fun x hx=>?_) ih;rcases List.mem_cons.1 hx with rfl | hx
    · exact h2
    · have:=(List.pairwise_cons.1 ih).1 x hx;omega
theorem Rows.lt {l:List FRow} (h:Rows l) {i j:Nat} (hij:i<j) (hj:j<l.length):(l.getD i default).stage<(l.getD j default).stage:=by
  rw [getD_el l (by omega),getD_el l hj];exact (List.pairwise_iff_getElem.1 h.pw) i j (by omega) hj hij
theorem Rows.el:∀ {l:List FRow},Rows l->∀ j,j<l.length->0<=(l.getD j default).stage/\(l.getD j default).stage<=2000/\0<=(l.getD j default).carry/\(l.getD j default).carry<=100000
  | [],_,j,hj=>by simp at hj
  | a :: r,h,0,_=>h.head
  | [a],_,j+1,hj=>by simp at hj
  | a :: b :: r,h,j+1,hj=>h.2.2.2.2.el j (by simp at hj ⊢; omega)
theorem Rows.cm:∀ {l:List FRow},Rows l->∀ j,j+1<l.length->(l.getD j default).carry<=(l.getD (j+1) default).carry
  | [],_,j,hj=>by simp at hj
  | [a],_,j,hj=>by simp at hj
  | a :: b :: r,h,0,_=>h.2.2.2.1
  | a :: b :: r,h,j+1,hj=>h.2.2.2.2.cm j (by simp at hj ⊢; omega)
end Fl
end Go.Nm
namespace Go.Proofs.YtbgoclcmgbpckabGreat
open Go Go.Nm
end Go.Proofs.YtbgoclcmgbpckabGreat
-- libD/GC.lean
namespace Go.Nm
namespace Fl
/-- Sections that are right. -/
structure Secs (S:List Sect):Prop where
  n:2<=S.length/\S.length<=6
  rows:∀ i,i<S.length->Rows (S.getD i default).rows/\2<=(S.getD i default).rows.length/\(S.getD i default).rows.length<=8
  place:∀ i,i<S.length->0<=(S.getD i default).place/\(S.getD i default).place<=10000
  up:∀ i j,i<j->j<S.length->(S.getD i default).place<(S.getD j default).place
structure Rok (S:List Sect) (r:Rch):Prop where
  u0:0<=r.up
  ud:r.up<r.down
  d1:r.down<S.length
  l1:1<=r.lo
  lh:r.lo<=r.hi
  h4:r.hi<=400
structure Mok (m:Mrk):Prop where
  p0:0<=m.place
  p1:m.place<=10000
  l0:0<=m.lo
  lh:m.lo<=m.hi
  h2:m.hi<=2000
structure Site (S:List Sect) (M:List Mrk) (R:List Rch):Prop where
  s:Secs S
  m:1<=M.length/\M.length<=16
  r:1<=R.length/\R.length<=6
  mks:∀ x∈M,Mok x
  rks:∀ x∈R,Rok S x
/-- The flow of a case. -/
def fl (S:List Sect) (r:Rch) (c:Cas):Int :=
  let a:=car (S.getD (Int.toNat r.up) default).rows c.up
  let b:=car (S.getD (Int.toNat r.down) default).rows c.down
  rt (10000*(bif r.narrow then b else a)*b*(c.up-c.down) / ((bif r.narrow then c.roughdown else c.roughup)*c.roughdown*((S.getD (Int.toNat r.down) default).place-(S.getD (Int.toNat r.up) default).place)))
section
variable {S:List Sect} {r:Rch}
theorem Rok.iu (h:Rok S r):Int.toNat r.up<S.length:=by have:=h.u0; have:=h.ud; have:=h.d1; omega
theorem Rok.id (h:Rok S r):Int.toNat r.down<S.length:=by have:=h.u0; have:=h.ud; have:=h.d1; omega
theorem far (hS:Secs S) (h:Rok S r):1<=(S.getD (Int.toNat r.down) default).place-(S.getD (Int.toNat r.up) default).place/\(S.getD (Int.toNat r.down) default).place-(S.getD (Int.toNat r.up) default).place<=10000:=by
  have h1:=hS.up (Int.toNat r.up) (Int.toNat r.down) (by have:=h.u0; have:=h.ud; omega) h.id;have h2:=hS.place _ h.id;have h3:=hS.place _ h.iu;omega
end
def stLo (M:List Mrk) (ms:List Int) (p:Int):Int:=ms.foldl (fun a k=>if p<=(M.getD (Int.toNat k) default).place then max a (M.getD (Int.toNat k) default).lo else a) 0
def stHi (M:List Mrk) (ms:List Int) (p:Int):Int:=ms.foldl (fun a k=>if (M.getD (Int.toNat k) default).place<=p then min a (M.getD (Int.toNat k) default).hi else a) 2000
end Fl
end Go.Nm
namespace Go.Proofs.YtbgoclcmgbpckabGreat
open Go Go.Nm
theorem least_ends (a b:Int):(zcU a [b]).Ends (min a b):=by
  unfold zcU;refine M.i_bind (M.i_next (s':=(min a b,1)) ?_ (M.i_stop ?_)) M.i_pure
  · simp only [zc5];exact M.i_t (by simp) (M.i_grd (by simp) M.i_pure)
  · simp only [zc5];exact M.i_f (by simp) M.i_pure
theorem stages_ends {S:List Sect} {M':List Mrk} {R':List Rch} {ms:List Int} {i:Int} (hm:∀ k∈ms,0<=k/\k<M'.length) (h0:0<=i) (h1:i<S.length) :
    (zcb S M' R' ms i).Ends (Fl.stLo M' ms (S.getD (Int.toNat i) default).place,Fl.stHi M' ms (S.getD (Int.toNat i) default).place):=by
  unfold zcb;refine M.i_bind (a:=(Fl.stLo M' ms (S.getD (Int.toNat i) default).place,Fl.stHi M' ms (S.getD (Int.toNat i) default).place)) ?_ M.i_pure;refine M.i_for (fun j=>(Fl.stLo M' (ms.take j) (S.getD (Int.toNat i) default).place,Fl.stHi M' (ms.take j) (S.getD (Int.toNat i) default).place,j)) ms.length (fun j hj=>?_) ?_
  · have hk:=hm (ms.getD j 0) (by rw [getD_el ms hj]; exact List.getElem_mem hj);simp only [zcc];refine M.i_t (decide_eq_true (by omega)) (M.i_grd (decide_eq_true (by omega)) (M.i_grd (gA2 hk.1 hk.2) (M.i_grd (gA2 h0 h1) ?_)));have el:Fl.stLo M' (ms.take (j+1)) (S.getD (Int.toNat i) default).place=if (S.getD (Int.toNat i) default).place<=(M'.getD (Int.toNat (ms.getD j 0)) default).place then max (Fl.stLo M' (ms.take j) (S.getD (Int.toNat i) default).place) (M'.getD (Int.toNat (ms.getD j 0)) default).lo else Fl.stLo M' (ms.take j) (S.getD (Int.toNat i) default).place:=by
      rw [← take_succ_D ms j hj 0];unfold Fl.stLo;rw [List.foldl_append];rfl
    have eh:Fl.stHi M' (ms.take (j+1)) (S.getD (Int.toNat i) default).place=if (M'.getD (Int.toNat (ms.getD j 0)) default).place<=(S.getD (Int.toNat i) default).place then min (Fl.stHi M' (ms.take j) (S.getD (Int.toNat i) default).place) (M'.getD (Int.toNat (ms.getD j 0)) default).hi else Fl.stHi M' (ms.take j) (S.getD (Int.toNat i) default).place:=by
      rw [← take_succ_D ms j hj 0];unfold Fl.stHi;rw [List.foldl_append];rfl
    rw [el,eh];refine M.i_if (fun hc=>?_) (fun hc=>?_)
    · have hc:=of_decide_eq_true hc;rw [if_pos hc];refine M.i_bind (least_ends _ _) (M.i_if (fun hd=>?_) (fun hd=>?_))
      · rw [if_pos (of_decide_eq_true hd)]; exact M.i_pure
      · rw [if_neg (of_decide_eq_false hd)]; exact M.i_pure
    · have hc:=of_decide_eq_false hc;rw [if_neg hc];refine M.i_if (fun hd=>?_) (fun hd=>?_)
      · rw [if_pos (of_decide_eq_true hd)]; exact M.i_pure
      · rw [if_neg (of_decide_eq_false hd)]; exact M.i_pure
  · simp only [zcc];rw [List.take_length];exact M.i_f (decide_eq_false (by omega)) M.i_pure
end Go.Proofs.YtbgoclcmgbpckabGreat
-- libD/GD.lean
namespace Go.Nm
namespace Fl
section
variable {M:List Mrk} {p:Int}
theorem lo_fold:∀ (ms:List Int) (a:Int),a<=ms.foldl (fun a k=>if p<=(M.getD (Int.toNat k) default).place then max a (M.getD (Int.toNat k) default).lo else a) a ∧
    (∀ k∈ms,p<=(M.getD (Int.toNat k) default).place->(M.getD (Int.toNat k) default).lo<=ms.foldl (fun a k=>if p<=(M.getD (Int.toNat k) default).place then max a (M.getD (Int.toNat k) default).lo else a) a) ∧
    (ms.foldl (fun a k=>if p<=(M.getD (Int.toNat k) default).place then max a (M.getD (Int.toNat k) default).lo else a) a=a∨∃ k∈ms,p<=(M.getD (Int.toNat k) default).place/\ms.foldl (fun a k=>if p<=(M.getD (Int.toNat k) default).place then max a (M.getD (Int.toNat k) default).lo else a) a=(M.getD (Int.toNat k) default).lo)
  | [],a=>⟨Int.le_refl _,fun k hk=>(List.not_mem_nil hk).elim,.inl rfl⟩
  | k :: ms,a=>by
    rw [List.foldl_cons];obtain ⟨h1,h2,h3⟩:=lo_fold ms (if p<=(M.getD (Int.toNat k) default).place then max a (M.getD (Int.toNat k) default).lo else a);by_cases hp:p<=(M.getD (Int.toNat k) default).place
    · rw [if_pos hp] at h1 h2 h3 ⊢;refine ⟨by omega,fun j hj hpj=>?_,?_⟩
      · rcases List.mem_cons.1 hj with rfl | hj
        · omega
        · exact h2 j hj hpj
      · rcases h3 with h3 | ⟨j,hj,hpj,e⟩
        · rcases Int.le_total (M.getD (Int.toNat k) default).lo a with e | e
          · left; omega
          · right; exact ⟨k,by simp,hp,by omega⟩
        · right; exact ⟨j,by simp [hj],hpj,e⟩
    · rw [if_neg hp] at h1 h2 h3 ⊢;refine ⟨h1,fun j hj hpj=>?_,?_⟩
      · rcases List.mem_cons.1 hj with rfl | hj
        · exact absurd hpj hp
        · exact h2 j hj hpj
      · rcases h3 with h3 | ⟨j,hj,hpj,e⟩
        · exact .inl h3
        · right; exact ⟨j,by simp [hj],hpj,e⟩
theorem hi_fold:∀ (ms:List Int) (a:Int),ms.foldl (fun a k=>if (M.getD (Int.toNat k) default).place<=p then min a (M.getD (Int.toNat k) default).hi else a) a<=a ∧
    (∀ k∈ms,(M.getD (Int.toNat k) default).place<=p->ms.foldl (fun a k=>if (M.getD (Int.toNat k) default).place<=p then min a (M.getD (Int.toNat k) default).hi else a) a<=(M.getD (Int.toNat k) default).hi) ∧
    (ms.foldl (fun a k=>if (M.getD (Int.toNat k) default).place<=p then min a (M.getD (Int.toNat k) default).hi else a) a=a∨∃ k∈ms,(M.getD (Int.toNat k) default).place<=p/\ms.foldl (fun a k=>if (M.getD (Int.toNat k) default).place<=p then min a (M.getD (Int.toNat k) default).hi else a) a=(M.getD (Int.toNat k) default).hi)
  | [],a=>⟨Int.le_refl _,fun k hk=>(List.not_mem_nil hk).elim,.inl rfl⟩
  | k :: ms,a=>by
    rw [List.foldl_cons];obtain ⟨h1,h2,h3⟩:=hi_fold ms (if (M.getD (Int.toNat k) default).place<=p then min a (M.getD (Int.toNat k) default).hi else a);by_cases hp:(M.getD (Int.toNat k) default).place<=p
    · rw [if_pos hp] at h1 h2 h3 ⊢;refine ⟨by omega,fun j hj hpj=>?_,?_⟩
      · rcases List.mem_cons.1 hj with rfl | hj
        · omega
        · exact h2 j hj hpj
      · rcases h3 with h3 | ⟨j,hj,hpj,e⟩
        · rcases Int.le_total a (M.getD (Int.toNat k) default).hi with e | e
          · left; omega
          · right; exact ⟨k,by simp,hp,by omega⟩
        · right; exact ⟨j,by simp [hj],hpj,e⟩
    · rw [if_neg hp] at h1 h2 h3 ⊢;refine ⟨h1,fun j hj hpj=>?_,?_⟩
      · rcases List.mem_cons.1 hj with rfl | hj
        · exact absurd hpj hp
        · exact h2 j hj hpj
      · rcases h3 with h3 | ⟨j,hj,hpj,e⟩
        · exact .inl h3
        · right; exact ⟨j,by simp [hj],hpj,e⟩
theorem stLo_ex (ms:List Int):stLo M ms p=0∨∃ k∈ms,p<=(M.getD (Int.toNat k) default).place/\stLo M ms p=(M.getD (Int.toNat k) default).lo:=(lo_fold ms 0).2.2
theorem stHi_le (ms:List Int):stHi M ms p<=2000:=(hi_fold ms 2000).1
theorem stHi_ex (ms:List Int):stHi M ms p=2000∨∃ k∈ms,(M.getD (Int.toNat k) default).place<=p/\stHi M ms p=(M.getD (Int.toNat k) default).hi:=(hi_fold ms 2000).2.2
end
/-- Marks that are true together. -/
def Tog (M:List Mrk) (ms:List Int):Prop:=∀ a∈ms,∀ b∈ms,¬((M.getD (Int.toNat a) default).place<=(M.getD (Int.toNat b) default).place/\(M.getD (Int.toNat a) default).hi<(M.getD (Int.toNat b) default).lo)
def Ixs (M:List Mrk) (ms:List Int):Prop:=∀ k∈ms,0<=k/\k<M.length
section
variable (S:List Sect) (M:List Mrk) (ms:List Int) (r:Rch)
def pu:Int:=(S.getD (Int.toNat r.up) default).place
def hc (x:Int):Cas:=⟨stHi M ms (pu S r),x,r.lo,r.lo⟩
end
section
variable {S:List Sect} {M:List Mrk} {ms:List Int} {r:Rch}
end
end Fl
end Go.Nm
namespace Go.Proofs.YtbgoclcmgbpckabGreat
open Go Go.Nm
section
variable {S:List Sect} {M':List Mrk} {R':List Rch} {ms:List Int} {r:Rch}
end
end Go.Proofs.YtbgoclcmgbpckabGreat
-- libD/GE.lean
namespace Go.Nm
namespace Fl
theorem Rows.cle {l:List FRow} (h:Rows l) {i j:Nat} (hij:i<=j) (hj:j<l.length):(l.getD i default).carry<=(l.getD j default).carry:=by
  induction j with
  | zero=>rw [show i=0 by omega]; exact Int.le_refl _
  | succ j ih =>
    rcases Nat.lt_or_eq_of_le hij with e | rfl
    · have:=ih (by omega) (by omega);have:=h.cm j hj;omega
    · exact Int.le_refl _
/-- Marks, one behind the other. -/
def Inc (M:List Mrk) (ms:List Int):Prop:=ms.Pairwise (· < ·)/\Ixs M ms
end Fl
end Go.Nm
namespace Go.Proofs.YtbgoclcmgbpckabGreat
open Go Go.Nm
theorem in_true {n a b:Int} (h1:a<=n) (h2:n<=b):(zaf n a b).Ends true:=by
  have:(zaf n a b).Ends (decide (a<=n)&&decide (n<=b)):=M.i_pure
  rwa [gA2 h1 h2] at this
theorem every_sect (l:List Sect) (so:Sect->M Bool) (h:∀ t∈l,(so t).Ends true):(zbJ l so).Ends true:=by
  unfold zbJ zda zdE;refine M.i_bind (a:=false) (M.i_bind (a:=-1) (M.i_bind (a:=(.inr ():Int ⊕ Unit)) ?_ M.i_pure) M.i_pure) M.i_pure;refine M.i_for (fun i=>i) l.length (fun i hi=>?_) ?_
  · simp only [zcf];have hm:l.getD i default∈l:=by rw [getD_el l hi]; exact List.getElem_mem hi
    refine M.i_t (decide_eq_true (by omega)) (M.i_grd (decide_eq_true (by omega)) (M.i_bind (a:=false) ?_ (M.i_f rfl M.i_pure)));unfold zcp;exact M.i_bind (h _ hm) M.i_pure
  · simp only [zcf];exact M.i_f (decide_eq_false (by omega)) M.i_pure
theorem every_mark (l:List Mrk) (so:Mrk->M Bool) (h:∀ t∈l,(so t).Ends true):(zbE l so).Ends true:=by
  unfold zbE zdz zdl;refine M.i_bind (a:=false) (M.i_bind (a:=-1) (M.i_bind (a:=(.inr ():Int ⊕ Unit)) ?_ M.i_pure) M.i_pure) M.i_pure;refine M.i_for (fun i=>i) l.length (fun i hi=>?_) ?_
  · simp only [zcW];have hm:l.getD i default∈l:=by rw [getD_el l hi]; exact List.getElem_mem hi
    refine M.i_t (decide_eq_true (by omega)) (M.i_grd (decide_eq_true (by omega)) (M.i_bind (a:=false) ?_ (M.i_f rfl M.i_pure)));unfold zcv;exact M.i_bind (h _ hm) M.i_pure
  · simp only [zcW];exact M.i_f (decide_eq_false (by omega)) M.i_pure
theorem every_reach (l:List Rch) (so:Rch->M Bool) (h:∀ t∈l,(so t).Ends true):(zck l so).Ends true:=by
  unfold zck zdy zdD;refine M.i_bind (a:=false) (M.i_bind (a:=-1) (M.i_bind (a:=(.inr ():Int ⊕ Unit)) ?_ M.i_pure) M.i_pure) M.i_pure;refine M.i_for (fun i=>i) l.length (fun i hi=>?_) ?_
  · simp only [zbF];have hm:l.getD i default∈l:=by rw [getD_el l hi]; exact List.getElem_mem hi
    refine M.i_t (decide_eq_true (by omega)) (M.i_grd (decide_eq_true (by omega)) (M.i_bind (a:=false) ?_ (M.i_f rfl M.i_pure)));unfold zce;exact M.i_bind (h _ hm) M.i_pure
  · simp only [zbF];exact M.i_f (decide_eq_false (by omega)) M.i_pure
theorem fevery_int (l:List Int) (so:Int->M Bool) (h:∀ t∈l,(so t).Ends true):(za2 l so).Ends true:=by
  unfold za2 zaD zay;refine M.i_bind (a:=false) (M.i_bind (a:=-1) (M.i_bind (a:=(.inr ():Int ⊕ Unit)) ?_ M.i_pure) M.i_pure) M.i_pure;refine M.i_for (fun i=>i) l.length (fun i hi=>?_) ?_
  · simp only [zaP];have hm:l.getD i 0∈l:=by rw [getD_el l hi]; exact List.getElem_mem hi
    refine M.i_t (decide_eq_true (by omega)) (M.i_grd (decide_eq_true (by omega)) (M.i_bind (a:=false) ?_ (M.i_f rfl M.i_pure)));unfold zcA;exact M.i_bind (h _ hm) M.i_pure
  · simp only [zaP];exact M.i_f (decide_eq_false (by omega)) M.i_pure
theorem sright_ends {x:Sect} (hr:Fl.Rows x.rows) (h0:0<=x.place) (h1:x.place<=10000):(zcN x).Ends true:=by
  refine M.Out.ends ?_;unfold zcN;refine M.o_bind (P:=fun z=>match z with | .inl _=>False | .inr (_:Int × Int)=>True) ?_ ?_
  · refine M.o_for x.rows.length (fun i (s:Int × Int × Nat)=>s.2.2=i/\-1<=s.1/\s.1<=2000/\(∀ j,i<=j->j<x.rows.length->s.1<(x.rows.getD j default).stage)/\∀ j,i<=j->j<x.rows.length->s.2.1<=(x.rows.getD j default).carry) ?_ ?_ (s:=(-1,0,0)) ⟨rfl,by decide,by decide,fun j _ hj=>by have:=hr.el j hj; dsimp only; omega,fun j _ hj=>by have:=hr.el j hj; dsimp only; omega⟩
    · rintro i ⟨a,b,_⟩ hi ⟨rfl,h2,h3,h4,h5⟩;dsimp only at hi h2 h3 h4 h5 ⊢;have e:=hr.el _ hi;have k1:=h4 _ (Nat.le_refl _) hi;have k2:=h5 _ (Nat.le_refl _) hi;simp only [zcx];refine M.o_t (decide_eq_true (by omega)) (M.o_grd (decide_eq_true (by omega)) (M.o_grd (gA2 (by omega) (by omega)) (M.o_bindE (in_true (by omega) (by omega)) (M.o_bindE (M.i_opt (fun _=>in_true (by omega) (by omega)) (fun h=>by cases h)) (M.o_f rfl (M.o_pure ⟨rfl,by dsimp only; omega,by dsimp only; omega,fun j hj hj'=>hr.lt hj hj',fun j hj hj'=>hr.cle (by omega) hj'⟩))))))
    · rintro ⟨a,b,_⟩ ⟨rfl,_⟩;simp only [zcx];exact M.o_f (decide_eq_false (by omega)) (M.o_pure trivial)
  · intro z hz;cases z with
    | inl _=>exact hz.elim
    | inr _=>exact M.o_bindE (in_true h0 h1) (M.o_pure rfl)
theorem mright_ends {m:Mrk} (h:Fl.Mok m):(zbi m).Ends true:=by
  obtain ⟨h1,h2,h3,h4,h5⟩:=h;unfold zbi zbq;exact M.i_bind (in_true h1 h2) (M.i_bind (M.i_opt (fun _=>M.i_bind (in_true h3 (by dsimp only; omega)) (M.i_bind (M.i_opt (fun _=>in_true h4 h5) (fun h=>by cases h)) M.i_pure)) (fun h=>by cases h)) M.i_pure)
theorem rright_ends {S:List Sect} {r:Rch} (hn:S.length<=6) (h:Fl.Rok S r):(zb1 r (S.length:Int)).Ends true:=by
  obtain ⟨h1,h2,h3,h4,h5,h6⟩:=h;unfold zb1 zbq;refine M.i_grd (gA2 (by omega) (by omega)) (M.i_bind (in_true h1 (by omega)) (M.i_grd (gOr2 (by omega) (by omega)) (M.i_bind (M.i_opt (fun _=>in_true (by omega) (by omega)) (fun h=>by cases h)) (M.i_bind (M.i_opt (fun _=>M.i_bind (in_true h4 (by dsimp only; omega)) (M.i_bind (M.i_opt (fun _=>in_true h5 h6) (fun h=>by cases h)) M.i_pure)) (fun h=>by cases h)) M.i_pure))))
section
variable {S:List Sect} {M':List Mrk} {R':List Rch} {ms:List Int} {r:Rch}
theorem fcheck_ends (h:Fl.Site S M' R'):(zcu S M' R').Ends 0:=by
  obtain ⟨hS,hm,hr,hmk,hrk⟩:=h;obtain ⟨hn,hrows,hpl,hup⟩:=hS;unfold zcu;refine M.i_bind (in_true (by omega) (by omega)) (M.i_bind (M.i_opt (fun _=>in_true (by omega) (by omega)) (fun h=>by cases h)) (M.i_bind (M.i_opt (fun _=>in_true (by omega) (by omega)) (fun h=>by cases h)) (M.i_bind (M.i_opt (fun _=>every_sect _ _ fun x hx=>?_) (fun h=>by cases h)) (M.i_f rfl ?_))))
  · obtain ⟨i,hi,rfl⟩:=mem_getD hx default;unfold zcq;have:=hrows i hi;exact M.i_bind (in_true (by omega) (by omega)) M.i_pure
  · refine M.Out.ends (M.o_bind (P:=fun z=>match z with | .inl _=>False | .inr (_:Unit)=>True) ?_ ?_)
    · refine M.o_for S.length (fun i (s:Int × Nat)=>s.2=i/\∀ j,i<=j->j<S.length->s.1<(S.getD j default).place) ?_ ?_ (s:=(-1,0)) ⟨rfl,fun j _ hj=>by have:=hpl j hj; dsimp only; omega⟩
      · rintro i ⟨a,_⟩ hi ⟨rfl,h2⟩;dsimp only at hi h2 ⊢;have e:=hpl _ hi;have k1:=h2 _ (Nat.le_refl _) hi;simp only [zc1];exact M.o_t (decide_eq_true (by omega)) (M.o_grd (decide_eq_true (by omega)) (M.o_bindE (sright_ends (hrows _ hi).1 e.1 e.2) (M.o_f (decide_eq_false (p:=(S.getD _ default).place<=a) (by omega)) (M.o_pure ⟨rfl,fun j hj hj'=>hup _ _ hj hj'⟩))))
      · rintro ⟨a,_⟩ ⟨rfl,_⟩;simp only [zc1];exact M.o_f (decide_eq_false (by omega)) (M.o_pure trivial)
    · intro z hz;cases z with
      | inl _=>exact hz.elim
      | inr _ =>
        refine M.o_bindE (every_mark _ _ fun x hx=>mright_ends (hmk x hx)) (M.o_bindE (M.i_opt (fun _=>every_reach _ _ fun x hx=>?_) (fun h=>by cases h)) (M.o_f rfl (M.o_pure rfl)));unfold zcP;exact M.i_bind (rright_ends hn.2 (hrk x hx)) M.i_pure
theorem opened_ends (h:Fl.Site S M' R'):(zcV S M' R').Ends (.inr 0):=by
  unfold zcV;exact M.i_bind (fcheck_ends h) (M.i_f rfl M.i_pure)
theorem chosen_ends (h:Fl.Site S M' R') (hc:Fl.Inc M' ms):(zbG S M' R' ms).Ends (.inr 0):=by
  unfold zbG;refine M.i_bind (opened_ends h) (M.i_bind (a:=0) (M.Out.ends ?_) M.i_pure);have hm:=h.m;refine M.o_for ms.length (fun i (s:Int × Int × Nat)=>s.1=0/\s.2.2=i/\-1<=s.2.1/\s.2.1<=16/\∀ j,i<=j->j<ms.length->s.2.1<ms.getD j 0) ?_ ?_ (s:=(0,-1,0)) ⟨rfl,rfl,by decide,by decide,fun j _ hj=>by have:=hc.2 (ms.getD j 0) (by rw [getD_el ms hj]; exact List.getElem_mem hj); dsimp only; omega⟩
  · rintro i ⟨_,a,_⟩ hi ⟨rfl,rfl,h2,h3,h4⟩;dsimp only at hi h2 h3 h4 ⊢;have e:=hc.2 (ms.getD _ 0) (by rw [getD_el ms hi]; exact List.getElem_mem hi);have k1:=h4 _ (Nat.le_refl _) hi;simp only [zcT];refine M.o_t (decide_eq_true (by omega)) (M.o_grd (decide_eq_true (by omega)) (M.o_grd (gOr2 (by omega) (by omega)) (M.o_bindE (M.i_opt (fun _=>in_true (by omega) (by omega)) (fun h=>by cases h)) (M.o_f rfl (M.o_pure ⟨rfl,rfl,by dsimp only; omega,by dsimp only; omega,fun j hj hj'=>?_⟩)))));rw [getD_el ms hi,getD_el ms hj'];exact List.pairwise_iff_getElem.1 hc.1 _ _ hi hj' hj
  · rintro ⟨_,a,_⟩ ⟨rfl,rfl,_⟩;simp only [zcT];exact M.o_f (decide_eq_false (by omega)) (M.o_pure rfl)
theorem fahead_ends {a b:Int} (ha:0<=a/\a<M'.length) (hb:0<=b/\b<M'.length) :
    (zba S M' R' a b).Ends (decide ((M'.getD (Int.toNat a) default).place<=(M'.getD (Int.toNat b) default).place)&&decide ((M'.getD (Int.toNat a) default).hi<(M'.getD (Int.toNat b) default).lo)):=by
  unfold zba;exact M.i_grd (gA2 ha.1 ha.2) (M.i_grd (gA2 hb.1 hb.2) M.i_pure)
theorem ahead_false {a b:Int} (hx:Fl.Ixs M' ms) (ht:Fl.Tog M' ms) (ha:a∈ms) (hb:b∈ms):(zba S M' R' a b).Ends false:=by
  have:=fahead_ends (S:=S) (R':=R') (hx a ha) (hx b hb)
  rwa [show (decide ((M'.getD (Int.toNat a) default).place<=(M'.getD (Int.toNat b) default).place)&&decide ((M'.getD (Int.toNat a) default).hi<(M'.getD (Int.toNat b) default).lo))=false by
    rw [Bool.and_eq_false_iff,decide_eq_false_iff_not,decide_eq_false_iff_not];have:=ht a ha b hb;omega] at this
theorem together_ends (hx:Fl.Ixs M' ms) (ht:Fl.Tog M' ms):(zcM S M' R' ms).Ends true:=by
  unfold zcM;refine M.i_bind (fevery_int _ _ fun a ha=>?_) M.i_pure;unfold zcm;refine M.i_bind (fevery_int _ _ fun b hb=>?_) M.i_pure;unfold zcz;exact M.i_bind (ahead_false hx ht ha hb) M.i_pure
end
end Go.Proofs.YtbgoclcmgbpckabGreat
-- libD/GF.lean
namespace Go.Nm
namespace Fl
def surf (S:List Sect) (M:List Mrk) (ms:List Int):List Span:=(List.range S.length).map fun i=>⟨stLo M ms (S.getD i default).place,stHi M ms (S.getD i default).place⟩
theorem surf_len (S:List Sect) (M:List Mrk) (ms:List Int):(surf S M ms).length=S.length:=by simp [surf]
theorem surf_at {S:List Sect} {M:List Mrk} {ms:List Int} {i:Nat} (h:i<S.length):(surf S M ms).getD i default=⟨stLo M ms (S.getD i default).place,stHi M ms (S.getD i default).place⟩:=by
  rw [getD_el _ (by rw [surf_len]; exact h)];simp [surf]
end Fl
end Go.Nm
namespace Go.Proofs.YtbgoclcmgbpckabGreat
open Go Go.Nm
section
variable {S:List Sect} {M':List Mrk} {R':List Rch} {ms:List Int} {r:Rch}
theorem Surface_ends (h:Fl.Site S M' R') (hc:Fl.Inc M' ms) (ht:Fl.Tog M' ms):(zca S M' R' ms).Ends (Fl.surf S M' ms,0):=by
  have hn:=h.s.n;unfold zca;refine M.i_bind (chosen_ends h hc) (M.i_f rfl (M.i_bind (together_ends hc.2 ht) (M.i_f rfl (M.i_bind (a:=(Fl.surf S M' ms,Fl.surf S M' ms)) ?_ M.i_pure))));refine M.i_for (fun i=>(i,(List.range i).map fun i=>(⟨Fl.stLo M' ms (S.getD i default).place,Fl.stHi M' ms (S.getD i default).place⟩:Span))) S.length (fun i hi=>?_) ?_
  · simp only [zc4];refine M.i_t (decide_eq_true (by omega)) (M.i_bind (stages_ends hc.2 (by omega) (by omega)) (M.i_grd (decide_eq_true ?_) ?_))
    · simp; omega
    · rw [List.range_succ,List.map_append,Int.toNat_natCast];exact M.i_pure
  · simp only [zc4];exact M.i_f (decide_eq_false (by omega)) M.i_pure
end
end Go.Proofs.YtbgoclcmgbpckabGreat
-- libD/GM.lean
namespace Go.Nm
namespace Fl
def ints (n:Nat):List Int:=(List.range n).map fun i:Nat=>(i:Int)
theorem ints_len (n:Nat):(ints n).length=n:=by simp [ints]
theorem ints_succ (n:Nat):ints (n+1)=ints n++[(n:Int)]:=by unfold ints; rw [List.range_succ,List.map_append]; rfl
end Fl
end Go.Nm
namespace Go.Proofs.YtbgoclcmgbpckabGreat
open Go Go.Nm
section
variable {S:List Sect} {M':List Mrk} {R':List Rch}
end
end Go.Proofs.YtbgoclcmgbpckabGreat
-- libD/GT.lean
namespace Go.Nm
namespace Fl
theorem Rows.snoc:∀ {l:List FRow} {a:FRow},Rows l->(∀ e∈l,e.stage<a.stage/\e.carry<=a.carry)->0<=a.stage->a.stage<=2000->0<=a.carry->a.carry<=100000->Rows (l++[a])
  | [],_,_,_,h1,h2,h3,h4=>⟨h1,h2,h3,h4⟩
  | [b],a,h,he,h1,h2,h3,h4=>by
    have:=he b (by simp);exact ⟨h.1,this.1,h.2.2.1,this.2,h1,h2,h3,h4⟩
  | b :: c :: r,a,h,he,h1,h2,h3,h4=>by
    obtain ⟨k1,k2,k3,k4,k5⟩:=h;exact ⟨k1,k2,k3,k4,k5.snoc (fun e hh=>he e (by simp [List.mem_cons.1 hh])) h1 h2 h3 h4⟩
/-- A site with what really was: stages that fall downstream, marks about them, and roughness that is allowed. -/
structure Truth (S:List Sect) (M:List Mrk) (R:List Rch) (t ro:List Int):Prop where
  site:Site S M R
  m8:M.length<=8
  tl:t.length=S.length
  rl:ro.length=S.length
  tr:∀ i,i<S.length->0<=t.getD i 0/\t.getD i 0<=400
  td:∀ i j,i<=j->j<S.length->t.getD j 0<=t.getD i 0
  gap:∀ i j,i<j->j<S.length->(S.getD i default).place+21<=(S.getD j default).place
  mt:∀ m∈M,∃ j,j<S.length/\(S.getD j default).place<=m.place/\m.place<=(S.getD j default).place+19/\m.lo<=t.getD j 0/\t.getD j 0<=m.hi
  ro0:∀ i,i<S.length->1<=ro.getD i 0/\ro.getD i 0<=400
  rt:∀ r∈R,r.lo<=ro.getD (Int.toNat r.up) 0/\r.lo<=ro.getD (Int.toNat r.down) 0/\ro.getD (Int.toNat r.up) 0<=r.hi/\ro.getD (Int.toNat r.down) 0<=r.hi
section
variable {S:List Sect} {M:List Mrk} {R:List Rch} {t ro:List Int} {ms:List Int}
theorem Truth.no (h:Truth S M R t ro) {a b:Mrk} (ha:a∈M) (hb:b∈M):¬(a.place<=b.place/\a.hi<b.lo):=by
  rintro ⟨h1,h2⟩;obtain ⟨i,i1,i2,i3,i4,i5⟩:=h.mt a ha;obtain ⟨j,j1,j2,j3,j4,j5⟩:=h.mt b hb;by_cases e:i<=j
  · have:=h.td i j e j1;omega
  · have:=h.gap j i (by omega) i1;omega
theorem Truth.tog (h:Truth S M R t ro) (hx:Ixs M ms):Tog M ms:=fun a ha b hb=>by
  have h1:=hx a ha;have h2:=hx b hb;have l1:Int.toNat a<M.length:=by omega
  have l2:Int.toNat b<M.length:=by omega
  rw [getD_el M l1,getD_el M l2];exact h.no (List.getElem_mem l1) (List.getElem_mem l2)
/-- The stage that really was lies between what the marks leave. -/
theorem Truth.bet (h:Truth S M R t ro) (hx:Ixs M ms) {i:Nat} (hi:i<S.length):stLo M ms (S.getD i default).place<=t.getD i 0/\t.getD i 0<=stHi M ms (S.getD i default).place:=by
  have key:∀ k∈ms,∃ j,j<S.length/\(S.getD j default).place<=(M.getD (Int.toNat k) default).place/\(M.getD (Int.toNat k) default).place<=(S.getD j default).place+19/\(M.getD (Int.toNat k) default).lo<=t.getD j 0/\t.getD j 0<=(M.getD (Int.toNat k) default).hi:=fun k hk=>by
    have h1:=hx k hk;have l1:Int.toNat k<M.length:=by omega
    rw [getD_el M l1];exact h.mt _ (List.getElem_mem l1)
  have ht:=h.tr i hi;constructor
  · rcases stLo_ex (M:=M) (p:=(S.getD i default).place) ms with e | ⟨k,hk,hp,e⟩
    · omega
    · obtain ⟨j,j1,j2,j3,j4,j5⟩:=key k hk;by_cases c:i<=j
      · have:=h.td i j c j1;omega
      · have:=h.gap j i (by omega) hi;omega
  · rcases stHi_ex (M:=M) (p:=(S.getD i default).place) ms with e | ⟨k,hk,hp,e⟩
    · omega
    · obtain ⟨j,j1,j2,j3,j4,j5⟩:=key k hk;by_cases c:j<=i
      · have:=h.td j i c hi;omega
      · have:=h.gap i j (by omega) j1;omega
end
end Fl
end Go.Nm
-- libD/GS.lean
namespace Go.Nm
namespace Fl
theorem getD_app {α:Type} {l:List α} {x d:α} {j:Nat} (h:j<l.length):(l++[x]).getD j d=l.getD j d:=by
  simp [List.getD,List.getElem?_append_left h]
theorem getD_appE {α:Type} {l:List α} {x d:α} {j:Nat} (h:l.length=j):(l++[x]).getD j d=x:=by
  subst h;simp [List.getD]
/-- A mark about what was. -/
def Mt (S:List Sect) (t:List Int) (m:Mrk):Prop:=Mok m/\∃ j,j<S.length/\(S.getD j default).place<=m.place/\m.place<=(S.getD j default).place+19/\m.lo<=t.getD j 0/\t.getD j 0<=m.hi
/-- What is made so far. -/
structure Mi (S:List Sect) (M:List Mrk) (t ro:List Int) (place stage:Int):Prop where
  tl:t.length=S.length
  rl:ro.length=S.length
  rows:∀ j,j<S.length->Rows (S.getD j default).rows/\2<=(S.getD j default).rows.length/\(S.getD j default).rows.length<=8
  pl:∀ j,j<S.length->0<=(S.getD j default).place/\(S.getD j default).place+21<=place
  gap:∀ i j,i<j->j<S.length->(S.getD i default).place+21<=(S.getD j default).place
  tr:∀ j,j<S.length->stage<=t.getD j 0/\t.getD j 0<=400
  td:∀ i j,i<=j->j<S.length->t.getD j 0<=t.getD i 0
  mt:∀ m∈M,Mt S t m
  m8:M.length<=8
  ro0:∀ j,j<S.length->30<=ro.getD j 0/\ro.getD j 0<=90
  p0:0<=place
  p1:place<=50+200*S.length
  s0:100<=stage+19*S.length
  s1:stage<=400
theorem Mt.app {S:List Sect} {t:List Int} {m:Mrk} {s:Sect} {v:Int} (hl:t.length=S.length) (h:Mt S t m):Mt (S++[s]) (t++[v]) m:=by
  obtain ⟨h0,j,h1,h2⟩:=h;refine ⟨h0,j,by simp; omega,?_⟩;rw [getD_app h1,getD_app (by omega)];exact h2
theorem Mi.step {S:List Sect} {M M':List Mrk} {t ro:List Int} {place stage p q r:Int} {rows:List FRow} (h:Mi S M t ro place stage) (hr:Rows rows) (h2:2<=rows.length) (h8:rows.length<=8) (hm:∀ m∈M',Mt (S++[⟨place,rows⟩]) (t++[stage]) m) (m8:M'.length<=8)
    (hp:21<=p/\p<=200) (hq:0<=q/\q<=19) (hro:30<=r/\r<=90):Mi (S++[⟨place,rows⟩]) M' (t++[stage]) (ro++[r]) (place+p) (stage-q):=by
  have e1:=h.tl;have e2:=h.rl;have p0:=h.p0;have p1:=h.p1;have s0:=h.s0;have s1:=h.s1;have split:∀ j,j<(S++[(⟨place,rows⟩:Sect)]).length->j<S.length∨j=S.length:=fun j hj=>by simp at hj; omega
  refine ⟨by simp [e1],by simp [e2],fun j hj=>?_,fun j hj=>?_,fun i j hij hj=>?_,fun j hj=>?_,fun i j hij hj=>?_,hm,m8,fun j hj=>?_,by omega,by simp; omega,by simp; omega,by omega⟩
  · rcases split j hj with e | rfl
    · rw [getD_app e]; exact h.rows j e
    · rw [getD_appE rfl]; exact ⟨hr,h2,h8⟩
  · rcases split j hj with e | rfl
    · rw [getD_app e]; have:=h.pl j e; omega
    · rw [getD_appE rfl]; dsimp only; omega
  · rcases split j hj with e | rfl
    · rw [getD_app e,getD_app (by omega)]; exact h.gap i j hij e
    · rw [getD_appE rfl,getD_app hij]; exact (h.pl i hij).2
  · rcases split j hj with e | rfl
    · rw [getD_app (by omega)]; have:=h.tr j e; omega
    · rw [getD_appE e1]; omega
  · rcases split j hj with e | rfl
    · rw [getD_app (by omega),getD_app (by omega)]; exact h.td i j hij e
    · rw [getD_appE e1];rcases Nat.lt_or_eq_of_le hij with e | rfl
      · rw [getD_app (by omega)]; exact (h.tr i e).1
      · rw [getD_appE e1]; exact Int.le_refl _
  · rcases split j hj with e | rfl
    · rw [getD_app (by omega)]; exact h.ro0 j e
    · rw [getD_appE e2]; exact hro
end Fl
end Go.Nm
namespace Go.Proofs.YtbgoclcmgbpckabGreat
open Go Go.Nm
theorem b6_out {b:List UInt8} {c u x a0 c0 K:Int} (hS:SOk c u x) (hc:c<=100000) (ha:0<=a0/\a0<=60) (hc0:0<=c0/\c0<=50) (hK:2<=K/\K<=4) :
    (M.iter (zcF b) (u,x,a0,c0,K,[])).Out (fun z=>SOk (c+10) z.1 z.2.1/\Fl.Rows z.2.2.2/\2<=z.2.2.2.length/\z.2.2.2.length<=8):=by
  refine M.o_iter (fun m (s:Int × Int × Int × Int × Int × List FRow)=>m=s.2.2.2.2.1.toNat/\0<=s.2.2.2.2.1/\s.2.2.2.2.1+s.2.2.2.2.2.length=K/\SOk (c+2*s.2.2.2.2.2.length) s.1 s.2.1/\Fl.Rows s.2.2.2.2.2/\(∀ e∈s.2.2.2.2.2,e.stage<s.2.2.1/\e.carry<=s.2.2.2.1)/\0<=s.2.2.1/\s.2.2.1<=60+200*s.2.2.2.2.2.length/\0<=s.2.2.2.1/\s.2.2.2.1<=50+2000*s.2.2.2.2.2.length) ?_ _ (u,x,a0,c0,K,[]) ⟨rfl,by dsimp only; omega,by simp,by simpa using hS,trivial,fun e he=>(List.not_mem_nil he).elim,ha.1,by simp; omega,hc0.1,by simp; omega⟩;rintro m ⟨u,x,a,ca,k,l⟩ ⟨rfl,k0,kl,hS,hr,he,a1,a2,c1,c2⟩;dsimp only at k0 kl hS hr he a1 a2 c1 c2 ⊢;simp only [zcF];refine M.o_if (fun hb=>?_) (fun hb=>?_)
  · have hb:=of_decide_eq_true hb;refine M.o_grd (decide_eq_true (by simp; omega)) (M.o_bind (within_out hS (by omega) (by omega) (by omega) (by omega)) ?_);rintro ⟨r8,u8,x8⟩ ⟨k8,g8,g8'⟩;dsimp only at k8 g8 g8' ⊢;refine M.o_grd (gA2 (by omega) (by omega)) (M.o_bind (next_out k8 (by omega) (by omega)) ?_);rintro ⟨r9,u9,x9⟩ ⟨k9,g9,_⟩;have g9:=g9 (by omega);dsimp only at k9 g9 ⊢;refine M.o_grd (gA2 (by omega) (by omega)) (M.o_grd (gA2 (by omega) (by omega)) (M.o_pure ⟨(k-1).toNat,by omega,rfl,by dsimp only; omega,by simp; omega,k9.mono (by simp; omega),hr.snoc he a1 (by dsimp only; omega) c1 (by dsimp only; omega),fun e h=>?_,by dsimp only; omega,by simp; omega,by dsimp only; omega,by simp; omega⟩));rcases List.mem_append.1 h with h | h
    · have:=he e h;dsimp only;omega
    · rw [List.mem_singleton] at h;subst h;dsimp only;omega
  · have hb:=of_decide_eq_false hb;exact M.o_pure ⟨hS.mono (by omega),hr,by dsimp only; omega,by dsimp only; omega⟩
theorem b7_out {b:List UInt8} {c u x place stage k:Int} (P:Mrk->Prop) (hP:∀ d e f:Int,0<=d->d<=19->0<=e->e<=8->0<=f->f<=8->P ⟨place+d,max 0 (stage-e),stage+f⟩) (hS:SOk c u x) (hc:c<=100000) (hk:0<=k/\k<=2) (hp:0<=place/\place<=10000) (hs:0<=stage/\stage<=1000) {l:List Mrk} (hl:l.length<=8) (h0:∀ m∈l,P m) :
    (M.iter (zcj b 8 false place stage) (u,x,k,l)).Out (fun z=>SOk (c+8) z.1 z.2.1/\(∀ m∈z.2.2.2,P m)/\z.2.2.2.length<=8):=by
  refine M.o_iter (fun m (s:Int × Int × Int × List Mrk)=>m=s.2.2.1.toNat/\0<=s.2.2.1/\s.2.2.1<=2/\SOk (c+4*(2-s.2.2.1)) s.1 s.2.1/\(∀ m∈s.2.2.2,P m)/\s.2.2.2.length<=8) ?_ _ (u,x,k,l) ⟨rfl,hk.1,hk.2,hS.mono (by dsimp only; omega),h0,hl⟩;rintro m ⟨u,x,k,l⟩ ⟨rfl,k0,k2,hS,hm,h8⟩;dsimp only at k0 k2 hS hm h8 ⊢;simp only [zcj];refine M.o_if (fun hb=>?_) (fun hb=>?_)
  · rw [Bool.and_eq_true,decide_eq_true_eq,decide_eq_true_eq] at hb;refine M.o_bind (next_out hS (by omega) (by omega)) ?_;rintro ⟨r1,u1,x1⟩ ⟨k1,g1,_⟩;have g1:=g1 (by omega);dsimp only at k1 g1 ⊢;refine M.o_bind (next_out k1 (by omega) (by omega)) ?_;rintro ⟨r2,u2,x2⟩ ⟨kk2,g2,_⟩;have g2:=g2 (by omega);dsimp only at kk2 g2 ⊢;have hd:0<=r1*r2/\r1*r2<=19:=by
      rcases (by omega:r1=0∨r1=1) with rfl | rfl
      · simp
      · simp; omega
    generalize r1*r2=d at hd ⊢;refine M.o_grd (gA2 (by omega) (by omega)) (M.o_grd (gA2 (by omega) (by omega)) (M.o_bind (next_out kk2 (by omega) (by omega)) ?_));rintro ⟨r3,u3,x3⟩ ⟨k3,g3,_⟩;have g3:=g3 (by omega);dsimp only at k3 g3 ⊢;refine M.o_grd (gA2 (by omega) (by omega)) (M.o_bind (next_out k3 (by omega) (by omega)) ?_);rintro ⟨r4,u4,x4⟩ ⟨k4,g4,_⟩;have g4:=g4 (by omega);dsimp only at k4 g4 ⊢;refine M.o_grd (gA2 (by omega) (by omega)) (M.o_f rfl (M.o_grd (decide_eq_true (by simp; omega)) (M.o_grd (gA2 (by omega) (by omega)) (M.o_pure ⟨(k-1).toNat,by omega,rfl,by dsimp only; omega,by dsimp only; omega,k4.mono (by dsimp only; omega),fun m h=>?_,by simp; omega⟩))));rcases List.mem_append.1 h with h | h
    · exact hm m h
    · rw [List.mem_singleton] at h;subst h;exact hP _ _ _ hd.1 hd.2 (by omega) (by omega) (by omega) (by omega)
  · exact M.o_pure ⟨hS.mono (by omega),hm,h8⟩
end Go.Proofs.YtbgoclcmgbpckabGreat
-- libD/GU.lean
namespace Go.Proofs.YtbgoclcmgbpckabGreat
open Go Go.Nm
theorem b9_out {b:List UInt8} {u x p s N:Int} (hS:SOk 3 u x) (hp:0<=p/\p<=50) (hs:100<=s/\s<=400) (hN:2<=N/\N<=5) :
    (M.iter (zcl b 8 false) (u,x,p,s,N,[],[],[],[])).Out (fun z=>∃ S M t ro place stage,z=(z.1,z.2.1,S,M,t,ro,ro,t,M,S)/\SOk 1000 z.1 z.2.1/\Fl.Mi S M t ro place stage/\2<=S.length/\S.length<=5):=by
  refine M.o_iter (fun m (z:Int × Int × Int × Int × Int × List Sect × List Mrk × List Int × List Int)=>m=z.2.2.2.2.1.toNat/\0<=z.2.2.2.2.1/\z.2.2.2.2.1+z.2.2.2.2.2.1.length=N/\SOk (3+100*z.2.2.2.2.2.1.length) z.1 z.2.1/\Fl.Mi z.2.2.2.2.2.1 z.2.2.2.2.2.2.1 z.2.2.2.2.2.2.2.1 z.2.2.2.2.2.2.2.2 z.2.2.1 z.2.2.2.1) ?_ _ (u,x,p,s,N,[],[],[],[]) ⟨rfl,by dsimp only; omega,by simp,by simpa using hS,?_⟩
  · rintro m ⟨u,x,place,stage,n,S,M1,t,ro⟩ ⟨rfl,n0,nl,hS,h⟩;dsimp only at n0 nl hS h ⊢;simp only [zcl];have e1:=h.tl;have e2:=h.rl;have p0:=h.p0;have p1:=h.p1;have s0:=h.s0;have s1:=h.s1;refine M.o_if (fun hb=>?_) (fun hb=>?_)
    · have hb:=of_decide_eq_true hb;refine M.o_bind (next_out hS (by omega) (by omega)) ?_;rintro ⟨r5,u5,x5⟩ ⟨k5,g5,_⟩;have g5:=g5 (by omega);dsimp only at k5 g5 ⊢;refine M.o_bind (next_out k5 (by omega) (by omega)) ?_;rintro ⟨r6,u6,x6⟩ ⟨k6,g6,_⟩;have g6:=g6 (by omega);dsimp only at k6 g6 ⊢;refine M.o_bind (within_out k6 (by omega) (by omega) (by omega) (by omega)) ?_;rintro ⟨r7,u7,x7⟩ ⟨k7,g7,g7'⟩;dsimp only at k7 g7 g7' ⊢;refine M.o_bind (b6_out k7 (by omega) (by omega) (by omega) ⟨g7,g7'⟩) ?_;rintro ⟨u8,x8,l2,rows⟩ ⟨k8,hr,hr2,hr8⟩;dsimp only at k8 hr hr2 hr8 ⊢;refine M.o_grd (decide_eq_true (by simp; omega)) (M.o_grd (decide_eq_true (by simp; omega)) (M.o_bind (within_out k8 (by omega) (by omega) (by omega) (by omega)) ?_));rintro ⟨r10,u10,x10⟩ ⟨k10,g10,g10'⟩;dsimp only at k10 g10 g10' ⊢;refine M.o_grd (decide_eq_true (by simp; omega)) ?_;unfold zcZ;refine M.o_bind (next_out k10 (by omega) (by omega)) ?_;rintro ⟨r11,u11,x11⟩ ⟨k11,g11,_⟩;have g11:=g11 (by omega);dsimp only at k11 g11 ⊢;refine M.o_bind (b7_out (Fl.Mt (S++[⟨place,rows⟩]) (t++[stage])) (fun d e f d0 d1 e0 e1' f0 f1=>?_) k11 (by omega) (by omega) (by omega) (by omega) h.m8 (fun m hm=>(h.mt m hm).app e1)) ?_
      · refine ⟨⟨by dsimp only; omega,by dsimp only; omega,by dsimp only; omega,by dsimp only; omega,by dsimp only; omega⟩,S.length,by simp,?_⟩;rw [Fl.getD_appE rfl,Fl.getD_appE e1];dsimp only;omega
      rintro ⟨u12,x12,l5,M2⟩ ⟨k12,hm2,m8⟩;dsimp only at k12 hm2 m8 ⊢;refine M.o_bind (within_out k12 (by omega) (by omega) (by omega) (by omega)) ?_;rintro ⟨r19,u19,x19⟩ ⟨k19,g19,g19'⟩;dsimp only at k19 g19 g19' ⊢;refine M.o_grd (gA2 (by omega) (by omega)) (M.o_bind (next_out k19 (by omega) (by omega)) ?_);rintro ⟨r20,u20,x20⟩ ⟨k20,g20,_⟩;have g20:=g20 (by omega);dsimp only at k20 g20 ⊢;exact M.o_grd (gA2 (by omega) (by omega)) (M.o_grd (gA2 (by omega) (by omega)) (M.o_pure ⟨(n-1).toNat,by omega,rfl,by dsimp only; omega,by simp; omega,k20.mono (by simp; omega),h.step hr hr2 hr8 hm2 m8 ⟨g19,g19'⟩ (by omega) ⟨g10,g10'⟩⟩))
    · have hb:=of_decide_eq_false hb;exact M.o_pure ⟨S,M1,t,ro,place,stage,rfl,hS.mono (by omega),h,by omega,by omega⟩
  · refine ⟨rfl,rfl,fun j hj=>?_,fun j hj=>?_,fun i j _ hj=>?_,fun j hj=>?_,fun i j _ hj=>?_,fun m hm=>(List.not_mem_nil hm).elim,by simp,fun j hj=>?_,hp.1,by simp; omega,by simp; omega,hs.2⟩ <;> simp at hj
theorem b10_out {b:List UInt8} {u x N:Int} {S:List Sect} {ro:List Int} (hS:SOk 2000 u x) (hn:2<=S.length/\S.length<=5) (hl:ro.length=S.length) (hro:∀ j,j<S.length->30<=ro.getD j 0/\ro.getD j 0<=90) (hN:1<=N/\N<=4) :
    (M.iter (zbC b ro S) (u,x,N,[])).Out (fun z=>z.1=z.2.1/\1<=z.1.length/\z.1.length<=4/\∀ r∈z.1,Fl.Rok S r/\r.lo<=ro.getD (Int.toNat r.up) 0/\r.lo<=ro.getD (Int.toNat r.down) 0/\ro.getD (Int.toNat r.up) 0<=r.hi/\ro.getD (Int.toNat r.down) 0<=r.hi):=by
  refine M.o_iter (fun m (s:Int × Int × Int × List Rch)=>m=s.2.2.1.toNat/\0<=s.2.2.1/\s.2.2.1+s.2.2.2.length=N/\SOk (2000+10*s.2.2.2.length) s.1 s.2.1/\∀ r∈s.2.2.2,Fl.Rok S r/\r.lo<=ro.getD (Int.toNat r.up) 0/\r.lo<=ro.getD (Int.toNat r.down) 0/\ro.getD (Int.toNat r.up) 0<=r.hi/\ro.getD (Int.toNat r.down) 0<=r.hi) ?_ _ (u,x,N,[]) ⟨rfl,by dsimp only; omega,by simp,by simpa using hS,fun r hr=>(List.not_mem_nil hr).elim⟩;rintro m ⟨u,x,n,l⟩ ⟨rfl,n0,nl,hS,hr⟩;dsimp only at n0 nl hS hr ⊢;simp only [zbC];refine M.o_if (fun hb=>?_) (fun hb=>?_)
  · have hb:=of_decide_eq_true hb;refine M.o_bind (next_out hS (by omega) (by omega)) ?_;rintro ⟨a,u1,x1⟩ ⟨k1,g1,_⟩;have g1:=g1 (by omega);dsimp only at k1 g1 ⊢;refine M.o_bind (next_out k1 (by omega) (by omega)) ?_;rintro ⟨w,u2,x2⟩ ⟨k2,g2,_⟩;dsimp only at k2 ⊢;refine M.o_grd (gA2 (by omega) (by omega)) (M.o_bind (within_out k2 (by omega) (by omega) (by omega) (by omega)) ?_);rintro ⟨d,u3,x3⟩ ⟨k3,g3,g3'⟩;dsimp only at k3 g3 g3' ⊢;have ra:=hro (Int.toNat a) (by omega);have rb:=hro (Int.toNat (a+d)) (by omega);refine M.o_grd (gA2 (by omega) (by omega)) (M.o_grd (gA2 (by omega) (by omega)) (M.o_grd (gA2 (by omega) (by omega)) (M.o_bind (next_out k3 (by omega) (by omega)) ?_)));rintro ⟨e,u4,x4⟩ ⟨k4,g4,_⟩;have g4:=g4 (by omega);dsimp only at k4 g4 ⊢;refine M.o_grd (gA2 (by omega) (by omega)) (M.o_bind (next_out k4 (by omega) (by omega)) ?_);rintro ⟨f,u5,x5⟩ ⟨k5,g5,_⟩;have g5:=g5 (by omega);dsimp only at k5 g5 ⊢;refine M.o_grd (gA2 (by omega) (by omega)) (M.o_grd (decide_eq_true (by simp; omega)) (M.o_grd (gA2 (by omega) (by omega)) (M.o_pure ⟨(n-1).toNat,by omega,rfl,by dsimp only; omega,by simp; omega,k5.mono (by simp; omega),fun r h=>?_⟩)));rcases List.mem_append.1 h with h | h
    · exact hr r h
    · rw [List.mem_singleton] at h;subst h;dsimp only;exact ⟨⟨by dsimp only; omega,by dsimp only; omega,by dsimp only; omega,by dsimp only; omega,by dsimp only; omega,by dsimp only; omega⟩,by omega,by omega,by omega,by omega⟩
  · have hb:=of_decide_eq_false hb;exact M.o_pure ⟨rfl,by dsimp only; omega,by dsimp only; omega,hr⟩
theorem truth_of {S:List Sect} {M':List Mrk} {R:List Rch} {t ro:List Int} {place stage:Int} (h:Fl.Mi S M' t ro place stage) (hn:2<=S.length/\S.length<=5) (hm:1<=M'.length) (hr:1<=R.length/\R.length<=4)
    (hR:∀ r∈R,Fl.Rok S r/\r.lo<=ro.getD (Int.toNat r.up) 0/\r.lo<=ro.getD (Int.toNat r.down) 0/\ro.getD (Int.toNat r.up) 0<=r.hi/\ro.getD (Int.toNat r.down) 0<=r.hi):Fl.Truth S M' R t ro:=by
  have p1:=h.p1;have s0:=h.s0;have m8:=h.m8;refine ⟨⟨⟨by omega,h.rows,fun i hi=>?_,fun i j hij hj=>?_⟩,by omega,by omega,fun m hm=>(h.mt m hm).1,fun r hr=>(hR r hr).1⟩,h.m8,h.tl,h.rl,fun i hi=>?_,h.td,h.gap,fun m hm=>(h.mt m hm).2,fun i hi=>?_,fun r hr=>(hR r hr).2⟩
  · have:=h.pl i hi; omega
  · have:=h.gap i j hij hj; omega
  · have:=h.tr i hi; omega
  · have:=h.ro0 i hi; omega
theorem j11_out {b:List UInt8} {u x:Int} {S:List Sect} {M':List Mrk} {t ro:List Int} {place stage:Int} (h:Fl.Mi S M' t ro place stage) (hn:2<=S.length/\S.length<=5) (hm:1<=M'.length) (hS:SOk 1000 u x) :
    (zaE b u x ro t S M').Out (fun z=>Fl.Truth z.1 z.2.1 z.2.2.1 z.2.2.2.1 z.2.2.2.2.1):=by
  unfold zaE;refine M.o_bind (within_out hS (by omega) (by omega) (by omega) (by omega)) ?_;rintro ⟨r,u1,x1⟩ ⟨k1,g1,g1'⟩;dsimp only at k1 g1 g1' ⊢;refine M.o_bind (b10_out (k1.mono (by omega)) hn h.rl h.ro0 ⟨g1,g1'⟩) ?_;rintro ⟨l,l',u2,x2⟩ ⟨e,h1,h2,h3⟩;dsimp only at e h1 h2 h3 ⊢;subst e;exact M.o_pure (truth_of h hn hm ⟨h1,h2⟩ h3)
theorem Made_out {b:List UInt8}:(zbR b 0 0 8 false).Out (fun z=>Fl.Truth z.1 z.2.1 z.2.2.1 z.2.2.2.1 z.2.2.2.2.1):=by
  unfold zbR;refine M.o_bind (next_out SOk.zero (by omega) (by omega)) ?_;rintro ⟨r2,u1,x1⟩ ⟨k1,g1,_⟩;have g1:=g1 (by omega);dsimp only at k1 g1 ⊢;refine M.o_bind (within_out k1 (by omega) (by omega) (by omega) (by omega)) ?_;rintro ⟨r3,u2,x2⟩ ⟨k2,g2,g2'⟩;dsimp only at k2 g2 g2' ⊢;refine M.o_bind (within_out k2 (by omega) (by omega) (by omega) (by omega)) ?_;rintro ⟨r4,u3,x3⟩ ⟨k3,g3,g3'⟩;dsimp only at k3 g3 g3' ⊢;refine M.o_bind (b9_out (k3.mono (by omega)) (by omega) ⟨g2,g2'⟩ ⟨g3,g3'⟩) ?_;rintro ⟨u4,x4,z⟩ ⟨S,M',t,ro,place,stage,e,k4,h,n2,n5⟩;obtain rfl:=(Prod.mk.inj (Prod.mk.inj e).2).2;dsimp only at k4 ⊢;have p1:=h.p1;have s0:=h.s0;refine M.o_if (fun hb=>?_) (fun hb=>?_)
  · rw [beq_iff_eq] at hb;have hz:M'.length=0:=by omega
    have t0:=h.tr 0 (by omega);have p0:=h.pl 0 (by omega);have tl:=h.tl;refine M.o_grd (decide_eq_true (by omega)) (M.o_grd (decide_eq_true (by omega)) (M.o_grd (gA2 (by omega) (by omega)) (M.o_grd (gA2 (by omega) (by omega)) (M.o_grd (decide_eq_true (by simp; omega)) (j11_out (place:=place) (stage:=stage) ?_ ⟨n2,n5⟩ (by simp) k4)))));have hm:Fl.Mt S t ⟨(S.getD 0 default).place,t.getD 0 0-5,t.getD 0 0+5⟩:=⟨⟨by dsimp only; omega,by dsimp only; omega,by dsimp only; omega,by dsimp only; omega,by dsimp only; omega⟩,0,by omega,by dsimp only; omega⟩
    exact ⟨h.tl,h.rl,h.rows,h.pl,h.gap,h.tr,h.td,fun m hmm=>by
      rcases List.mem_append.1 hmm with hmm | hmm
      · exact h.mt m hmm
      · rw [List.mem_singleton] at hmm;subst hmm;exact hm,by simp; omega,h.ro0,h.p0,h.p1,h.s0,h.s1⟩
  · rw [beq_eq_false_iff_ne] at hb;exact j11_out h ⟨n2,n5⟩ (by omega) k4
end Go.Proofs.YtbgoclcmgbpckabGreat
-- libD/GP.lean
namespace Go.Nm
namespace Fl
section
variable {S:List Sect} {M:List Mrk} {R:List Rch} {t ro ms:List Int} {r:Rch}
theorem ints_ix (M:List Mrk):Ixs M (ints M.length):=fun k hk=>by
  unfold ints at hk;obtain ⟨i,hi,rfl⟩:=List.mem_map.1 hk;have:=List.mem_range.1 hi;omega
theorem ints_inc (M:List Mrk):Inc M (ints M.length):=by
  refine ⟨?_,ints_ix M⟩;unfold ints;rw [List.pairwise_map];exact List.Pairwise.imp (fun h=>by omega) List.pairwise_lt_range
end
end Fl
end Go.Nm
namespace Go.Proofs.YtbgoclcmgbpckabGreat
open Go Go.Nm
section
variable {S:List Sect} {M':List Mrk} {R':List Rch} {t ro:List Int}
end
end Go.Proofs.YtbgoclcmgbpckabGreat
-- libC/CLA.lean
namespace Go.Nm
namespace Ct
/-- A chart that is right, with a truth and the stops of its clock. -/
structure Rt (pl ph base sc off:Int) (ms:List CMk) (nt:List CNt) (ts ss st:List Int):Prop where
  n1:1<=ms.length
  n40:ms.length<=40
  tl:ts.length=ms.length
  sl:ss.length=ms.length
  p1:1<=pl
  p2:pl<=ph
  p3:ph<=600
  b:-1000000<=base/\base<=1000000
  s:0<=sc/\sc<=1000
  o:0<=off/\off<=1000
  m:∀ i,i<ms.length->(0<=(ms.getD i default).place/\(ms.getD i default).place<=10000)/\0<=(ms.getD i default).height/\(ms.getD i default).height<=1000
  up:∀ i,i+1<ms.length->(ms.getD i default).place<(ms.getD (i+1) default).place
  t:∀ i,i<ms.length->0<=ts.getD i 0/\ts.getD i 0<=1000000
  g:∀ i,i+1<ms.length->pl*((ms.getD (i+1) default).place-(ms.getD i default).place)<=ts.getD (i+1) 0-ts.getD i 0/\((i:Int)∈st∨ts.getD (i+1) 0-ts.getD i 0<=ph*((ms.getD (i+1) default).place-(ms.getD i default).place))
  h:∀ i,i<ms.length->base+sc*(ms.getD i default).height-off<=ss.getD i 0/\ss.getD i 0<=base+sc*(ms.getD i default).height+off
  n20:nt.length<=20
  nd:(nt.map CNt.mark).Nodup
  n:∀ x∈nt,∃ i:Nat,i<ms.length/\x.mark=i/\(0<=x.tlo/\x.tlo<=ts.getD i 0/\ts.getD i 0<=x.thi/\x.thi<=10000000)/\(-3000000<=x.slo/\x.slo<=ss.getD i 0/\ss.getD i 0<=x.shi/\x.shi<=3000000)
  sr:st.Pairwise (· < ·)
  si:∀ x∈st,0<=x/\x+2<=(ms.length:Int)
/-- Spans of time that hold the truth. -/
def TIn (ts:List Int) (l:List Span):Prop:=l.length=ts.length/\∀ i,i<ts.length->(-100000000<=(l.getD i default).lo/\(l.getD i default).lo<=ts.getD i 0)/\ts.getD i 0<=(l.getD i default).hi/\(l.getD i default).hi<=100000000
/-- Spans of stages that hold the truth. -/
def SIn (ss:List Int) (l:List Span):Prop:=l.length=ss.length/\∀ i,i<ss.length->(-3000000<=(l.getD i default).lo/\(l.getD i default).lo<=ss.getD i 0)/\ss.getD i 0<=(l.getD i default).hi/\(l.getD i default).hi<=3000000
/-- Minutes of the gaps that hold the truth. -/
def GIn (ts:List Int) (k:Nat) (l:List Span):Prop:=l.length=k/\∀ i,i<k->(0<=(l.getD i default).lo/\(l.getD i default).lo<=ts.getD (i+1) 0-ts.getD i 0)/\ts.getD (i+1) 0-ts.getD i 0<=(l.getD i default).hi/\(l.getD i default).hi<=200000000
/-- The notes by their marks. -/
def MpO (nt:List CNt) (mp:List (Int × CNt)):Prop:=∀ p∈mp,p.2∈nt/\p.1=p.2.mark
/-- The gaps in which the clock stops. -/
def StO (st:List Int) (sb:List Bool):Prop:=∀ x∈st,sb.getD (Int.toNat x) false=true
theorem setM_mem {m:List (Int × CNt)} {k:Int} {v:CNt}:∀ {p},p∈setM m k v->p=(k,v)∨p∈m:=by
  induction m with
  | nil=>intro p h; exact .inl (by simpa [setM] using h)
  | cons q m ih =>
    intro p h;unfold setM at h;split at h
    · rcases List.mem_cons.1 h with h | h
      · exact .inl h
      · exact .inr (List.mem_cons_of_mem _ h)
    · rcases List.mem_cons.1 h with h | h
      · exact .inr (by rw [h]; exact List.mem_cons_self)
      · rcases ih h with h | h
        · exact .inl h
        · exact .inr (List.mem_cons_of_mem _ h)
theorem lookM_mem {m:List (Int × CNt)} {k:Int} {v:CNt} (h:lookM m k=some v):(k,v)∈m:=by
  obtain ⟨q,hq⟩:=lookM_of h;exact List.mem_of_getElem? hq
theorem memD {α:Type} (l:List α) {i:Nat} (h:i<l.length) (d:α):l.getD i d∈l:=by rw [List.getD_eq_getElem?_getD,List.getElem?_eq_getElem h,Option.getD_some]; exact List.getElem_mem h
theorem pairD {l:List Int} (h:l.Pairwise (· < ·)) {i j:Nat} (hij:i<j) (hj:j<l.length):l.getD i 0<l.getD j 0:=by
  rw [List.getD_eq_getElem?_getD,List.getD_eq_getElem?_getD,List.getElem?_eq_getElem hj,List.getElem?_eq_getElem (by omega)];exact List.pairwise_iff_getElem.1 h i j (by omega) hj hij
end Ct
end Go.Nm
namespace Go.Proofs.YtbgoclcmgbpckabGreat
open Go Go.Nm
theorem o_yes {α:Type} {c:Bool} {m:M Bool} {k:Bool->M α} {Q:α->Prop} (hc:c=true) (h:m.Ends true) (hk:(k true).Out Q):(M.bind (M.opt c m false) k).Out Q:=by subst hc; exact M.o_bindE h hk
theorem cin_true {n a b:Int} (h1:a<=n) (h2:n<=b):(zaj n a b).Ends true:=by
  have:(zaj n a b).Ends (decide (a<=n)&&decide (n<=b)):=M.i_pure
  rwa [gA2 h1 h2] at this
theorem within_true {s:Span} {a b:Int} (h1:a<=s.lo) (h2:s.lo<=s.hi) (h3:s.hi<=b):(zaT s a b).Ends true:=by
  refine M.Out.ends ?_;unfold zaT;exact M.o_bindE (cin_true h1 (by omega)) (o_yes rfl (cin_true h2 h3) (M.o_pure rfl))
theorem every_note (l:List CNt) (so:CNt->M Bool) (h:∀ t∈l,(so t).Ends true):(zbK l so).Ends true:=by
  unfold zbK zaN zcr;refine M.i_bind (a:=false) (M.i_bind (a:=-1) (M.i_bind (a:=(.inr ():Int ⊕ Unit)) ?_ M.i_pure) M.i_pure) M.i_pure;refine M.i_for (fun i=>i) l.length (fun i hi=>?_) ?_
  · simp only [zaS];refine M.i_t (decide_eq_true (by omega)) (M.i_grd (decide_eq_true (by omega)) (M.i_bind (a:=false) ?_ (M.i_f rfl M.i_pure)));unfold zcE;exact M.i_bind (h _ (Ct.memD l hi default)) M.i_pure
  · simp only [zaS];exact M.i_f (decide_eq_false (by omega)) M.i_pure
theorem every_span (l:List Span) (so:Span->M Bool) (h:∀ t∈l,(so t).Ends true):(zau l so).Ends true:=by
  unfold zau zaI zbW;refine M.i_bind (a:=false) (M.i_bind (a:=-1) (M.i_bind (a:=(.inr ():Int ⊕ Unit)) ?_ M.i_pure) M.i_pure) M.i_pure;refine M.i_for (fun i=>i) l.length (fun i hi=>?_) ?_
  · simp only [zaL];refine M.i_t (decide_eq_true (by omega)) (M.i_grd (decide_eq_true (by omega)) (M.i_bind (a:=false) ?_ (M.i_f rfl M.i_pure)));unfold zbz;exact M.i_bind (h _ (Ct.memD l hi default)) M.i_pure
  · simp only [zaL];exact M.i_f (decide_eq_false (by omega)) M.i_pure
theorem no_note (l:List CNt) (f:CNt->M Bool) (h:∀ t∈l,(f t).Ends false):(zaN l f).Ends false:=by
  unfold zaN zcr;refine M.i_bind (a:=-1) (M.i_bind (a:=(.inr ():Int ⊕ Unit)) ?_ M.i_pure) M.i_pure;refine M.i_for (fun i=>i) l.length (fun i hi=>?_) ?_
  · simp only [zaS];exact M.i_t (decide_eq_true (by omega)) (M.i_grd (decide_eq_true (by omega)) (M.i_bind (h _ (Ct.memD l hi default)) (M.i_f rfl M.i_pure)))
  · simp only [zaS];exact M.i_f (decide_eq_false (by omega)) M.i_pure
section
variable {pl ph base sc off:Int} {ms:List CMk} {nt:List CNt} {ts ss st:List Int}
theorem ccheck_ends (R:Ct.Rt pl ph base sc off ms nt ts ss st):(zb4 pl ph base sc off ms nt).Ends 0:=by
  obtain ⟨n1,n40,tl,sl,p1,p2,p3,hb,hs,ho,hm,hup,ht,hg,hh,n20,nd,hn,sr,si⟩:=R;refine M.Out.ends ?_;unfold zb4;refine M.o_bindE (cin_true (by omega) (by omega)) (M.o_f (by rw [decide_eq_false (by omega)]; rfl) ?_);refine M.o_bindE (within_true p1 p2 p3) (o_yes rfl (cin_true hb.1 hb.2) (o_yes rfl (cin_true hs.1 hs.2) (o_yes rfl (cin_true ho.1 ho.2) (M.o_f rfl ?_))));refine M.o_bind (P:=fun r=>r = .inr ()) (M.o_for ms.length (fun i (z:Int × Nat)=>z.2=i/\(i=0->z.1 = -1)/\(0<i->z.1=(ms.getD (i-1) default).place)) ?_ ?_ ⟨rfl,fun _=>rfl,fun h=>by omega⟩) ?_
  · rintro i ⟨last,_⟩ hi ⟨rfl,h0,h1⟩;dsimp only at h0 h1 hi
    rename_i i
    have a1:=hm i hi;simp only [zcG];refine M.o_t (decide_eq_true (by omega)) (M.o_grd (decide_eq_true (by omega)) (M.o_bindE (cin_true a1.1.1 a1.1.2) (o_yes rfl (cin_true a1.2.1 a1.2.2) (M.o_f rfl (M.o_f (decide_eq_false ?_) (M.o_pure ⟨rfl,fun h=>by omega,fun _=>rfl⟩))))));by_cases e:i=0
    · have:=h0 e;omega
    · have e1:=h1 (by omega);have e2:=hup (i-1) (by omega);rw [show i-1+1=i by omega] at e2;omega
  · rintro ⟨last,_⟩ ⟨rfl,_⟩;simp only [zcG];exact M.o_f (decide_eq_false (by omega)) (M.o_pure rfl)
  rintro _ rfl;refine M.o_bindE (every_note nt _ fun x hx=>?_) (M.o_f rfl ?_)
  · obtain ⟨i,hi,e,ht',hs'⟩:=hn x hx;refine M.Out.ends ?_;unfold zcQ zdr;refine M.o_bindE (a:=true) (M.Out.ends ?_) (M.o_pure rfl);exact M.o_grd (gA2 (by omega) (by omega)) (M.o_bindE (cin_true (by omega) (by omega)) (o_yes rfl (within_true (by dsimp only; omega) (by dsimp only; omega) (by dsimp only; omega)) (o_yes rfl (within_true (by dsimp only; omega) (by dsimp only; omega) (by dsimp only; omega)) (M.o_pure rfl))))
  refine M.o_bind (P:=fun r=>r = .inr ()) (M.o_for nt.length (fun i (z:Nat)=>z=i) ?_ ?_ rfl) ?_
  · rintro _ i hi rfl;simp only [zbT];refine M.o_t (decide_eq_true (by omega)) (M.o_grd (decide_eq_true (by omega)) (M.o_bindE (no_note _ _ fun x hx=>?_) (M.o_f rfl (M.o_pure rfl))));have hne:(x.mark==(nt.getD i default).mark)=false:=by
      rw [beq_eq_false_iff_ne];intro e;obtain ⟨j,hj,rfl⟩:=mem_getD hx default;rw [List.length_take] at hj;have e2:(nt.take i).getD j default=nt.getD j default:=by rw [List.getD_eq_getElem?_getD,List.getElem?_take,if_pos (by omega),← List.getD_eq_getElem?_getD]
      rw [e2] at e;have a1:(nt.map CNt.mark)[j]?=some (nt.getD j default).mark:=by rw [List.getElem?_map,List.getElem?_eq_getElem (by omega),getD_el nt (by omega)]; rfl
      have a2:(nt.map CNt.mark)[i]?=some (nt.getD i default).mark:=by rw [List.getElem?_map,List.getElem?_eq_getElem hi,getD_el nt hi]; rfl
      have:=(List.getElem?_inj (by rw [List.length_map]; omega) nd).1 (a1.trans ((congrArg some e).trans a2.symm));omega
    unfold zbH;rw [hne];exact M.i_pure
  · rintro _ rfl;simp only [zbT];exact M.o_f (decide_eq_false (by omega)) (M.o_pure rfl)
  rintro _ rfl;exact M.o_pure rfl
theorem copened_out (R:Ct.Rt pl ph base sc off ms nt ts ss st):(zbI pl ph base sc off ms nt).Out (fun r=>∃ mp,Ct.MpO nt mp/\r = .inr (pl,ph,base,sc,off,mp,List.replicate 40 false,0)):=by
  unfold zbI;refine M.o_bindE (ccheck_ends R) (M.o_f rfl (M.o_bind (P:=fun mp=>Ct.MpO nt mp) (M.o_for nt.length (fun i (z:List (Int × CNt) × Nat)=>z.2=i/\Ct.MpO nt z.1) ?_ ?_ ⟨rfl,fun p hp=>by cases hp⟩) ?_))
  · rintro i ⟨mp,_⟩ hi ⟨rfl,h⟩
    rename_i i
    dsimp only at h hi;simp only [zb9];refine M.o_t (decide_eq_true (by omega)) (M.o_grd (decide_eq_true (by omega)) (M.o_pure ⟨rfl,fun p hp=>?_⟩));rcases Ct.setM_mem hp with rfl | hp
    · exact ⟨Ct.memD nt hi default,rfl⟩
    · exact h p hp
  · rintro ⟨mp,_⟩ ⟨rfl,h⟩;simp only [zb9];exact M.o_f (decide_eq_false (by omega)) (M.o_pure h)
  · intro mp h;exact M.o_pure ⟨mp,h,rfl⟩
theorem stop_out (R:Ct.Rt pl ph base sc off ms nt ts ss st) (a b c d e:Int) (f:List CNt) (mp:List (Int × CNt)):(zbU a b c d e ms f mp (List.replicate 40 false) st).Out (fun r=>r.1=true/\Ct.StO st r.2):=by
  have si:=R.si;have sr:=R.sr;have n40:=R.n40;unfold zbU;refine M.o_bind (P:=fun r=>∃ l,r = .inr l/\Ct.StO st l) (M.o_for st.length (fun i (z:List Bool × Int × Nat)=>z.2.2=i/\z.1.length=40/\(i=0->z.2.1 = -1)/\(0<i->z.2.1=st.getD (i-1) 0)/\∀ j,j<i->z.1.getD (Int.toNat (st.getD j 0)) false=true) ?_ ?_ ⟨rfl,by simp,fun _=>rfl,fun h=>by omega,fun j hj=>by omega⟩) ?_
  · rintro i ⟨l,last,_⟩ hi ⟨rfl,hl,h0,h1,h2⟩
    rename_i i
    dsimp only at hi hl h0 h1 h2;have a1:=si _ (Ct.memD st hi 0);have hlast:-1<=last/\last+1<=st.getD i 0:=by
      by_cases e:i=0
      · have:=h0 e;omega
      · have e1:=h1 (by omega);have e2:=Ct.pairD sr (show i-1<i by omega) hi;have e3:=si _ (Ct.memD st (show i-1<st.length by omega) 0);omega
    simp only [zcs];refine M.o_t (decide_eq_true (by omega)) (M.o_grd (decide_eq_true (by omega)) (M.o_grd (gA2 (by omega) (by omega)) (M.o_bindE (cin_true (by omega) (by omega)) (M.o_f rfl (M.o_grd (gA2 (by omega) (by omega)) (M.o_pure ⟨rfl,by simp [hl],fun h=>by omega,fun _=>rfl,fun j hj=>?_⟩))))));dsimp only;rw [gset _ _ _ _ _ (by omega)];split
    · rfl
    · rename_i hne
      refine h2 j ?_;by_cases e:j=i
      · subst e;exact absurd rfl hne
      · omega
  · rintro ⟨l,last,_⟩ ⟨rfl,hl,h0,h1,h2⟩;simp only [zcs];refine M.o_f (decide_eq_false (by omega)) (M.o_pure ⟨l,rfl,fun x hx=>?_⟩);obtain ⟨j,hj,rfl⟩:=mem_getD hx 0;exact h2 j hj
  · rintro _ ⟨l,rfl,h⟩;exact M.o_pure ⟨rfl,h⟩
theorem begun_out (R:Ct.Rt pl ph base sc off ms nt ts ss st):(zcS pl ph base sc off ms nt st).Out (fun r=>∃ mp sb,Ct.MpO nt mp/\Ct.StO st sb/\r=(pl,ph,base,sc,off,mp,sb,0)):=by
  unfold zcS;refine M.o_bind (copened_out R) ?_;rintro _ ⟨mp,hmp,rfl⟩;refine M.o_t rfl (M.o_bind (stop_out R ..) ?_);rintro ⟨_,sb⟩ ⟨rfl,hs⟩;exact M.o_f rfl (M.o_pure ⟨mp,sb,hmp,hs,rfl⟩)
theorem common_out (f:Span) (l:List Span) {x:Int} (hf:f.lo<=x/\x<=f.hi) (hl:∀ s∈l,s.lo<=x/\x<=s.hi):(zav f l).Out (fun r=>(f.lo<=r.1/\r.1<=x)/\x<=r.2/\r.2<=f.hi):=by
  unfold zav;refine M.o_bind (M.o_for l.length (fun i (z:Int × Int × Nat)=>z.2.2=i/\(f.lo<=z.1/\z.1<=x)/\x<=z.2.1/\z.2.1<=f.hi) ?_ ?_ ⟨rfl,⟨Int.le_refl _,hf.1⟩,hf.2,Int.le_refl _⟩) (fun r h=>M.o_pure h)
  · rintro i ⟨a,b,_⟩ hi ⟨rfl,h⟩
    rename_i i
    dsimp only at hi h;have:=hl _ (Ct.memD l hi default);simp only [zaG];exact M.o_t (decide_eq_true (by omega)) (M.o_grd (decide_eq_true (by omega)) (M.o_pure ⟨rfl,⟨by dsimp only; omega,by dsimp only; omega⟩,by dsimp only; omega,by dsimp only; omega⟩))
  · rintro ⟨a,b,_⟩ ⟨rfl,h⟩;simp only [zaG];exact M.o_f (decide_eq_false (by omega)) (M.o_pure h)
theorem stages_out (R:Ct.Rt pl ph base sc off ms nt ts ss st) {mp:List (Int × CNt)} (hmp:Ct.MpO nt mp) {i:Nat} (hi:i<ms.length) :
    (zcD pl ph base sc off ms nt mp (i:Int)).Out (fun r=>(-3000000<=r.1/\r.1<=ss.getD i 0)/\ss.getD i 0<=r.2/\r.2<=3000000):=by
  have hb:=R.b;have hs:=R.s;have ho:=R.o;have hm:=R.m i hi;have hh:=R.h i hi;have q0:0<=sc*(ms.getD i default).height:=Int.mul_nonneg hs.1 hm.2.1;have q1:sc*(ms.getD i default).height<=1000*1000:=Int.mul_le_mul hs.2 hm.2.2 hm.2.1 (by omega);unfold zcD;rw [Int.toNat_natCast];refine M.o_grd (gA2 (by omega) (by omega)) (M.o_grd (gA2 (by omega) (by omega)) (M.o_grd (gA2 (by omega) (by omega)) (M.o_grd (gA2 (by omega) (by omega)) (M.o_grd (gA2 (by omega) (by omega)) (?_)))));refine M.o_if (fun h=>?_) (fun _=>M.o_pure ⟨⟨by dsimp only; omega,by dsimp only; omega⟩,by dsimp only; omega,by dsimp only; omega⟩);obtain ⟨v,hv⟩:=Option.isSome_iff_exists.1 h;rw [hv];obtain ⟨h1,h2⟩:=hmp _ (Ct.lookM_mem hv);obtain ⟨j,hj,e,_,hst⟩:=R.n _ h1;obtain rfl:i=j:=by
    have e:v.mark=(j:Int):=e;have h2:(i:Int)=v.mark:=h2;omega
  refine M.o_bind (common_out (x:=ss.getD i 0) _ _ ⟨by dsimp only; omega,by dsimp only; omega⟩ fun s hs=>?_) (fun r hr=>M.o_pure ⟨⟨by have:=hr.1.1; dsimp only at this ⊢; omega,hr.1.2⟩,hr.2.1,by have:=hr.2.2; dsimp only at this ⊢; omega⟩);rw [List.mem_singleton] at hs;subst hs;exact ⟨hst.2.1,hst.2.2.1⟩
theorem all_out (R:Ct.Rt pl ph base sc off ms nt ts ss st) {mp:List (Int × CNt)} (hmp:Ct.MpO nt mp):(zaU pl ph base sc off ms nt mp).Out (fun r=>Ct.SIn ss r.1/\r.2=true):=by
  have n40:=R.n40;have sl:=R.sl;unfold zaU;refine M.o_bind (P:=fun r=>r.1=r.2/\Ct.SIn ss r.2) (M.o_for ms.length (fun i (z:Nat × List Span)=>z.1=i/\z.2.length=i/\∀ j,j<i->(-3000000<=(z.2.getD j default).lo/\(z.2.getD j default).lo<=ss.getD j 0)/\ss.getD j 0<=(z.2.getD j default).hi/\(z.2.getD j default).hi<=3000000) ?_ ?_ ⟨rfl,rfl,fun j hj=>by omega⟩) ?_
  · rintro i ⟨_,l⟩ hi ⟨rfl,hl,h⟩
    rename_i i
    dsimp only at hi hl h;simp only [zb0];refine M.o_t (decide_eq_true (by omega)) (M.o_bind (stages_out R hmp hi) ?_);rintro ⟨a,b⟩ hab;dsimp only at hab;refine M.o_grd (decide_eq_true (by simp; omega)) (M.o_pure ⟨rfl,by simp [hl],fun j hj=>?_⟩);dsimp only;rw [List.getD_eq_getElem?_getD,List.getElem?_append];split
    · rename_i hjl
      rw [← List.getD_eq_getElem?_getD];exact h j (by omega)
    · obtain rfl:j=i:=by omega
      rw [show j-l.length=0 by omega];exact hab
  · rintro ⟨_,l⟩ ⟨rfl,hl,h⟩;dsimp only at hl h;simp only [zb0];exact M.o_f (decide_eq_false (by omega)) (M.o_pure ⟨rfl,by dsimp only; omega,fun i hi=>h i (by omega)⟩)
  · rintro ⟨l',l⟩ ⟨e,h⟩;dsimp only at e h;subst e;refine M.o_bindE (every_span _ _ fun s hs=>?_) (M.o_pure ⟨h,rfl⟩);obtain ⟨i,hi,rfl⟩:=mem_getD hs default;have:=h.2 i (by rw [← h.1]; exact hi);unfold zcI;rw [decide_eq_true (by omega)];exact M.i_pure
theorem cnoted_out (R:Ct.Rt pl ph base sc off ms nt ts ss st) {mp:List (Int × CNt)} (hmp:Ct.MpO nt mp):(zcL pl ph base sc off ms nt mp).Out (fun l=>Ct.TIn ts l):=by
  have n40:=R.n40;have n1:=R.n1;have tl:=R.tl;unfold zcL;refine M.o_grd (gA2 (by omega) (by omega)) (M.o_grd (List.all_eq_true.2 fun p hp=>?_) (M.o_pure ⟨by unfold notedE; simp; omega,fun i hi=>?_⟩))
  · obtain ⟨h1,h2⟩:=hmp p hp;obtain ⟨j,hj,e,_⟩:=R.n _ h1;exact gA2 (by omega) (by omega)
  · have ht:=R.t i (by omega);have e:(notedE ms.length mp).getD i default=match lookM mp (i:Int) with
      | some n=>n.time
      | none=>⟨-100000000,100000000⟩:=by
      unfold notedE;rw [List.getD_eq_getElem?_getD,List.getElem?_map,List.getElem?_range (by omega)];rfl
    rw [e];cases hv:lookM mp (i:Int) with
    | none=>exact ⟨⟨by dsimp only; omega,by dsimp only; omega⟩,by dsimp only; omega,by dsimp only; omega⟩
    | some v =>
      obtain ⟨h1,h2⟩:=hmp _ (Ct.lookM_mem hv);obtain ⟨j,hj,e,hst,_⟩:=R.n _ h1;obtain rfl:i=j:=by
        have e:v.mark=(j:Int):=e;have h2:(i:Int)=v.mark:=h2;omega
      dsimp only at hst;unfold CNt.time;exact ⟨⟨by dsimp only; omega,by dsimp only; omega⟩,by dsimp only; omega,by dsimp only; omega⟩
theorem gaps_out (R:Ct.Rt pl ph base sc off ms nt ts ss st) (c d e:Int) (f:List CNt) (mp:List (Int × CNt)) {sb:List Bool} (hs:Ct.StO st sb) :
    (zbP (M.yl zar) (.inl []) pl ph c d e ms f mp sb).Out (fun y=>∃ l,y = .inl l/\Ct.GIn ts (ms.length-1) l):=by
  have n40:=R.n40;have n1:=R.n1;have p1:=R.p1;have p2:=R.p2;have p3:=R.p3;unfold zbP;refine M.o_bind (P:=fun y=>∃ l,y = .inr (.inl l)/\Ct.GIn ts (ms.length-1) l) (M.o_for (ms.length-1) (fun i (z:Nat × (List Span ⊕ Unit))=>z.1=i/\∃ l,z.2 = .inl l/\Ct.GIn ts i l) ?_ ?_ ⟨rfl,[],rfl,rfl,fun i hi=>by omega⟩) ?_
  · rintro i ⟨_,_⟩ hi ⟨rfl,l,rfl,hl,h⟩
    rename_i i
    dsimp only at hi hl h;have m1:=R.m i (by omega);have m2:=R.m (i+1) (by omega);have hu:=R.up i (by omega);have hg:=R.g i (by omega);have t1:=R.t i (by omega);have t2:=R.t (i+1) (by omega);have q0:0<=pl*((ms.getD (i+1) default).place-(ms.getD i default).place):=Int.mul_nonneg (by omega) (by omega);have q1:pl*((ms.getD (i+1) default).place-(ms.getD i default).place)<=600*10000:=Int.mul_le_mul (by omega) (by omega) (by omega) (by omega);have q2:0<=ph*((ms.getD (i+1) default).place-(ms.getD i default).place):=Int.mul_nonneg (by omega) (by omega);have q3:ph*((ms.getD (i+1) default).place-(ms.getD i default).place)<=600*10000:=Int.mul_le_mul (by omega) (by omega) (by omega) (by omega);have step:∀ s:Span,s.lo=pl*((ms.getD (i+1) default).place-(ms.getD i default).place)->ts.getD (i+1) 0-ts.getD i 0<=s.hi->s.hi<=200000000->Ct.GIn ts (i+1) (l++[s]):=by
      intro s h1 h2 h3;refine ⟨by simp [hl],fun j hj=>?_⟩;rw [List.getD_eq_getElem?_getD,List.getElem?_append];split
      · rename_i hjl
        rw [← List.getD_eq_getElem?_getD];exact h j (by omega)
      · obtain rfl:j=i:=by omega
        rw [show j-l.length=0 by omega];exact ⟨⟨by rw [show ([s]:List Span)[0]?=some s from rfl,Option.getD_some]; omega,by rw [show ([s]:List Span)[0]?=some s from rfl,Option.getD_some]; omega⟩,h2,h3⟩
    have ye:∀ s:Span,(M.yl zar (.inl l) ((i:Int),s)).Ends (true,.inl (l++[s])):=fun s=>M.i_bind (a:=(.inl (l++[s]):List Span ⊕ Unit)) (M.i_grd (decide_eq_true (by simp; omega)) M.i_pure) M.i_pure;simp only [zc6];rw [show Int.toNat ((i:Int)+1)=i+1 by omega];refine M.o_t (decide_eq_true (by omega)) (M.o_grd (gA2 (by omega) (by omega)) (M.o_grd (gA2 (by omega) (by omega)) (M.o_grd (decide_eq_true (by omega)) (M.o_grd (gA2 (by omega) (by omega)) (M.o_grd (gA2 (by omega) (by omega)) (M.o_grd (gA2 (by omega) (by omega)) (M.o_grd (gA2 (by omega) (by omega)) (?_))))))));refine M.o_if (fun hb=>?_) (fun hb=>?_)
    · exact M.o_bindE (ye _) (M.o_f rfl (M.o_pure ⟨rfl,_,rfl,step _ rfl (by dsimp only; omega) (by dsimp only; omega)⟩))
    · refine M.o_bindE (ye _) (M.o_f rfl (M.o_pure ⟨rfl,_,rfl,step _ rfl ?_ (by dsimp only; omega)⟩));rcases hg.2 with h1 | h1
      · have:=hs _ h1;rw [Int.toNat_natCast,hb] at this;cases this
      · exact h1
  · rintro ⟨_,_⟩ ⟨rfl,l,rfl,h⟩;simp only [zc6];exact M.o_f (decide_eq_false (by omega)) (M.o_pure ⟨l,rfl,h⟩)
  · rintro _ ⟨l,rfl,h⟩;exact M.o_pure ⟨l,rfl,h⟩
theorem narrow_out {l:List Span} (h:Ct.TIn ts l) (h40:ts.length<=40) {i:Nat} (hi:i<ts.length) {m:Int} (hm:m=(i:Int)) {s:Span} (hs:s.lo<=ts.getD i 0/\ts.getD i 0<=s.hi):(zat m s l).Out (fun r=>Ct.TIn ts r):=by
  subst hm;obtain ⟨hl,h⟩:=h;have hh:=h i hi;unfold zat;rw [Int.toNat_natCast];refine M.o_grd (gA2 (by omega) (by omega)) (M.o_bind (common_out (x:=ts.getD i 0) _ _ ⟨hh.1.2,hh.2.1⟩ fun q hq=>?_) ?_)
  · rw [List.mem_singleton] at hq;subst hq;exact hs
  · rintro ⟨a,b⟩ hr;dsimp only at hr;refine M.o_pure ⟨by simp [hl],fun j hj=>?_⟩;rw [gset _ _ _ _ _ (by omega)];split
    · rename_i e
      subst e;exact ⟨⟨by dsimp only; omega,by dsimp only; omega⟩,by dsimp only; omega,by dsimp only; omega⟩
    · exact h j hj
theorem narrowed_out (R:Ct.Rt pl ph base sc off ms nt ts ss st) {mp:List (Int × CNt)} {sb:List Bool} (hs:Ct.StO st sb) {times:List Span} (hT:Ct.TIn ts times) :
    (zan pl ph base sc off ms nt mp sb times).Out (fun r=>Ct.TIn ts r.1/\r.2=true):=by
  have n40:=R.n40;have n1:=R.n1;have tl:=R.tl;have hTl:=hT.1;unfold zan;refine M.o_bindE (a:=times) (M.i_grd (decide_eq_true (by omega)) (M.i_grd (decide_eq_true (by simp; omega)) M.i_pure)) (M.o_bindE (a:=()) M.i_pure (M.o_bind (gaps_out R _ _ _ _ _ hs) ?_));rintro _ ⟨l,rfl,hl,hG⟩;dsimp only;refine M.o_bind (P:=fun r=>Ct.TIn ts r.2) (M.o_for (ms.length-1) (fun i (z:List Span × Nat)=>z.2=i/\Ct.TIn ts z.1) ?_ ?_ ⟨rfl,hT⟩) ?_
  · rintro i ⟨l2,_⟩ hi ⟨rfl,h⟩
    rename_i i
    dsimp only at hi h;have hll:=h.1;have h1:=h.2 i (by omega);have h2:=hG i (by omega);have t1:=R.t i (by omega);have t2:=R.t (i+1) (by omega);simp only [zaH];refine M.o_t (decide_eq_true (by omega)) (M.o_grd (decide_eq_true (by omega)) (M.o_grd (decide_eq_true (by omega)) (M.o_grd (gA2 (by omega) (by omega)) (M.o_grd (gA2 (by omega) (by omega)) (M.o_bind (narrow_out h (by omega) (i:=i+1) (by omega) (by omega) ⟨by dsimp only; omega,by dsimp only; omega⟩) (fun r hr=>M.o_pure ⟨rfl,hr⟩))))))
  · rintro ⟨l2,_⟩ ⟨rfl,h⟩;simp only [zaH];exact M.o_f (decide_eq_false (by omega)) (M.o_pure h)
  rintro ⟨_,l4⟩ h4;dsimp only at h4 ⊢;refine M.o_bind (P:=fun r=>Ct.TIn ts r.2) (M.o_for (ms.length-1) (fun i (z:List Span × Int)=>z.2=(ms.length:Int)-2-i/\Ct.TIn ts z.1) ?_ ?_ ⟨by dsimp only; omega,h4⟩) ?_
  · rintro i ⟨l2,g⟩ hi ⟨e,h⟩;dsimp only at e h;have hll:=h.1;obtain ⟨k,rfl⟩:∃ k:Nat,g=(k:Int):=⟨Int.toNat g,by omega⟩
    have h1:=h.2 (k+1) (by omega);have h2:=hG k (by omega);have t1:=R.t k (by omega);have t2:=R.t (k+1) (by omega);simp only [zaO];rw [show Int.toNat ((k:Int)+1)=k+1 by omega,Int.toNat_natCast];refine M.o_t (decide_eq_true (by omega)) (M.o_grd (gA2 (by omega) (by omega)) (M.o_grd (gA2 (by omega) (by omega)) (M.o_grd (gA2 (by omega) (by omega)) (M.o_grd (gA2 (by omega) (by omega)) (M.o_grd (gA2 (by omega) (by omega)) (M.o_bind (narrow_out h (by omega) (i:=k) (by omega) rfl ⟨by dsimp only; omega,by dsimp only; omega⟩) (fun r hr=>M.o_grd (gA2 (by omega) (by omega)) (M.o_pure ⟨by dsimp only; omega,hr⟩))))))))
  · rintro ⟨l2,g⟩ ⟨e,h⟩;dsimp only at e;simp only [zaO];exact M.o_f (decide_eq_false (by omega)) (M.o_pure h)
  rintro ⟨_,l7⟩ h7;dsimp only at h7 ⊢;refine M.o_bindE (every_span _ _ fun s hs=>?_) (M.o_pure ⟨h7,rfl⟩);obtain ⟨i,hi,rfl⟩:=mem_getD hs default;have:=h7.2 i (by rw [← h7.1]; exact hi);unfold zcy;rw [decide_eq_true (by omega)];exact M.i_pure
theorem times_out (R:Ct.Rt pl ph base sc off ms nt ts ss st) {mp:List (Int × CNt)} (hmp:Ct.MpO nt mp) {sb:List Bool} (hs:Ct.StO st sb):(zc3 pl ph base sc off ms nt mp sb).Out (fun r=>Ct.TIn ts r.1/\r.2=true):=by
  unfold zc3;refine M.o_bind (all_out R hmp) ?_;rintro ⟨l,_⟩ ⟨_,rfl⟩;refine M.o_f rfl (M.o_bind (cnoted_out R hmp) fun l2 h2=>M.o_bind (narrowed_out R hs h2) ?_);rintro ⟨l3,_⟩ ⟨h3,rfl⟩;exact M.o_pure ⟨h3,rfl⟩
theorem read_out (R:Ct.Rt pl ph base sc off ms nt ts ss st):(zcK pl ph base sc off ms nt st).Out (fun r=>∃ mp sb l1 l2,Ct.MpO nt mp/\Ct.StO st sb/\Ct.TIn ts l1/\Ct.SIn ss l2/\r = .inr (pl,ph,base,sc,off,mp,sb,l1,l2,0)):=by
  unfold zcK;refine M.o_bind (begun_out R) ?_;rintro _ ⟨mp,sb,hmp,hs,rfl⟩;refine M.o_f rfl (M.o_bind (times_out R hmp hs) ?_);rintro ⟨l1,_⟩ ⟨h1,rfl⟩;refine M.o_f rfl (M.o_bind (all_out R hmp) ?_);rintro ⟨l2,_⟩ ⟨h2,rfl⟩;exact M.o_pure ⟨mp,sb,l1,l2,hmp,hs,h1,h2,rfl⟩
end
end Go.Proofs.YtbgoclcmgbpckabGreat
-- libTP/CLM.lean
namespace Go.Nm
namespace Ct
theorem short:∀ {l:List Int} {n:Nat},l.Pairwise (· < ·)->(∀ x∈l,0<=x/\x<(n:Int))->l.length<=n:=by
  intro l n hp hb;exact nodup_bound n l (hp.imp fun h=>by omega) hb
/-- Marks that are made, one by one. -/
structure Mk (pl ph base sc off:Int) (k:Nat) (place time:Int) (l:List CMk) (l2 l3 l4:List Int):Prop where
  e1:l.length=k
  e2:l2.length=k
  e3:l3.length=k
  p:0<=place/\place<=30*(k:Int)
  ti:0<=time/\time<=300+1000*(k:Int)
  la:0<k->(l.getD (k-1) default).place=place/\l2.getD (k-1) 0=time
  m:∀ i,i<k->(0<=(l.getD i default).place/\(l.getD i default).place<=30*(k:Int))/\0<=(l.getD i default).height/\(l.getD i default).height<60
  up:∀ i,i+1<k->(l.getD i default).place<(l.getD (i+1) default).place
  t:∀ i,i<k->0<=l2.getD i 0/\l2.getD i 0<=300+1000*(k:Int)
  g:∀ i,i+1<k->pl*((l.getD (i+1) default).place-(l.getD i default).place)<=l2.getD (i+1) 0-l2.getD i 0/\((i:Int)∈l4∨l2.getD (i+1) 0-l2.getD i 0<=ph*((l.getD (i+1) default).place-(l.getD i default).place))
  h:∀ i,i<k->base+sc*(l.getD i default).height-off<=l3.getD i 0/\l3.getD i 0<=base+sc*(l.getD i default).height+off
  sr:l4.Pairwise (· < ·)
  si:∀ x∈l4,0<=x/\x+2<=(k:Int)
theorem apL {α:Type} {l:List α} {x d:α} {j:Nat} (h:j<l.length):(l++[x]).getD j d=l.getD j d:=by
  rw [List.getD_eq_getElem?_getD,List.getElem?_append_left h,← List.getD_eq_getElem?_getD]
theorem apE {α:Type} {l:List α} {x d:α} {j:Nat} (h:l.length=j):(l++[x]).getD j d=x:=by
  subst h;rw [List.getD_eq_getElem?_getD,List.getElem?_append_right (Nat.le_refl _),Nat.sub_self];rfl
theorem Mk.zero {pl ph base sc off time:Int} (h:0<=time/\time<300):Mk pl ph base sc off 0 0 time [] [] [] [] :=
  ⟨rfl,rfl,rfl,by omega,by omega,fun h=>by omega,fun i hi=>by omega,fun i hi=>by omega,fun i hi=>by omega,fun i hi=>by omega,fun i hi=>by omega,List.Pairwise.nil,fun x hx=>by cases hx⟩
theorem Mk.step {pl ph base sc off:Int} {k:Nat} {place time:Int} {l:List CMk} {l2 l3 l4:List Int} (M:Mk pl ph base sc off k place time l l2 l3 l4) {p' t' hh s:Int} {l4':List Int}
    (hp:0<=p'/\p'<=30*((k:Int)+1)) (ht:0<=t'/\t'<=300+1000*((k:Int)+1)) (hg:0<k->place<p'/\pl*(p'-place)<=t'-time/\((k:Int)-1∈l4'∨t'-time<=ph*(p'-place)))
    (hq:0<=hh/\hh<60) (hs:base+sc*hh-off<=s/\s<=base+sc*hh+off) (h4:l4'=l4∨(0<k/\l4'=l4++[(k:Int)-1])) :
    Mk pl ph base sc off (k+1) p' t' (l++[⟨p',hh⟩]) (l2++[t']) (l3++[s]) l4':=by
  obtain ⟨e1,e2,e3,p,ti,la,m,up,tt,g,h,sr,si⟩:=M;have sub:∀ x∈l4,x∈l4':=by
    rcases h4 with rfl | ⟨_,rfl⟩
    · exact fun x hx=>hx
    · exact fun x hx=>List.mem_append_left _ hx
  refine ⟨by simp [e1],by simp [e2],by simp [e3],by push_cast; omega,by push_cast; omega,fun _=>⟨?_,?_⟩,fun i hi=>?_,fun i hi=>?_,fun i hi=>?_,fun i hi=>?_,fun i hi=>?_,?_,?_⟩
  · rw [Nat.add_sub_cancel,apE e1]
  · rw [Nat.add_sub_cancel,apE e2]
  · by_cases c:i<k
    · have:=m i c;rw [apL (by omega)];omega
    · rw [apE (by omega)];dsimp only;omega
  · by_cases c:i+1<k
    · rw [apL (by omega),apL (by omega)];exact up i c
    · have:=(la (by omega)).1;rw [show k-1=i by omega] at this;rw [apL (by omega),apE (by omega),this];exact (hg (by omega)).1
  · by_cases c:i<k
    · have:=tt i c;rw [apL (by omega)];omega
    · rw [apE (by omega)];omega
  · by_cases c:i+1<k
    · rw [apL (by omega),apL (by omega),apL (by omega),apL (by omega)];obtain ⟨g1,g2⟩:=g i c;exact ⟨g1,g2.imp (fun x=>sub _ x) id⟩
    · have a1:=la (by omega);have a2:=hg (by omega);rw [show k-1=i by omega] at a1;rw [apE (l:=l) (by omega),apL (l:=l) (by omega),apE (l:=l2) (by omega),apL (l:=l2) (by omega),a1.1,a1.2];refine ⟨a2.2.1,?_⟩;rw [show (i:Int)=(k:Int)-1 by omega];exact a2.2.2
  · by_cases c:i<k
    · rw [apL (by omega),apL (by omega)];exact h i c
    · rw [apE (by omega),apE (by omega)];exact hs
  · rcases h4 with rfl | ⟨_,rfl⟩
    · exact sr
    · rw [List.pairwise_append];refine ⟨sr,List.pairwise_singleton _ _,fun a ha b hb=>?_⟩;rw [List.mem_singleton] at hb;have:=si a ha;omega
  · intro x hx;rcases h4 with rfl | ⟨h0,rfl⟩
    · have:=si x hx;omega
    · rcases List.mem_append.1 hx with hx | hx
      · have:=si x hx;omega
      · rw [List.mem_singleton] at hx;omega
/-- Notes that hold the truth. -/
def NO (n:Nat) (ts ss:List Int) (nt:List CNt):Prop:=∀ x∈nt,∃ i:Nat,i<n/\x.mark=i/\(0<=x.tlo/\x.tlo<=ts.getD i 0/\ts.getD i 0<=x.thi/\x.thi<=10000000)/\(-3000000<=x.slo/\x.slo<=ss.getD i 0/\ss.getD i 0<=x.shi/\x.shi<=3000000)
theorem swap_perm (l:List CNt) {i j:Nat} (hi:i<l.length) (hj:j<l.length):((l.set i (l.getD j default)).set j (l.getD i default)).Perm l:=by
  rw [getD_el l hi,getD_el l hj];exact List.set_set_perm hi hj
end Ct
end Go.Nm
namespace Go.Proofs.YtbgoclcmgbpckabGreat
open Go Go.Nm
section
variable {b:List UInt8}
theorem made02_b0 {pl r6 base sc off:Int} {stop:Bool} (hstop:stop=true) (h1:1<=pl/\pl<=12) (h6:0<=r6/\r6<6) (hb:-50<=base/\base<=400) (hs:0<=sc/\sc<12) (ho:0<=off/\off<9) {time:Int} (ht:0<=time/\time<300) {n:Int} (hn:1<=n/\n<=14) {c u x:Int} (hS:SOk c u x) (hc:c<=1000) :
    (M.iter (za4 b stop pl base sc off r6) (u,x,0,time,n,[],[],[],[])).Out (fun y=>SOk (c+200) y.1 y.2.1/\∃ p t l l2 l3 l4,y.2.2=(l,l2,l3,l4,l4,l3,l2,l)/\Ct.Mk pl (pl+r6) base sc off (Int.toNat n) p t l l2 l3 l4):=by
  refine M.o_for (Int.toNat n) (fun i (z:Int × Int × Int × Int × Int × List CMk × List Int × List Int × List Int)=>z.2.2.2.2.1=n-(i:Int)/\SOk (c+8*(i:Int)) z.1 z.2.1/\Ct.Mk pl (pl+r6) base sc off i z.2.2.1 z.2.2.2.1 z.2.2.2.2.2.1 z.2.2.2.2.2.2.1 z.2.2.2.2.2.2.2.1 z.2.2.2.2.2.2.2.2) ?_ ?_ ⟨by dsimp only; omega,hS.mono (by omega),Ct.Mk.zero ht⟩
  · rintro i ⟨u,x,place,time,m,l,l2,l3,l4⟩ hi ⟨e,hS,hM⟩;dsimp only at e hS hM;have e1:=hM.e1;have e2:=hM.e2;have e3:=hM.e3;have hp:=hM.p;have hti:=hM.ti;have e4:l4.length<=14:=by
      have:=Ct.short hM.sr (n:=14) (fun x hx=>by have:=hM.si x hx; omega);omega
    simp only [za4];refine M.o_t (decide_eq_true (by omega)) (M.o_if (fun hk=>?_) (fun hk=>?_))
    · have hk:=of_decide_eq_true hk;refine M.o_bind (within_out hS (by omega) (by omega) (by omega) (by omega)) ?_;rintro ⟨far,u9,x9⟩ ⟨k9,f1,f2⟩;dsimp only at k9 f1 f2 ⊢;have q0:pl*1<=pl*far:=Int.mul_le_mul_of_nonneg_left f1 (by omega);have q1:pl*far<=12*30:=Int.mul_le_mul (by omega) (by omega) (by omega) (by omega);have q2:pl*far<=(pl+r6)*far:=Int.mul_le_mul_of_nonneg_right (by omega) (by omega);have q3:(pl+r6)*far<=17*30:=Int.mul_le_mul (by omega) (by omega) (by omega) (by omega);refine M.o_grd (gA2 (by omega) (by omega)) (M.o_grd (gA2 (by omega) (by omega)) (M.o_grd (gA2 (by omega) (by omega)) (M.o_bind (within_out k9 (by omega) (by omega) (by omega) (by omega)) ?_)));rintro ⟨r10,ut,xt⟩ ⟨kt,f3,f4⟩;dsimp only at kt f3 f4 ⊢;have ee:place+far-place=far:=by omega
      refine M.o_grd (gA2 (by omega) (by omega)) (M.o_if (fun hst=>?_) (fun hst=>?_))
      · refine M.o_bind (next_out kt (by omega) (by omega)) ?_;rintro ⟨r11,uu,xu⟩ ⟨ku,gu,_⟩;have gu:=gu (by omega);dsimp only at ku gu ⊢;refine M.o_if (fun hz=>?_) (fun hz=>?_)
        · refine M.o_grd (gA2 (by omega) (by omega)) (M.o_grd (decide_eq_true (by simp; omega)) (M.o_bind (next_out ku (by omega) (by omega)) ?_));rintro ⟨r12,uv,xv⟩ ⟨kv,gv,_⟩;have gv:=gv (by omega);dsimp only at kv gv ⊢;refine M.o_grd (gA2 (by omega) (by omega)) ?_;refine M.o_bind (next_out kv (by omega) (by omega)) ?_;rintro ⟨r13,ua,xa⟩ ⟨ka,ga,_⟩;have ga:=ga (by omega);dsimp only at ka ga ⊢;have q0:0<=sc*r13:=Int.mul_nonneg hs.1 ga.1;have q1:sc*r13<=12*60:=Int.mul_le_mul (by omega) (by omega) (by omega) (by omega);refine M.o_grd (gA2 (by omega) (by omega)) (M.o_grd (gA2 (by omega) (by omega)) (M.o_grd (gA2 (by omega) (by omega)) (M.o_grd (gA2 (by omega) (by omega)) (M.o_grd (decide_eq_true (by simp; omega)) (M.o_grd (decide_eq_true (by simp; omega)) (M.o_bind (within_out ka (by omega) (by omega) (by omega) (by omega)) ?_))))));rintro ⟨r14,ub,xb⟩ ⟨kb,g1,g2⟩;dsimp only at kb g1 g2 ⊢;refine M.o_grd (decide_eq_true (by simp; omega)) (M.o_grd (gA2 (by omega) (by omega)) (M.o_pure ⟨by dsimp only; omega,kb.mono (by omega),?_⟩));dsimp only;exact hM.step (by omega) (by omega) (fun _=>⟨by omega,by rw [ee]; omega,.inl (by rw [e1]; simp)⟩) ga ⟨g1,g2⟩ (.inr ⟨by omega,by rw [e1]⟩)
        · refine M.o_bind (next_out ku (by omega) (by omega)) ?_;rintro ⟨r13,ua,xa⟩ ⟨ka,ga,_⟩;have ga:=ga (by omega);dsimp only at ka ga ⊢;have q0:0<=sc*r13:=Int.mul_nonneg hs.1 ga.1;have q1:sc*r13<=12*60:=Int.mul_le_mul (by omega) (by omega) (by omega) (by omega);refine M.o_grd (gA2 (by omega) (by omega)) (M.o_grd (gA2 (by omega) (by omega)) (M.o_grd (gA2 (by omega) (by omega)) (M.o_grd (gA2 (by omega) (by omega)) (M.o_grd (decide_eq_true (by simp; omega)) (M.o_grd (decide_eq_true (by simp; omega)) (M.o_bind (within_out ka (by omega) (by omega) (by omega) (by omega)) ?_))))));rintro ⟨r14,ub,xb⟩ ⟨kb,g1,g2⟩;dsimp only at kb g1 g2 ⊢;refine M.o_grd (decide_eq_true (by simp; omega)) (M.o_grd (gA2 (by omega) (by omega)) (M.o_pure ⟨by dsimp only; omega,kb.mono (by omega),?_⟩));dsimp only;exact hM.step (by omega) (by omega) (fun _=>⟨by omega,by rw [ee]; omega,.inr (by rw [ee]; omega)⟩) ga ⟨g1,g2⟩ (.inl rfl)
      · rw [hstop] at hst; cases hst
    · have hk:=of_decide_eq_false hk;refine M.o_bind (next_out hS (by omega) (by omega)) ?_;rintro ⟨r13,ua,xa⟩ ⟨ka,ga,_⟩;have ga:=ga (by omega);dsimp only at ka ga ⊢;have q0:0<=sc*r13:=Int.mul_nonneg hs.1 ga.1;have q1:sc*r13<=12*60:=Int.mul_le_mul (by omega) (by omega) (by omega) (by omega);refine M.o_grd (gA2 (by omega) (by omega)) (M.o_grd (gA2 (by omega) (by omega)) (M.o_grd (gA2 (by omega) (by omega)) (M.o_grd (gA2 (by omega) (by omega)) (M.o_grd (decide_eq_true (by simp; omega)) (M.o_grd (decide_eq_true (by simp; omega)) (M.o_bind (within_out ka (by omega) (by omega) (by omega) (by omega)) ?_))))));rintro ⟨r14,ub,xb⟩ ⟨kb,g1,g2⟩;dsimp only at kb g1 g2 ⊢;refine M.o_grd (decide_eq_true (by simp; omega)) (M.o_grd (gA2 (by omega) (by omega)) (M.o_pure ⟨by dsimp only; omega,kb.mono (by omega),?_⟩));dsimp only;exact hM.step (by omega) (by omega) (fun h=>by omega) ga ⟨g1,g2⟩ (.inl rfl)
  · rintro ⟨u,x,place,time,m,l,l2,l3,l4⟩ ⟨e,hS,hM⟩;dsimp only at e hS hM;simp only [za4];exact M.o_f (decide_eq_false (by omega)) (M.o_pure ⟨hS.mono (by omega),_,_,_,_,_,_,rfl,hM⟩)
theorem made02_b1 {pl ph base sc off p t:Int} {n:Nat} {ms:List CMk} {ts ss st:List Int} (hb:-50<=base/\base<=400) (hs:0<=sc/\sc<12) (ho:0<=off/\off<9) (hM:Ct.Mk pl ph base sc off n p t ms ts ss st) (hn:n<=14) {c u x:Int} (hS:SOk c u x) (hc:c<=10000) :
    (M.iter (zbk b ss ts ms) (u,x,0,[])).Out (fun y=>SOk (c+200) y.1 y.2.1/\∃ nt,y.2.2=(nt,nt)/\Ct.NO n ts ss nt/\(nt.map CNt.mark).Nodup/\nt.length<=20):=by
  have e1:=hM.e1;have e2:=hM.e2;have e3:=hM.e3;refine M.o_for n (fun i (z:Int × Int × Nat × List CNt)=>z.2.2.1=i/\SOk (c+6*(i:Int)) z.1 z.2.1/\Ct.NO n ts ss z.2.2.2/\(z.2.2.2.map CNt.mark).Nodup/\z.2.2.2.length<=i/\∀ y∈z.2.2.2,y.mark<(i:Int)) ?_ ?_ ⟨rfl,hS.mono (by omega),(fun y hy=>by cases hy),List.nodup_nil,Nat.le_refl _,(fun y hy=>by cases hy)⟩
  · rintro i ⟨u,x,_,nt⟩ hi ⟨rfl,hS,hN,hd,hl,hlt⟩
    rename_i i
    dsimp only at hi hS hN hd hl hlt;simp only [zbk];refine M.o_t (by rw [decide_eq_true (by omega),decide_eq_true (by omega)]; rfl) (M.o_bind (next_out hS (by omega) (by omega)) ?_);rintro ⟨r15,u1,x1⟩ ⟨k1,_,_⟩;dsimp only at k1 ⊢;refine M.o_if (fun hz=>?_) (fun hz=>M.o_grd (gA2 (by omega) (by omega)) (M.o_pure ⟨rfl,k1.mono (by omega),hN,hd,by dsimp only; omega,fun y hy=>by have:=hlt y hy; omega⟩));have a1:=hM.t i hi;have a2:=hM.h i hi;have a3:=hM.m i hi;have q0:0<=sc*(ms.getD i default).height:=Int.mul_nonneg hs.1 a3.2.1;have q1:sc*(ms.getD i default).height<=12*60:=Int.mul_le_mul (by omega) (by omega) (by omega) (by omega);refine M.o_grd (decide_eq_true (by omega)) (M.o_grd (decide_eq_true (by omega)) (M.o_bind (next_out k1 (by omega) (by omega)) ?_));rintro ⟨r16,u2,x2⟩ ⟨k2,g2,_⟩;have g2:=g2 (by omega);dsimp only at k2 g2 ⊢;refine M.o_grd (gA2 (by omega) (by omega)) (M.o_bind (next_out k2 (by omega) (by omega)) ?_);rintro ⟨r17,u3,x3⟩ ⟨k3,g3,_⟩;have g3:=g3 (by omega);dsimp only at k3 g3 ⊢;refine M.o_grd (gA2 (by omega) (by omega)) (M.o_bind (next_out k3 (by omega) (by omega)) ?_);rintro ⟨r18,u4,x4⟩ ⟨k4,g4,_⟩;have g4:=g4 (by omega);dsimp only at k4 g4 ⊢;refine M.o_grd (gA2 (by omega) (by omega)) (M.o_bind (next_out k4 (by omega) (by omega)) ?_);rintro ⟨r19,u5,x5⟩ ⟨k5,g5,_⟩;have g5:=g5 (by omega);dsimp only at k5 g5 ⊢;refine M.o_grd (gA2 (by omega) (by omega)) (M.o_grd (decide_eq_true (by simp; omega)) (M.o_grd (gA2 (by omega) (by omega)) (M.o_pure ⟨rfl,k5.mono (by omega),fun y hy=>?_,?_,by simp; omega,fun y hy=>?_⟩)))
    · rcases List.mem_append.1 hy with hy | hy
      · exact hN y hy
      · rw [List.mem_singleton] at hy;subst hy;exact ⟨i,hi,rfl,⟨by dsimp only; omega,by dsimp only; omega,by dsimp only; omega,by dsimp only; omega⟩,by dsimp only; omega,by dsimp only; omega,by dsimp only; omega,by dsimp only; omega⟩
    · rw [List.map_append,List.nodup_append];refine ⟨hd,by simp,fun a ha b hb=>?_⟩;obtain ⟨y,hy,rfl⟩:=List.mem_map.1 ha;simp only [List.map_cons,List.map_nil,List.mem_singleton] at hb;have:=hlt y hy;omega
    · rcases List.mem_append.1 hy with hy | hy
      · have:=hlt y hy;omega
      · rw [List.mem_singleton] at hy;subst hy;dsimp only;omega
  · rintro ⟨u,x,i,nt⟩ ⟨e,hS,hN,hd,hl,hlt⟩;dsimp only at e hS hN hd hl hlt;simp only [zbk];exact M.o_f (by rw [decide_eq_false (by omega)]; rfl) (M.o_pure ⟨hS.mono (by omega),nt,rfl,hN,hd,by omega⟩)
theorem made02_b2 {nt:List CNt} (hn:nt.length<=20) {c u x:Int} (hS:SOk c u x) (hc:c<=100000) :
    (M.iter (za0 b) (u,x,nt,(nt.length:Int)-1)).Out (fun y=>y.1.Perm nt/\y.2.1=y.1):=by
  refine M.o_for (nt.length-1) (fun i (z:Int × Int × List CNt × Int)=>z.2.2.2=(nt.length:Int)-1-(i:Int)/\SOk (c+(i:Int)) z.1 z.2.1/\z.2.2.1.Perm nt) ?_ ?_ ⟨by dsimp only; omega,hS.mono (by omega),List.Perm.refl _⟩
  · rintro i ⟨u,x,l,k⟩ hi ⟨e,hS,hp⟩;dsimp only at e hS hp;have hl:=hp.length_eq;simp only [za0];refine M.o_t (decide_eq_true (by omega)) (M.o_grd (gA2 (by omega) (by omega)) (M.o_bind (next_out hS (by omega) (by omega)) ?_));rintro ⟨r,u1,x1⟩ ⟨k1,g1,_⟩;have g1:=g1 (by omega);dsimp only at k1 g1 ⊢;refine M.o_grd (gA2 (by omega) (by omega)) (M.o_grd (gA2 (by omega) (by omega)) (M.o_grd (gA2 (by omega) (by rw [List.length_set]; omega)) (M.o_grd (gA2 (by omega) (by omega)) (M.o_pure ⟨by dsimp only; omega,k1.mono (by omega),(Ct.swap_perm l (by omega) (by omega)).trans hp⟩))))
  · rintro ⟨u,x,l,k⟩ ⟨e,hS,hp⟩;dsimp only at e hS hp;simp only [za0];exact M.o_f (decide_eq_false (by omega)) (M.o_pure ⟨hp,rfl⟩)
theorem made02_out {marks:Int} {stop:Bool} (hstop:stop=true) (hm:1<=marks/\marks<=14) {u x:Int} (hS:SOk 0 u x) :
    (zb8 b u x marks stop).Out (fun y=>Ct.Rt y.1 y.2.1 y.2.2.1 y.2.2.2.1 y.2.2.2.2.1 y.2.2.2.2.2.1 y.2.2.2.2.2.2.1 y.2.2.2.2.2.2.2.1 y.2.2.2.2.2.2.2.2.1 y.2.2.2.2.2.2.2.2.2.1/\(-50<=y.2.2.1/\y.2.2.1<=400)/\∀ i,i<y.2.2.2.2.2.1.length->-2000<=y.2.2.2.2.2.2.2.2.1.getD i 0/\y.2.2.2.2.2.2.2.2.1.getD i 0<=2000):=by
  unfold zb8;refine M.o_bind (within_out hS (by omega) (by omega) (by omega) (by omega)) ?_;rintro ⟨pl,u1,x1⟩ ⟨k1,a1,a2⟩;dsimp only at k1 a1 a2 ⊢;refine M.o_bind (within_out k1 (by omega) (by omega) (by omega) (by omega)) ?_;rintro ⟨base,u2,x2⟩ ⟨k2,b1,b2⟩;dsimp only at k2 b1 b2 ⊢;refine M.o_bind (next_out k2 (by omega) (by omega)) ?_;rintro ⟨sc,u3,x3⟩ ⟨k3,c1,_⟩;have c1:=c1 (by omega);dsimp only at k3 c1 ⊢;refine M.o_bind (next_out k3 (by omega) (by omega)) ?_;rintro ⟨off,u4,x4⟩ ⟨k4,d1,_⟩;have d1:=d1 (by omega);dsimp only at k4 d1 ⊢;refine M.o_bind (next_out k4 (by omega) (by omega)) ?_;rintro ⟨r6,u5,x5⟩ ⟨k5,e1,_⟩;have e1:=e1 (by omega);dsimp only at k5 e1 ⊢;refine M.o_grd (gA2 (by omega) (by omega)) (M.o_bind (next_out k5 (by omega) (by omega)) ?_);rintro ⟨time,u6,x6⟩ ⟨k6,f1,_⟩;have f1:=f1 (by omega);dsimp only at k6 f1 ⊢;refine M.o_bind (within_out k6 (by omega) (by omega) (by omega) (by omega)) ?_;rintro ⟨n,u7,x7⟩ ⟨k7,g1,g2⟩;dsimp only at k7 g1 g2 ⊢;refine M.o_bind (made02_b0 (stop:=stop) hstop ⟨a1,a2⟩ e1 ⟨b1,b2⟩ c1 d1 f1 (n:=n) ⟨g1,by omega⟩ k7 (by omega)) ?_;rintro ⟨u8,x8,_⟩ ⟨k8,p,t,ms,ts,ss,st,rfl,hM⟩;dsimp only at k8 ⊢;refine M.o_bind (made02_b1 ⟨b1,b2⟩ c1 d1 hM (by omega) k8 (by omega)) ?_;rintro ⟨u9,x9,_⟩ ⟨k9,nt,rfl,hN,hd,hl⟩;dsimp only at k9 ⊢;refine M.o_bind (made02_b2 hl k9 (by omega)) ?_;rintro ⟨l1,l2,u10,x10⟩ ⟨hp,e⟩;dsimp only at hp e;subst e;have q1:=hM.e1;have q2:=hM.e2;have q3:=hM.e3;refine M.o_pure ⟨⟨by dsimp only; omega,by dsimp only; omega,by dsimp only; omega,by dsimp only; omega,a1,by dsimp only; omega,by dsimp only; omega,by dsimp only; omega,by dsimp only; omega,by dsimp only; omega,fun i hi=>?_,fun i hi=>hM.up i (by dsimp only at hi; omega),fun i hi=>?_,fun i hi=>hM.g i (by dsimp only at hi; omega),fun i hi=>hM.h i (by dsimp only at hi; omega),?_,?_,fun y hy=>?_,hM.sr,fun y hy=>?_⟩,⟨b1,b2⟩,fun i hi=>?_⟩
  · dsimp only at hi ⊢;have:=hM.m i (by omega);omega
  · dsimp only at hi ⊢;have:=hM.t i (by omega);omega
  · dsimp only;rw [hp.length_eq];exact hl
  · exact (hp.map CNt.mark).nodup_iff.2 hd
  · dsimp only;rw [q1];exact hN y (hp.mem_iff.1 hy)
  · dsimp only at hy ⊢;have:=hM.si y hy;omega
  · dsimp only at hi ⊢;have h1:=hM.m i (by omega);have h2:=hM.h i (by omega);have q0:0<=sc*(ms.getD i default).height:=Int.mul_nonneg c1.1 h1.2.1;have q1:sc*(ms.getD i default).height<=12*60:=Int.mul_le_mul (by omega) (by omega) (by omega) (by omega);omega
end
end Go.Proofs.YtbgoclcmgbpckabGreat
-- libH/CLP.lean
namespace Go.Nm
namespace Ct
/-- Spans of bounded numbers. -/
def BIn (K:Int) (n:Nat) (l:List Span):Prop:=l.length=n/\∀ i,i<n->(-K<=(l.getD i default).lo/\(l.getD i default).lo<=K)/\-K<=(l.getD i default).hi/\(l.getD i default).hi<=K
theorem BIn.mono {K K':Int} {n:Nat} {l:List Span} (h:BIn K n l) (hK:K<=K'):BIn K' n l:=⟨h.1,fun i hi=>by have:=h.2 i hi; omega⟩
theorem BIn.set {K:Int} {n:Nat} {l:List Span} (h:BIn K n l) (k:Nat) {s:Span} (hs:(-K<=s.lo/\s.lo<=K)/\-K<=s.hi/\s.hi<=K):BIn K n (l.set k s):=by
  refine ⟨by rw [List.length_set]; exact h.1,fun i hi=>?_⟩;by_cases hk:k<l.length
  · rw [gset _ _ _ _ _ hk];split
    · exact hs
    · exact h.2 i hi
  · rw [List.set_eq_of_length_le (by omega)];exact h.2 i hi
theorem TIn.set {ts:List Int} {l:List Span} (h:TIn ts l) (k:Nat) {s:Span} (hs:k<ts.length->(-100000000<=s.lo/\s.lo<=ts.getD k 0)/\ts.getD k 0<=s.hi/\s.hi<=100000000):TIn ts (l.set k s):=by
  refine ⟨by rw [List.length_set]; exact h.1,fun i hi=>?_⟩;by_cases hk:k<l.length
  · rw [gset _ _ _ _ _ hk];split
    · rename_i e
      subst e;exact hs hi
    · exact h.2 i hi
  · rw [List.set_eq_of_length_le (by omega)];exact h.2 i hi
theorem TIn.b {pl ph base sc off:Int} {ms:List CMk} {nt:List CNt} {ts ss st:List Int} (R:Rt pl ph base sc off ms nt ts ss st) {l:List Span} (h:TIn ts l):BIn 1000000000 ts.length l:=⟨h.1,fun i hi=>by
  have tl:=R.tl;have:=h.2 i hi;have:=R.t i (by omega);omega⟩
/-- A hull that holds a number. -/
def Ct1 (top s s2:Int) (m:Bool):Prop:=m=true/\s<=top/\top<=s2
end Ct
end Go.Nm
namespace Go.Proofs.YtbgoclcmgbpckabGreat
open Go Go.Nm
theorem common_b (f:Span) (l:List Span) {K:Int} (hf:(-K<=f.lo/\f.lo<=K)/\-K<=f.hi/\f.hi<=K) (hl:∀ s∈l,(-K<=s.lo/\s.lo<=K)/\-K<=s.hi/\s.hi<=K):(zav f l).Out (fun r=>(-K<=r.1/\r.1<=K)/\-K<=r.2/\r.2<=K):=by
  unfold zav;refine M.o_bind (M.o_for l.length (fun i (z:Int × Int × Nat)=>z.2.2=i/\(-K<=z.1/\z.1<=K)/\-K<=z.2.1/\z.2.1<=K) ?_ ?_ ⟨rfl,hf⟩) (fun r h=>M.o_pure h)
  · rintro i ⟨a,b,_⟩ hi ⟨rfl,h⟩
    rename_i i
    dsimp only at hi h;have:=hl _ (Ct.memD l hi default);simp only [zaG];exact M.o_t (decide_eq_true (by omega)) (M.o_grd (decide_eq_true (by omega)) (M.o_pure ⟨rfl,⟨by dsimp only; omega,by dsimp only; omega⟩,by dsimp only; omega,by dsimp only; omega⟩))
  · rintro ⟨a,b,_⟩ ⟨rfl,h⟩;simp only [zaG];exact M.o_f (decide_eq_false (by omega)) (M.o_pure h)
theorem narrow_b {K:Int} {n:Nat} {l:List Span} (h:Ct.BIn K n l) {i:Nat} (hi:i<n) {m:Int} (hm:m=(i:Int)) {s:Span} (hs:(-K<=s.lo/\s.lo<=K)/\-K<=s.hi/\s.hi<=K):(zat m s l).Out (fun r=>Ct.BIn K n r):=by
  subst hm;have hl:=h.1;unfold zat;rw [Int.toNat_natCast];refine M.o_grd (gA2 (by omega) (by omega)) (M.o_bind (common_b (K:=K) _ _ (h.2 i hi) fun q hq=>?_) fun r hr=>M.o_pure (h.set i hr));rw [List.mem_singleton] at hq;subst hq;exact hs
theorem every_any (l:List Span) (so:Span->M Bool) (h:∀ t∈l,∃ b,(so t).Ends b):(zau l so).Out (fun _=>True):=by
  unfold zau zaI zbW;refine M.o_bind (P:=fun _=>True) (M.o_bind (P:=fun _=>True) (M.o_bind (P:=fun _=>True) (M.o_for l.length (fun i (z:Nat)=>z=i) ?_ ?_ rfl) ?_) fun _ _=>M.o_pure trivial) fun _ _=>M.o_pure trivial
  · rintro _ i hi rfl;simp only [zaL];obtain ⟨b,hb⟩:=h _ (Ct.memD l hi default);refine M.o_t (decide_eq_true (by omega)) (M.o_grd (decide_eq_true (by omega)) (M.o_bindE (a:=!b) ?_ (M.o_if (fun _=>M.o_pure trivial) (fun _=>M.o_pure rfl))));unfold zbz;exact M.i_bind hb M.i_pure
  · rintro _ rfl;simp only [zaL];exact M.o_f (decide_eq_false (by omega)) (M.o_pure trivial)
  · rintro (x | x) _
    · exact M.o_pure trivial
    · exact M.o_pure trivial
theorem greatest49_out (l:List Span) (hl:0<l.length):(zcR l).Out (fun r=>(∃ s∈l,r=s.lo)/\∀ s∈l,s.lo<=r):=by
  unfold zcR;refine M.o_grd (decide_eq_true (by omega)) (M.o_bindE (a:=(l.getD 0 default).lo) M.i_pure (M.o_bind (M.o_for l.length (fun i (z:Int × Nat)=>z.2=i/\(∃ s∈l,z.1=s.lo)/\∀ j,j<i->(l.getD j default).lo<=z.1) (Q:=fun r=>(∃ s∈l,r=s.lo)/\∀ s∈l,s.lo<=r) ?_ ?_ ⟨rfl,⟨_,Ct.memD l hl default,rfl⟩,fun j hj=>by omega⟩) (fun r h=>M.o_pure h)))
  · rintro i ⟨x,q⟩ hi ⟨e,⟨s,hs,h1⟩,h2⟩;dsimp only at e h1 h2;subst e;simp only [zcO];refine M.o_t (decide_eq_true (by omega)) (M.o_grd (decide_eq_true (by omega)) (M.o_bindE (a:=(l.getD q default).lo) M.i_pure (M.o_pure ⟨rfl,?_,fun j hj=>?_⟩)))
    · dsimp only;rcases Int.le_total x (l.getD q default).lo with h | h
      · exact ⟨_,Ct.memD l hi default,Int.max_eq_right h⟩
      · exact ⟨s,hs,(Int.max_eq_left h).trans h1⟩
    · dsimp only;by_cases e:j=q
      · subst e;exact Int.le_max_right _ _
      · exact Int.le_trans (h2 j (by omega)) (Int.le_max_left _ _)
  · rintro ⟨x,q⟩ ⟨e,h1,h2⟩;dsimp only at e h1 h2;simp only [zcO];refine M.o_f (decide_eq_false (by omega)) (M.o_pure ⟨h1,fun s hs=>?_⟩);obtain ⟨j,hj,rfl⟩:=mem_getD hs default;exact h2 j hj
theorem greatest50_out (l:List Span) (hl:0<l.length):(zb2 l).Out (fun r=>(∃ s∈l,r=s.hi)/\∀ s∈l,s.hi<=r):=by
  unfold zb2;refine M.o_grd (decide_eq_true (by omega)) (M.o_bindE (a:=(l.getD 0 default).hi) M.i_pure (M.o_bind (M.o_for l.length (fun i (z:Int × Nat)=>z.2=i/\(∃ s∈l,z.1=s.hi)/\∀ j,j<i->(l.getD j default).hi<=z.1) (Q:=fun r=>(∃ s∈l,r=s.hi)/\∀ s∈l,s.hi<=r) ?_ ?_ ⟨rfl,⟨_,Ct.memD l hl default,rfl⟩,fun j hj=>by omega⟩) (fun r h=>M.o_pure h)))
  · rintro i ⟨x,q⟩ hi ⟨e,⟨s,hs,h1⟩,h2⟩;dsimp only at e h1 h2;subst e;simp only [zc0];refine M.o_t (decide_eq_true (by omega)) (M.o_grd (decide_eq_true (by omega)) (M.o_bindE (a:=(l.getD q default).hi) M.i_pure (M.o_pure ⟨rfl,?_,fun j hj=>?_⟩)))
    · dsimp only;rcases Int.le_total x (l.getD q default).hi with h | h
      · exact ⟨_,Ct.memD l hi default,Int.max_eq_right h⟩
      · exact ⟨s,hs,(Int.max_eq_left h).trans h1⟩
    · dsimp only;by_cases e:j=q
      · subst e;exact Int.le_max_right _ _
      · exact Int.le_trans (h2 j (by omega)) (Int.le_max_left _ _)
  · rintro ⟨x,q⟩ ⟨e,h1,h2⟩;dsimp only at e h1 h2;simp only [zc0];refine M.o_f (decide_eq_false (by omega)) (M.o_pure ⟨h1,fun s hs=>?_⟩);obtain ⟨j,hj,rfl⟩:=mem_getD hs default;exact h2 j hj
section
variable {pl ph base sc off:Int} {ms:List CMk} {nt:List CNt} {ts ss st:List Int}
theorem narrowed_any (R:Ct.Rt pl ph base sc off ms nt ts ss st) {mp:List (Int × CNt)} {sb:List Bool} (hs:Ct.StO st sb) {times:List Span} (hT:Ct.BIn 1000000000 ts.length times) :
    (zan pl ph base sc off ms nt mp sb times).Out (fun _=>True):=by
  have n40:=R.n40;have n1:=R.n1;have tl:=R.tl;have hTl:=hT.1;unfold zan;refine M.o_bindE (a:=times) (M.i_grd (decide_eq_true (by omega)) (M.i_grd (decide_eq_true (by simp; omega)) M.i_pure)) (M.o_bindE (a:=()) M.i_pure (M.o_bind (gaps_out R _ _ _ _ _ hs) ?_));rintro _ ⟨l,rfl,hl,hG⟩;dsimp only;refine M.o_bind (P:=fun r=>Ct.BIn 10000000000 ts.length r.2) (M.o_for (ms.length-1) (fun i (z:List Span × Nat)=>z.2=i/\Ct.BIn (1000000000+200000000*(i:Int)) ts.length z.1) ?_ ?_ ⟨rfl,hT.mono (by omega)⟩) ?_
  · rintro i ⟨l2,_⟩ hi ⟨rfl,h⟩
    rename_i i
    dsimp only at hi h;have hll:=h.1;have h1:=h.2 i (by omega);have h2:=hG i (by omega);have t1:=R.t i (by omega);have t2:=R.t (i+1) (by omega);simp only [zaH];refine M.o_t (decide_eq_true (by omega)) (M.o_grd (decide_eq_true (by omega)) (M.o_grd (decide_eq_true (by omega)) (M.o_grd (gA2 (by omega) (by omega)) (M.o_grd (gA2 (by omega) (by omega)) (M.o_bind (narrow_b (h.mono (K':=1000000000+200000000*((i+1:Nat):Int)) (by omega)) (i:=i+1) (by omega) (by omega) ⟨⟨by dsimp only; omega,by dsimp only; omega⟩,by dsimp only; omega,by dsimp only; omega⟩) (fun r hr=>M.o_pure ⟨rfl,hr⟩))))))
  · rintro ⟨l2,_⟩ ⟨rfl,h⟩;simp only [zaH];exact M.o_f (decide_eq_false (by omega)) (M.o_pure (h.mono (by omega)))
  rintro ⟨_,l4⟩ h4;dsimp only at h4 ⊢;refine M.o_bind (P:=fun r=>True) (M.o_for (ms.length-1) (fun i (z:List Span × Int)=>z.2=(ms.length:Int)-2-i/\Ct.BIn (10000000000+200000000*(i:Int)) ts.length z.1) ?_ ?_ ⟨by dsimp only; omega,h4.mono (by omega)⟩) ?_
  · rintro i ⟨l2,g⟩ hi ⟨e,h⟩;dsimp only at e h;have hll:=h.1;obtain ⟨k,rfl⟩:∃ k:Nat,g=(k:Int):=⟨Int.toNat g,by omega⟩
    have h1:=h.2 (k+1) (by omega);have h2:=hG k (by omega);have t1:=R.t k (by omega);have t2:=R.t (k+1) (by omega);simp only [zaO];rw [show Int.toNat ((k:Int)+1)=k+1 by omega,Int.toNat_natCast];refine M.o_t (decide_eq_true (by omega)) (M.o_grd (gA2 (by omega) (by omega)) (M.o_grd (gA2 (by omega) (by omega)) (M.o_grd (gA2 (by omega) (by omega)) (M.o_grd (gA2 (by omega) (by omega)) (M.o_grd (gA2 (by omega) (by omega)) (M.o_bind (narrow_b (h.mono (K':=10000000000+200000000*((i+1:Nat):Int)) (by omega)) (i:=k) (by omega) rfl ⟨⟨by dsimp only; omega,by dsimp only; omega⟩,by dsimp only; omega,by dsimp only; omega⟩) (fun r hr=>M.o_grd (gA2 (by omega) (by omega)) (M.o_pure ⟨by dsimp only; omega,hr⟩))))))))
  · rintro ⟨l2,g⟩ ⟨e,h⟩;dsimp only at e;simp only [zaO];exact M.o_f (decide_eq_false (by omega)) (M.o_pure trivial)
  rintro ⟨_,l7⟩ _;exact M.o_bind (every_any _ _ fun s _=>⟨_,M.i_pure⟩) fun _ _=>M.o_pure trivial
theorem parted_out (a b c d e:Int) (ms':List CMk) (nt':List CNt) (mp:List (Int × CNt)) {n:Nat} (hn:1<=n/\n<=40) {times:List Span} (hB:Ct.BIn 1000000000 n times) {mark ahead behind:Int} (hm:0<=mark/\mark<=n) (ha:-1000000000<=ahead/\ahead<=1000000000) (hb:-1000000000<=behind/\behind<=1000000000) :
    (za9 a b c d e ms' nt' mp times mark ahead behind).Out (fun l=>Ct.BIn 1000000000 n l/\∀ ts:List Int,ts.length=n->Ct.TIn ts times->(0<mark->ts.getD (Int.toNat (mark-1)) 0<=ahead)->(mark<n->behind<=ts.getD (Int.toNat mark) 0)->Ct.TIn ts l):=by
  have hl:=hB.1;unfold za9;refine M.o_bindE (a:=times) (M.i_grd (decide_eq_true (by omega)) (M.i_grd (decide_eq_true (by simp; omega)) M.i_pure)) ?_;refine M.o_if (fun h0=>?_) (fun h0=>?_)
  · have h0:=of_decide_eq_true h0;have b1:=hB.2 (Int.toNat (mark-1)) (by omega);have B1:=hB.set (Int.toNat (mark-1)) (s:={ (times.getD (Int.toNat (mark-1)) default) with hi:=min ((times.getD (Int.toNat (mark-1)) default).hi) ahead }) ⟨b1.1,by dsimp only; omega,by dsimp only; omega⟩;have T1:∀ ts:List Int,ts.length=n->Ct.TIn ts times->ts.getD (Int.toNat (mark-1)) 0<=ahead->Ct.TIn ts (times.set (Int.toNat (mark-1)) { (times.getD (Int.toNat (mark-1)) default) with hi:=min ((times.getD (Int.toNat (mark-1)) default).hi) ahead }):=fun ts e hT h=>hT.set _ fun hk=>by
      have:=hT.2 _ hk;exact ⟨this.1,by dsimp only; omega,by dsimp only; omega⟩
    generalize times.set (Int.toNat (mark-1)) { (times.getD (Int.toNat (mark-1)) default) with hi:=min ((times.getD (Int.toNat (mark-1)) default).hi) ahead }=l1 at B1 T1 ⊢;have hl1:=B1.1;refine M.o_grd (gA2 (by omega) (by omega)) (M.o_grd (gA2 (by omega) (by omega)) (M.o_if (fun h1=>?_) (fun h1=>?_)))
    · have h1:=of_decide_eq_true h1;have b2:=B1.2 (Int.toNat mark) (by omega);refine M.o_grd (gA2 (by omega) (by omega)) (M.o_pure ⟨B1.set _ ⟨⟨by dsimp only; omega,by dsimp only; omega⟩,b2.2⟩,fun ts e hT g1 g2=>(T1 ts e hT (g1 h0)).set _ fun hk=>?_⟩);have k1:=(T1 ts e hT (g1 h0)).2 _ hk;have:=g2 (by omega);exact ⟨⟨by dsimp only; omega,by dsimp only; omega⟩,k1.2⟩
    · exact M.o_pure ⟨B1,fun ts e hT g1 g2=>T1 ts e hT (g1 h0)⟩
  · have h0:=of_decide_eq_false h0;refine M.o_if (fun h1=>?_) (fun h1=>?_)
    · have h1:=of_decide_eq_true h1;have b2:=hB.2 (Int.toNat mark) (by omega);refine M.o_grd (gA2 (by omega) (by omega)) (M.o_pure ⟨hB.set _ ⟨⟨by dsimp only; omega,by dsimp only; omega⟩,b2.2⟩,fun ts e hT g1 g2=>hT.set _ fun hk=>?_⟩);have k1:=hT.2 _ hk;have:=g2 (by omega);exact ⟨⟨by dsimp only; omega,by dsimp only; omega⟩,k1.2⟩
    · exact M.o_pure ⟨hB,fun ts e hT g1 g2=>hT⟩
theorem dwithin_out (R:Ct.Rt pl ph base sc off ms nt ts ss st) (mp:List (Int × CNt)) {times:List Span} (hT:Ct.TIn ts times) {a:Nat} {b:Int} (ha:a<ms.length) (hb:(a:Int)<=b/\b<ms.length) :
    (zbV pl ph base sc off ms nt mp times (a:Int) b (-100000000) 100000000).Out (fun l=>Ct.BIn 1000000000 ts.length l/\(a=0->b+1=(ms.length:Int)->Ct.TIn ts l)):=by
  have n40:=R.n40;have n1:=R.n1;have tl:=R.tl;unfold zbV;refine M.o_grd (by decide) (M.o_bind (parted_out (n:=ts.length) _ _ _ _ _ _ _ _ ⟨by omega,by omega⟩ (hT.b R) ⟨by omega,by omega⟩ ⟨by omega,by omega⟩ ⟨by omega,by omega⟩) fun l1 h1=>?_);refine M.o_grd (gA2 (by omega) (by omega)) (M.o_grd (by decide) (M.o_bind (parted_out (n:=ts.length) _ _ _ _ _ _ _ _ ⟨by omega,by omega⟩ h1.1 ⟨by omega,by omega⟩ ⟨by omega,by omega⟩ ⟨by omega,by omega⟩) fun l2 h2=>M.o_pure ⟨h2.1,fun e1 e2=>?_⟩));refine h2.2 ts rfl (h1.2 ts rfl hT (fun h=>by omega) (fun h=>?_)) (fun h=>?_) (fun h=>by omega)
  · have:=R.t (Int.toNat (a:Int)) (by omega);omega
  · have:=R.t (Int.toNat (b+1-1)) (by omega);omega
/-- The greatest stage of all lies in what is returned. -/
theorem peak_out (R:Ct.Rt pl ph base sc off ms nt ts ss st) {top:Int} (h1:∃ i,i<ms.length/\ss.getD i 0=top) (h2:∀ i,i<ms.length->ss.getD i 0<=top) :
    (zbX pl ph base sc off ms nt st (-100000000) 100000000).Out (fun r=>(-3000000<=r.1/\r.1<=top)/\(top<=r.2.1/\r.2.1<=3000000)/\r.2.2=0):=by
  have n40:=R.n40;have n1:=R.n1;have tl:=R.tl;have sl:=R.sl;unfold zbX;refine M.o_bind (read_out R) ?_;rintro _ ⟨mp,sb,l1,l2,hmp,hsb,hT,hS,rfl⟩;have hl1:=hT.1;have hl2:=hS.1;refine M.o_f rfl (M.o_f (by decide) (M.o_bind (P:=fun r=>(-3000000<=r.1/\r.2.1<=3000000)/\Ct.Ct1 top r.1 r.2.1 r.2.2) (M.o_for ms.length (fun a (z:Int × Int × Bool × Nat)=>z.2.2.2=a/\(-3000000<=z.1/\z.2.1<=3000000)/\(0<a->Ct.Ct1 top z.1 z.2.1 z.2.2.1)) ?_ ?_ ⟨rfl,by dsimp only; omega,fun h=>by omega⟩) ?_))
  · rintro a ⟨x,y,met,_⟩ ha ⟨rfl,hb,hc⟩
    rename_i a
    dsimp only at ha hb hc;simp only [zbO];refine M.o_t (decide_eq_true (by omega)) (M.o_bind (P:=fun r=>(-3000000<=r.1/\r.2.1<=3000000)/\Ct.Ct1 top r.1 r.2.1 r.2.2) (M.o_for (ms.length-a) (fun i (z:Int × Int × Bool × Int)=>z.2.2.2=(a:Int)+(i:Int)/\(-3000000<=z.1/\z.2.1<=3000000)/\(0<a∨ms.length<=a+i->Ct.Ct1 top z.1 z.2.1 z.2.2.1)) ?_ ?_ ⟨by dsimp only; omega,hb,fun h=>hc (by omega)⟩) ?_)
    · rintro i ⟨x,y,met,b⟩ hi ⟨e,hb,hc⟩;dsimp only at e hb hc;subst e;simp only [zb3];rw [show max (-100000000:Int) (-100000001) = -100000000 from by decide,show min (100000000:Int) 100000001=100000000 from by decide];refine M.o_t (by rw [decide_eq_true (by omega)]; decide) (M.o_bind (dwithin_out R mp hT ha ⟨by omega,by omega⟩) fun l3 h3=>?_);have hnar:(zan pl ph base sc off ms nt mp sb l3).Out (fun r=>a=0->ms.length<=a+(i+1)->r.2=true):=by
        by_cases hc:a=0/\ms.length<=a+(i+1)
        · exact M.o_mono (narrowed_out R hsb (h3.2 hc.1 (by omega))) fun r hr _ _=>hr.2
        · exact M.o_mono (narrowed_any R hsb h3.1) fun r _ g1 g2=>absurd ⟨g1,g2⟩ hc
      refine M.o_bind hnar ?_;rintro ⟨l4,ok⟩ hok;dsimp only at hok ⊢;refine M.o_if (fun hk=>?_) (fun hk=>?_)
      · have hw:∀ s∈((l2.take (Int.toNat ((a:Int)+(i:Int)+1))).drop a),∃ j,j<ss.length/\s=l2.getD j default:=fun s hs=>by
          obtain ⟨j,hj,rfl⟩:=mem_getD (List.mem_of_mem_take (List.mem_of_mem_drop hs)) default;exact ⟨j,by omega,rfl⟩
        have hwl:0<((l2.take (Int.toNat ((a:Int)+(i:Int)+1))).drop a).length:=by rw [List.length_drop,List.length_take]; omega
        refine M.o_grd (gA2 (by omega) (by omega)) (M.o_grd (gA3 (by omega) (by omega) (by omega)) (M.o_bindE (a:=()) M.i_pure (M.o_bind (greatest49_out _ hwl) ?_)));rintro r5 ⟨⟨s5,hs5,rfl⟩,hm5⟩;refine M.o_bindE (a:=()) M.i_pure (M.o_bind (greatest50_out _ hwl) ?_);rintro r6 ⟨⟨s6,hs6,rfl⟩,hm6⟩;obtain ⟨j5,k5,rfl⟩:=hw _ hs5;obtain ⟨j6,k6,rfl⟩:=hw _ hs6;have v5:=hS.2 j5 k5;have v6:=hS.2 j6 k6;have w5:=h2 j5 (by omega);have hit:a=0->ms.length<=a+(i+1)->top<=(l2.getD j6 default).hi:=fun g1 g2=>by
          obtain ⟨q,hq,rfl⟩:=h1;have m1:l2.getD q default∈((l2.take (Int.toNat ((a:Int)+(i:Int)+1))).drop a):=by
            rw [g1,List.drop_zero,List.take_of_length_le (by omega)];exact Ct.memD l2 (by omega) default
          have:=hm6 _ m1;have:=hS.2 q (by omega);omega
        unfold zdf;cases met with
        | true =>
          refine M.o_bindE (a:=(_,_,_)) M.i_pure (M.o_grd (gA2 (by omega) (by omega)) (M.o_pure ⟨by dsimp only; omega,⟨by dsimp only; omega,by dsimp only; omega⟩,fun h=>⟨rfl,?_⟩⟩));dsimp only;by_cases g:0<a∨ms.length<=a+i
          · obtain ⟨_,c1,c2⟩:=hc g;omega
          · have:=hit (by omega) (by omega);omega
        | false =>
          refine M.o_bindE (a:=(_,_,_)) M.i_pure (M.o_grd (gA2 (by omega) (by omega)) (M.o_pure ⟨by dsimp only; omega,⟨by dsimp only; omega,by dsimp only; omega⟩,fun h=>⟨rfl,?_⟩⟩));dsimp only;by_cases g:0<a∨ms.length<=a+i
          · obtain ⟨c0,_⟩:=hc g;cases c0
          · have:=hit (by omega) (by omega);omega
      · refine M.o_grd (gA2 (by omega) (by omega)) (M.o_pure ⟨by dsimp only; omega,hb,fun h=>hc ?_⟩);by_cases g:0<a
        · exact .inl g
        · have:=hok (by omega) (by omega);rw [this] at hk;cases hk
    · rintro ⟨x,y,met,b⟩ ⟨e,hb,hc⟩;dsimp only at e hb hc;simp only [zb3];exact M.o_f (by rw [decide_eq_false (by omega)]; rfl) (M.o_pure ⟨hb,hc (.inr (by omega))⟩)
    · rintro ⟨x,y,met⟩ ⟨hb,hc⟩;exact M.o_pure ⟨rfl,hb,fun _=>hc⟩
  · rintro ⟨x,y,met,_⟩ ⟨rfl,hb,hc⟩;simp only [zbO];exact M.o_f (decide_eq_false (by omega)) (M.o_pure ⟨hb,hc (by omega)⟩)
  · rintro ⟨x,y,_⟩ ⟨hb,rfl,hc⟩;exact M.o_bindE (a:=(x,y,0)) M.i_pure (M.o_pure ⟨⟨hb.1,hc.1⟩,⟨hc.2,hb.2⟩,rfl⟩)
end
end Go.Proofs.YtbgoclcmgbpckabGreat
namespace Go.Nm
namespace Bk
/-- Stages of floods with what is known of them. -/
structure Spk (n:Nat) (l:List Span) (t:List Int):Prop where
  ll:l.length=n
  tl:t.length=n
  ok:∀ i,i<n->(0<=(l.getD i default).lo/\(l.getD i default).lo<=t.getD i 0)/\(t.getD i 0<=(l.getD i default).hi/\(l.getD i default).hi<=2000)/\t.getD i 0<600
theorem Spk.step {n:Nat} {l:List Span} {t:List Int} (h:Spk n l t) {s:Span} {x:Int} (h1:0<=s.lo/\s.lo<=x) (h2:x<=s.hi/\s.hi<=2000) (h3:x<600):Spk (n+1) (l++[s]) (t++[x]):=by
  have e1:=h.ll;have e2:=h.tl;refine ⟨by simp [e1],by simp [e2],fun i hi=>?_⟩;by_cases c:i<n
  · rw [Ct.apL (by omega),Ct.apL (by omega)];exact h.ok i c
  · rw [Ct.apE (by omega),Ct.apE (by omega)];exact ⟨h1,h2,h3⟩
/-- Years that are recorded, with what they really reached. -/
structure Ytp (s:Nat) (t:List Int) (ys:List Yr):Prop where
  e2:ys.length=s
  e3:s<=t.length
  all:∀ i,i<t.length->0<=t.getD i 0/\t.getD i 0<600
  y:∀ r∈ys,(1800<=r.year/\r.year<1800+(t.length:Int))/\(0<=r.lo/\r.lo<=t.getD (Int.toNat (r.year-1800)) 0)/\t.getD (Int.toNat (r.year-1800)) 0<=r.hi/\r.hi<=2000
  up:ys.Pairwise fun a b=>a.year<b.year
theorem Ytp.add {s:Nat} {t:List Int} {ys:List Yr} (h:Ytp s t ys) {x:Int} (h0:0<=x/\x<600):Ytp s (t++[x]) ys:=by
  have e3:=h.e3;refine ⟨h.e2,by simp; omega,fun i hi=>?_,fun r hr=>?_,h.up⟩
  · rw [List.length_append,List.length_singleton] at hi;by_cases c:i<t.length
    · rw [Ct.apL c];exact h.all i c
    · rw [Ct.apE (by omega)];exact h0
  · have:=h.y r hr;rw [List.length_append,List.length_singleton,Ct.apL (by omega)];omega
theorem Ytp.step {s:Nat} {t:List Int} {ys:List Yr} (h:Ytp s t ys) {x lo hi:Int} (h0:0<=lo/\lo<=x) (h1:x<=hi/\hi<=2000) (h2:x<600):Ytp (s+1) (t++[x]) (ys++[⟨1800+(t.length:Int),lo,hi⟩]):=by
  have e2:=h.e2;have e3:=h.e3;have A:=h.add (x:=x) ⟨by omega,h2⟩;refine ⟨by simp [e2],by simp; omega,A.all,fun r hr=>?_,?_⟩
  · rcases List.mem_append.1 hr with hr | hr
    · exact A.y r hr
    · rw [List.mem_singleton] at hr;subst hr;dsimp only;rw [List.length_append,List.length_singleton,Ct.apE (by omega)];omega
  · rw [List.pairwise_append];refine ⟨h.up,List.pairwise_singleton _ _,fun a ha b hb=>?_⟩;rw [List.mem_singleton] at hb;subst hb;exact (h.y a ha).1.2
theorem vl_self (t:List Int) (f:Int):vl t f f (Int.toNat (f+(t.length:Int)-1+1-f))=t:=by
  unfold vl;rw [show Int.toNat (f+(t.length:Int)-1+1-f)=t.length by omega];refine List.ext_getElem (by simp) fun i h1 h2=>?_;simp only [List.getElem_map,List.getElem_range];rw [show Int.toNat (f+(i:Int)-f)=i by omega,getD_el t h2]
end Bk
end Go.Nm
namespace Go.Proofs.YtbgoclcmgbpckabGreat
open Go Go.Nm
theorem aware12_ends:(zde).Ends true:=⟨400,by kernel_rfl⟩
theorem rt_top (ss:List Int) (h0:0<ss.length):(M.iter (za6 ss) (ss.getD 0 0,0)).Out (fun r=>(∃ i,i<ss.length/\ss.getD i 0=r)/\∀ i,i<ss.length->ss.getD i 0<=r):=by
  refine M.o_for ss.length (fun i (z:Int × Nat)=>z.2=i/\(∃ i,i<ss.length/\ss.getD i 0=z.1)/\∀ j,j<i->ss.getD j 0<=z.1) ?_ ?_ ⟨rfl,⟨0,h0,rfl⟩,fun j hj=>by omega⟩
  · rintro i ⟨x,q⟩ hi ⟨e,⟨k,hk,h1⟩,h2⟩;dsimp only at e h1 h2;subst e;simp only [za6];refine M.o_t (decide_eq_true (by omega)) (M.o_grd (decide_eq_true (by omega)) (M.o_pure ⟨rfl,?_,fun j hj=>?_⟩))
    · dsimp only;rcases Int.le_total x (ss.getD q 0) with h | h
      · exact ⟨q,hi,(Int.max_eq_right h).symm⟩
      · exact ⟨k,hk,h1.trans (Int.max_eq_left h).symm⟩
    · dsimp only;by_cases e:j=q
      · subst e;exact Int.le_max_right _ _
      · exact Int.le_trans (h2 j (by omega)) (Int.le_max_left _ _)
  · rintro ⟨x,q⟩ ⟨e,h1,h2⟩;dsimp only at e h1 h2;simp only [za6];exact M.o_f (decide_eq_false (by omega)) (M.o_pure ⟨h1,h2⟩)
theorem rt_charts (a b:List UInt8):(M.iter (zbv a b) (0,[],[])).Out (fun y=>∃ l t,y = .inr (l,t,t,l)/\Bk.Spk 2 l t):=by
  refine M.o_for 2 (fun i (z:Nat × List Span × List Int)=>z.1=i/\Bk.Spk i z.2.1 z.2.2) ?_ ?_ ⟨rfl,rfl,rfl,fun i hi=>by omega⟩
  · rintro i ⟨q,l,t⟩ hi ⟨e,hY⟩;dsimp only at e hY;subst e;have e1:=hY.ll;have e2:=hY.tl;have h3:([a,b].length:Int)=2:=rfl;simp only [zbv];refine M.o_t (decide_eq_true (by omega)) (M.o_grd (decide_eq_true (by omega)) (M.o_bindE (a:=(0,0)) M.i_pure (M.o_bind (made02_out rfl ⟨by omega,by omega⟩ SOk.zero) ?_)));rintro ⟨pl,ph,base,sc,off,ms,nt,ts,ss,st,y1,y2⟩ ⟨R,hbase,hss⟩;dsimp only at R hbase hss ⊢;have n1:=R.n1;have sl:=R.sl;obtain ⟨top,htop,hmax,hmx⟩:=rt_top ss (by omega);refine M.o_bind (peak_out R (top:=top) ?_ ?_) ?_
    · obtain ⟨i,hi,e⟩:=hmax;exact ⟨i,by omega,e⟩
    · exact fun i hi=>hmx i (by omega)
    rintro ⟨slo,shi,_⟩ ⟨⟨g1,g2⟩,⟨g3,g4⟩,rfl⟩;dsimp only at g1 g2 g3 g4 ⊢;have g5:-2000<=top/\top<=2000:=by
      obtain ⟨i,hi,e⟩:=hmax;have:=hss i (by omega);omega
    refine M.o_f (by rw [show ((ss.length:Int)==0)=false from beq_eq_false_iff_ne.2 (by omega)]; rfl) (M.o_grd (decide_eq_true (by omega)) (M.o_bindE htop (M.o_f (by rw [decide_eq_false (by omega),decide_eq_false (by omega)]; rfl) ?_)));refine M.o_grd (gA3 (by omega) (by omega) (by omega)) (M.o_grd (gA2 (by omega) (by omega)) (M.o_grd (gA3 (by omega) (by omega) (by omega)) (M.o_grd (decide_eq_true (by simp; omega)) (M.o_grd (gA3 (by omega) (by omega) (by omega)) (M.o_grd (decide_eq_true (by simp; omega)) (M.o_pure ⟨rfl,hY.step ?_ ?_ ?_⟩))))))
    · dsimp only; omega
    · dsimp only; omega
    · omega
  · rintro ⟨q,l,t⟩ ⟨e,hY⟩;dsimp only at e hY;subst e;simp only [zbv];exact M.o_f (decide_eq_false (by simp)) (M.o_pure ⟨l,t,rfl,hY⟩)
theorem rt_all {M':List Mrk} (hn:M'.length<=16):(M.iter (zbr M') (0,[])).Ends (Fl.ints M'.length,Fl.ints M'.length):=by
  refine M.i_for (fun i=>(i,Fl.ints i)) M'.length (fun i hi=>?_) ?_
  · simp only [zbr];refine M.i_t (decide_eq_true (by omega)) (M.i_grd (decide_eq_true (by rw [Fl.ints_len]; simp; omega)) ?_);rw [Fl.ints_succ];exact M.i_pure
  · simp only [zbr];exact M.i_f (decide_eq_false (by omega)) M.i_pure
theorem rt_b7 (b:List UInt8) {c u x:Int} {s k:Nat} {t:List Int} {ys:List Yr} (hS:SOk c u x) (hc:c<=1000) (hk:k<=10) (hT:t.length<=1000) (hY:Bk.Ytp s t ys) :
    (M.iter (zbl b) (u,x,(k:Int),t)).Out (fun y=>SOk (c+k) y.1 y.2.1/\y.2.2.1=y.2.2.2/\Bk.Ytp s y.2.2.2 ys/\y.2.2.2.length=t.length+k):=by
  refine M.o_for k (fun i (z:Int × Int × Int × List Int)=>SOk (c+i) z.1 z.2.1/\z.2.2.1=(k:Int)-i/\Bk.Ytp s z.2.2.2 ys/\z.2.2.2.length=t.length+i) ?_ ?_ ⟨by simpa using hS,by simp,hY,rfl⟩
  · rintro i ⟨u,x,n,t'⟩ hi ⟨h1,e,h2,h3⟩;dsimp only at h1 e h2 h3;subst e;simp only [zbl];refine M.o_t (decide_eq_true (by omega)) (M.o_bind (next_out h1 (by omega) (by omega)) ?_);rintro ⟨r,u1,x1⟩ ⟨k1,g1,_⟩;have g1:=g1 (by omega);dsimp only at k1 g1 ⊢;refine M.o_grd (decide_eq_true (by simp; omega)) (M.o_grd (gA2 (by omega) (by omega)) (M.o_pure ⟨k1.mono (by omega),by dsimp only; omega,h2.add (by omega),by simp; omega⟩))
  · rintro ⟨u,x,n,t'⟩ ⟨h1,e,h2,h3⟩;dsimp only at h1 e h2 h3;subst e;simp only [zbl];exact M.o_f (decide_eq_false (by omega)) (M.o_pure ⟨h1,rfl,h2,h3⟩)
theorem rt_b8 (b:List UInt8) {l7:List Int} {l8:List Span} {r102:List Int} {r0:List Span} (hP:Bk.Spk 3 (l8++[r0.getD 0 default]) (l7++[r102.getD 0 0])) :
    (M.iter (zbn b l7 l8 r102 r0) (0,0,0,[],[])).Out (fun y=>SOk 30 y.1 y.2.1/\y.2.2.1=y.2.2.2.2.2/\y.2.2.2.1=y.2.2.2.2.1/\Bk.Ytp 3 y.2.2.2.2.1 y.2.2.2.2.2/\y.2.2.2.2.1.length<=18):=by
  refine M.o_for 3 (fun i (z:Int × Int × Nat × List Yr × List Int)=>SOk (10*i) z.1 z.2.1/\z.2.2.1=i/\Bk.Ytp i z.2.2.2.2 z.2.2.2.1/\z.2.2.2.2.length<=6*i) ?_ ?_ ⟨by simpa using SOk.zero,rfl,⟨rfl,by simp,fun i hi=>by simp at hi,fun r hr=>(by cases hr),List.Pairwise.nil⟩,by simp⟩
  · rintro i ⟨u,x,q,ys,t⟩ hi ⟨h1,e,h2,h3⟩;dsimp only at h1 e h2 h3;subst e;have p1:=hP.ll;have p2:=hP.tl;have p3:=hP.ok q hi;have e2:=h2.e2;simp only [zbn];refine M.o_t (decide_eq_true (by omega)) (M.o_bind (next_out h1 (by omega) (by omega)) ?_);rintro ⟨r,u1,x1⟩ ⟨k1,g1,_⟩;have g1:=g1 (by omega);dsimp only at k1 g1 ⊢;obtain ⟨n,rfl⟩:∃ n:Nat,r=(n:Int):=⟨Int.toNat r,by omega⟩
    refine M.o_bind (rt_b7 b (k:=n) k1 (by omega) (by omega) (by omega) h2) ?_;rintro ⟨u2,x2,t1,t2⟩ ⟨k2,e3,h4,h5⟩;dsimp only at k2 e3 h4 h5 ⊢;subst e3;refine M.o_grd (gA2 (by omega) (by omega)) (M.o_grd (decide_eq_true (by omega)) (M.o_grd (decide_eq_true (by simp; omega)) (M.o_grd (decide_eq_true (by omega)) (M.o_grd (decide_eq_true (by simp; omega)) (M.o_pure ⟨k2.mono (by omega),rfl,h4.step p3.1 p3.2.1 p3.2.2,by simp; omega⟩)))))
  · rintro ⟨u,x,q,ys,t⟩ ⟨h1,e,h2,h3⟩;dsimp only at h1 e h2 h3;subst e;simp only [zbn];exact M.o_f (decide_eq_false (by omega)) (M.o_pure ⟨h1,rfl,rfl,h2,h3⟩)
theorem rt_b10 (t:List Int) (hl:t.length<=1000) {i:Nat} (hi:i<t.length):(M.iter (zbj t i) (0,0)).Ends ((t.countP (fun x=>decide (t.getD i 0<=x)):Nat):Int):=by
  refine M.Out.ends ?_;refine M.o_for t.length (fun k (z:Nat × Nat)=>z.2=k/\z.1=(t.take k).countP (fun x=>decide (t.getD i 0<=x))/\z.1<=k) ?_ ?_ ⟨rfl,by simp,Nat.le_refl _⟩
  · rintro k ⟨s,q⟩ hk ⟨e1,e2,e3⟩;dsimp only at e1 e2 e3;subst e1;have ht:=take_succ_D t q hk 0;simp only [zbj];refine M.o_t (decide_eq_true (by omega)) (M.o_grd (decide_eq_true (by omega)) (M.o_grd (decide_eq_true (by omega)) (M.o_if (fun hb=>?_) (fun hb=>?_))))
    · refine M.o_grd (gA2 (by omega) (by omega)) (M.o_pure ⟨rfl,?_,by dsimp only; omega⟩);dsimp only;rw [← ht,List.countP_append,← e2,List.countP_singleton];simp only [hb,if_true]
    · refine M.o_pure ⟨rfl,?_,by dsimp only; omega⟩;dsimp only;rw [← ht,List.countP_append,← e2,List.countP_singleton];simp only [hb,Bool.false_eq_true,if_false,Nat.add_zero]
  · rintro ⟨s,q⟩ ⟨e1,e2,e3⟩;dsimp only at e1 e2 e3;subst e1;simp only [zbj];refine M.o_f (decide_eq_false (by omega)) (M.o_pure ?_);rw [e2,List.take_length]
theorem rt_b11 (t:List Int) (hl:t.length<=1000) {r5 r6 v:Int} (hv:Bk.Top t (1+r6) v) (h6:0<=r6):(M.iter (zbf t r5 r6) (0,0,0)).Ends (((t.countP (fun x=>decide (r5<=x)):Nat):Int),v):=by
  refine M.Out.ends ?_;obtain ⟨v1,v2,v3,v4⟩:=id hv;refine M.o_for t.length (fun k (z:Nat × Int × Nat)=>z.2.2=k/\(z.1=(t.take k).countP (fun x=>decide (r5<=x))/\z.1<=k)/\0<=z.2.1/\z.2.1<=v/\∀ j,j<k->t.getD j 0<=v->t.getD j 0<=z.2.1) ?_ ?_ ⟨rfl,⟨by simp,Nat.le_refl _⟩,Int.le_refl _,v1,fun j hj=>by omega⟩
  · rintro k ⟨n,hgh,q⟩ hk ⟨e1,⟨e2,e3⟩,b1,b2,b3⟩;dsimp only at e1 e2 e3 b1 b2 b3;subst e1;have ht:=take_succ_D t q hk 0;simp only [zbf];have hiff:(1+r6<=((t.countP (fun x=>decide (t.getD q 0<=x)):Nat):Int))↔t.getD q 0<=v:=by
      constructor
      · intro hh;refine Int.not_lt.1 fun hn=>?_;have:=Bk.cnt_mono (L:=t) (v:=v+1) (w:=t.getD q 0) (by omega);omega
      · intro hh;have:=Bk.cnt_mono (L:=t) (v:=t.getD q 0) (w:=v) hh;omega
    have cnt:∀ m,m=n+(if r5<=t.getD q 0 then 1 else 0)->m=(t.take (q+1)).countP (fun x=>decide (r5<=x)):=by
      intro m hm;rw [hm,← ht,List.countP_append,← e2,List.countP_singleton];simp
    refine M.o_t (decide_eq_true (by omega)) (M.o_bindE (rt_b10 t hl hk) (M.o_if (fun hb=>?_) (fun hb=>?_)))
    · have hb:=hiff.1 (of_decide_eq_true hb);refine M.o_grd (decide_eq_true (by omega)) (M.o_grd (decide_eq_true (by omega)) (M.o_if (fun hc=>?_) (fun hc=>?_)))
      · have hc:=of_decide_eq_true hc;refine M.o_grd (gA2 (by omega) (by omega)) (M.o_pure ⟨rfl,⟨cnt _ (by rw [if_pos hc]),by dsimp only; omega⟩,by dsimp only; omega,by dsimp only; omega,fun j hj hjv=>?_⟩);dsimp only;by_cases e:j=q
        · subst e; omega
        · have:=b3 j (by omega) hjv; omega
      · have hc:=of_decide_eq_false hc;refine M.o_pure ⟨rfl,⟨cnt _ (by rw [if_neg hc]; rfl),by dsimp only; omega⟩,by dsimp only; omega,by dsimp only; omega,fun j hj hjv=>?_⟩;dsimp only;by_cases e:j=q
        · subst e; omega
        · have:=b3 j (by omega) hjv; omega
    · have hb:¬ t.getD q 0<=v:=fun hh=>of_decide_eq_false hb (hiff.2 hh);refine M.o_grd (decide_eq_true (by omega)) (M.o_if (fun hc=>?_) (fun hc=>?_))
      · have hc:=of_decide_eq_true hc;refine M.o_grd (gA2 (by omega) (by omega)) (M.o_pure ⟨rfl,⟨cnt _ (by rw [if_pos hc]),by dsimp only; omega⟩,b1,b2,fun j hj hjv=>?_⟩);by_cases e:j=q
        · subst e; exact absurd hjv hb
        · exact b3 j (by omega) hjv
      · have hc:=of_decide_eq_false hc;refine M.o_pure ⟨rfl,⟨cnt _ (by rw [if_neg hc]; rfl),by dsimp only; omega⟩,b1,b2,fun j hj hjv=>?_⟩;by_cases e:j=q
        · subst e; exact absurd hjv hb
        · exact b3 j (by omega) hjv
  · rintro ⟨n,hgh,q⟩ ⟨e1,⟨e2,e3⟩,b1,b2,b3⟩;dsimp only at e1 e2 e3 b1 b2 b3;subst e1;simp only [zbf];refine M.o_f (decide_eq_false (by omega)) (M.o_pure ?_);have hex:∃ x∈t,x=v:=by
      refine Classical.byContradiction fun hn=>?_;have:t.countP (fun x=>decide (v<=x))<=t.countP (fun x=>decide (v+1<=x)):=by
        refine List.countP_mono_left fun x hx hh=>?_;have hh:=of_decide_eq_true hh;have:x ≠ v:=fun e=>hn ⟨x,hx,e⟩;exact decide_eq_true (by omega)
      omega
    obtain ⟨x,hx,rfl⟩:=hex;obtain ⟨j,hj,hjx⟩:=mem_getD hx 0;have hh:=b3 j hj (by omega);rw [e2,List.take_length,show hgh=x by omega]
theorem rt_j12 {t:List Int} {a b C:Nat} (h0:0<t.length) (hl:t.length<=1000) (h1:a<=C) (h2:C<=b) (hb:b<=100000) :
    (zaQ t ((b / Nat.gcd b t.length:Nat):Int) ((t.length / Nat.gcd b t.length:Nat):Int) (C:Int) (a:Int) (b:Int)).Out (fun r=>r=true):=by
  obtain ⟨B1,B2,B3,B4⟩:=Bk.share_nat (n:=b) h0;have p2:a*(t.length / Nat.gcd b t.length)<=b / Nat.gcd b t.length*t.length:=by rw [B1]; exact Nat.mul_le_mul_right _ (by omega)
  have p3:b / Nat.gcd b t.length*t.length<=100000*1000:=Nat.mul_le_mul (by omega) hl;unfold zaQ;rw [← Int.natCast_mul,← Int.natCast_mul];have hT:((decide ((a:Int)<=(C:Int))&&decide ((C:Int)<=(b:Int)))&&decide (((a*(t.length / Nat.gcd b t.length):Nat):Int)<=((b / Nat.gcd b t.length*t.length:Nat):Int)))=true:=by
    rw [decide_eq_true (by omega),decide_eq_true (by omega),decide_eq_true (by omega)]; rfl
  refine M.o_grd (gI2 fun _=>by omega) (M.o_grd (gI2 fun _=>by omega) (M.o_bind (P:=fun z=>z=true) (M.o_opt (fun _=>⟨true,aware12_ends,rfl⟩) (fun h=>?_)) (fun z hz=>M.o_pure ?_)))
  · rw [hT] at h; cases h
  · subst hz;rw [hT]; rfl
theorem rt_j13 (years:List UInt8) (level times:Int) {l7:List Int} {l8:List Span} {r102:List Int} {r0:List Span} (hP:Bk.Spk 3 (l8++[r0.getD 0 default]) (l7++[r102.getD 0 0])) :
    (zaW years level times l7 l8 r102 r0).Out (fun r=>r=true):=by
  unfold zaW;refine M.o_bindE (a:=(0,0)) M.i_pure (M.o_bind (rt_b8 years hP) ?_);rintro ⟨u,x,y1,t1,t,ys⟩ ⟨k1,e1,e2,hY,hl⟩;dsimp only at k1 e1 e2 hY hl ⊢;have e1:=e1.symm;have e2:=e2.symm;subst e1 e2;have y2:=hY.e2;have y3:=hY.e3;refine M.o_grd (gA2 (by omega) (by omega)) (M.o_bind (noted_out k1 (by omega) (by omega) (by omega) (by omega) (by omega) hY.all) ?_);rintro ⟨n1,n2,n3,n4,u1,x1⟩ ⟨hN,_⟩;dsimp only at hN ⊢;refine M.o_bind (pick_num (by omega)) fun r5 h5=>?_;have h:Bk.Tr ys [⟨n1,n2,n3,n4⟩] 1800 (1800+(t.length:Int)-1) t:=by
    refine Bk.Tr.of (by omega) (by omega) (by omega) (by omega) (by omega) (by simp) (by omega) (fun i hi=>by have:=hY.all i hi; omega) ⟨fun r hr=>by have:=hY.y r hr; omega,hY.up⟩ fun o ho=>?_;rw [List.mem_singleton] at ho;subst ho;exact hN
  generalize hO:[(⟨n1,n2,n3,n4⟩:Old10)]=os at h ⊢;have hW:Bk.In 1800 (1800+(t.length:Int)-1) 1800 (1800+(t.length:Int)-1):=⟨Int.le_refl _,by omega,Int.le_refl _⟩
  have hd0:0<t.length:=by omega
  obtain ⟨a,b,ha,hb,ha1,hb1,gR⟩:=tr_returns h (st:=r5) (by omega);refine M.o_bindE (tr_holds h) (M.o_bindE gR (M.o_bind (pick_num (by omega)) fun r6 h6=>M.o_grd (gA2 (by omega) (by omega)) ?_));obtain ⟨p,q,g,tu,tv⟩:=tr_reaches h hW (n:=1+r6) (by omega);refine M.o_bindE g ?_;dsimp only;obtain ⟨A1,A2,A3,A4⟩:=Bk.share_nat (n:=a) hd0;obtain ⟨B1,B2,B3,B4⟩:=Bk.share_nat (n:=b) hd0;refine M.o_f (by rw [decide_eq_false (by omega),decide_eq_false (by omega)]; rfl) ?_;have hself:=Bk.vl_self t 1800;obtain ⟨w,tw⟩:=top_some (L:=t) (t:=1+r6) (fun x hx=>by
    obtain ⟨j,hj,rfl⟩:=mem_getD hx 0;have:=hY.all j hj;omega) (by omega)
  have q1:=h.lo_ct hW;have q2:=h.ct_hi hW;rw [hself] at q1 q2;have k3:=Bk.Top.le q1 tu tw;have k4:=Bk.Top.le q2 tw tv;refine M.o_bindE (rt_b11 t (by omega) tw (by omega)) ?_;dsimp only;have c1:=q1 r5;have c2:=q2 r5;have ha':=ha;have hb':=hb;rw [Bk.many_lo] at ha;rw [Bk.many_hi] at hb;have c3:t.countP (fun x=>decide (r5<=x))<=t.length:=List.countP_le_length;generalize hC:t.countP (fun x=>decide (r5<=x))=C at *;have m1:a<=C:=by omega
  have m2:C<=b:=by omega
  have p1:a / Nat.gcd a t.length*t.length<=C*(t.length / Nat.gcd a t.length):=by rw [A1]; exact Nat.mul_le_mul_right _ m1
  have p2:C*(t.length / Nat.gcd b t.length)<=b / Nat.gcd b t.length*t.length:=by rw [B1]; exact Nat.mul_le_mul_right _ m2
  have p3:b / Nat.gcd b t.length*t.length<=100000*1000:=Nat.mul_le_mul (by omega) (by omega);have p4:C*(t.length / Nat.gcd a t.length)<=1000*1000:=Nat.mul_le_mul (by omega) (by omega);rw [← Int.natCast_mul,← Int.natCast_mul,← Int.natCast_mul,← Int.natCast_mul];refine M.o_grd (gA2 (by omega) (by omega)) (M.o_grd (gA2 (by omega) (by omega)) (M.o_grd (gI2 fun _=>by omega) (M.o_grd (gI2 fun _=>by omega) (M.o_f ?_ ?_))))
  · rw [decide_eq_false (by omega),decide_eq_false (by omega),decide_eq_false (by omega),decide_eq_false (by omega)];rfl
  have hm:ys.getD 2 default∈ys:=by
    rw [getD_el ys (show 2<ys.length by omega)];exact List.getElem_mem _
  have hyr:=(hY.y _ hm).1;generalize (ys.getD 2 default).year=last at hyr ⊢;refine M.o_grd (decide_eq_true (by omega)) (M.o_bindE (tr_passed h (fr:=1800) (to:=last) (st:=r5) ⟨by omega,by omega,by omega⟩ (by omega)) (M.o_f rfl ?_));dsimp only;refine M.o_if (fun hb2=>?_) (fun hb2=>?_)
  · have hb2:=of_decide_eq_true hb2;refine M.o_grd (gA2 (by omega) (by omega)) (M.o_bindE (tr_passed h (fr:=last+1) (to:=1800+(t.length:Int)-1) (st:=r5) ⟨by omega,by omega,by omega⟩ (by omega)) (M.o_f rfl ?_));dsimp only;have z1:=Bk.many_part (Bk.lop r5) ys os (a:=1800) (m:=last) (b:=1800+(t.length:Int)-1) (by omega) (by omega);have z2:=Bk.many_part (Bk.hip r5) ys os (a:=1800) (m:=last) (b:=1800+(t.length:Int)-1) (by omega) (by omega);rw [← z1,← z2,ha',hb'];refine M.o_grd (gA2 (by omega) (by omega)) (M.o_grd (gA2 (by omega) (by omega)) (rt_j12 hd0 (by omega) m1 m2 hb1))
  · have hb2:=of_decide_eq_false hb2;obtain rfl:last=1800+(t.length:Int)-1:=by omega
    rw [ha',hb'];exact rt_j12 hd0 (by omega) m1 m2 hb1
theorem topReturned_ends (one two sites years:List UInt8) (level times:Int):(zdF one two sites years level times).Ends true:=by
  refine M.Out.ends ?_;unfold zdF;refine M.o_bind (rt_charts one two) ?_;rintro _ ⟨l,t,rfl,hS⟩;dsimp only;refine M.o_bindE (a:=(0,0)) M.i_pure (M.o_bind Made_out ?_);rintro ⟨S,M',R',st,ro,u,x⟩ h;dsimp only at h ⊢;have hm:=h.site.m;have hs:=h.site.s;have hn:=hs.n;have e1:=hS.ll;have e2:=hS.tl;refine M.o_bindE (rt_all hm.2) (M.o_bindE (Surface_ends h.site (Fl.ints_inc M') (h.tog (Fl.ints_ix M'))) ?_);dsimp only;have htl:=h.tl;have hsl:=Fl.surf_len S M' (Fl.ints M'.length);refine M.o_f ?_ ?_
  · rw [hsl,htl]; simp
  have hi:0<S.length:=by omega
  have hb:=h.bet (Fl.ints_ix M') hi;have hat:=Fl.surf_at (M:=M') (ms:=Fl.ints M'.length) hi;have hh:=Fl.stHi_le (M:=M') (p:=(S.getD 0 default).place) (Fl.ints M'.length);have h0:0<=Fl.stLo M' (Fl.ints M'.length) (S.getD 0 default).place:=(Fl.lo_fold (Fl.ints M'.length) 0).1;have ht0:=h.tr 0 hi;refine M.o_grd (decide_eq_true (by omega)) (M.o_grd (decide_eq_true (by omega)) (M.o_grd (decide_eq_true (by simp; omega)) (M.o_grd (decide_eq_true (by simp; omega)) (rt_j13 years level times (hS.step ?_ ?_ ?_)))))
  · rw [hat]; exact ⟨h0,hb.1⟩
  · rw [hat]; exact ⟨hb.2,hh⟩
  · omega
end Go.Proofs.YtbgoclcmgbpckabGreat
