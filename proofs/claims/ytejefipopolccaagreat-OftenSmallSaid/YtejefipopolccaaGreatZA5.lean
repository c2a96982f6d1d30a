/- Part 5 of the texts on which the proof rests. Conditions: none. -/
import Derived.KernelRfl
import Derived.Test.YtejefipopolccaaGreatZA4
set_option linter.unusedVariables false
set_option linter.unusedSimpArgs false
set_option linter.unusedSectionVars false
-- libL/PN.lean
namespace Go.Nm
namespace M
variable {α β σ ρ:Type}
def Out (m:M α) (Q:α->Prop):Prop:=∃ r,m.Ends r/\Q r
theorem o_of {m:M α} {a:α} {Q:α->Prop} (h:m.Ends a) (q:Q a):m.Out Q:=⟨a,h,q⟩
theorem o_pure {a:α} {Q:α->Prop} (h:Q a):(pure a).Out Q:=⟨a,i_pure,h⟩
theorem o_mono {m:M α} {P Q:α->Prop} (h:m.Out P) (k:∀ a,P a->Q a):m.Out Q:=by
  obtain ⟨a,h1,h2⟩:=h
  exact ⟨a,h1,k a h2⟩
theorem o_bind {m:M α} {k:α->M β} {P:α->Prop} {Q:β->Prop} (h:m.Out P) (h':∀ a,P a->(k a).Out Q):(bind m k).Out Q:=by
  obtain ⟨a,h1,h2⟩:=h
  obtain ⟨b,h3,h4⟩:=h' a h2
  exact ⟨b,i_bind h1 h3,h4⟩
theorem o_bindE {m:M α} {k:α->M β} {a:α} {Q:β->Prop} (h:m.Ends a) (h':(k a).Out Q):(bind m k).Out Q:=o_bind (o_of (Q:=fun x=>x=a) h rfl) (fun _ e=>by subst e; exact h')
theorem o_grd {b:Bool} {k:M α} {Q:α->Prop} (hb:b=true) (h:k.Out Q):(grd b k).Out Q:=by subst hb; exact h
theorem o_grdD {p:Prop} [Decidable p] {k:M α} {Q:α->Prop} (hp:p) (h:k.Out Q):(grd (decide p) k).Out Q:=o_grd (decide_eq_true hp) h
theorem o_if {b:Bool} {x y:M α} {Q:α->Prop} (h:b=true->x.Out Q) (h':b=false->y.Out Q):(bif b then x else y).Out Q:=by
  cases b with
  | true=>exact h rfl
  | false=>exact h' rfl
theorem o_t {b:Bool} {x y:M α} {Q:α->Prop} (hb:b=true) (h:x.Out Q):(bif b then x else y).Out Q:=by subst hb; exact h
theorem o_f {b:Bool} {x y:M α} {Q:α->Prop} (hb:b=false) (h:y.Out Q):(bif b then x else y).Out Q:=by subst hb; exact h
/-- What a round leaves. -/
def Rd (J:Nat->σ->Prop) (Q:ρ->Prop) (m:Nat):σ ⊕ ρ->Prop
  | .inl s=>∃ m',m'<m/\J m' s
  | .inr r=>Q r
theorem o_iter {body:σ->M (σ ⊕ ρ)} {Q:ρ->Prop} (J:Nat->σ->Prop) (round:∀ m s,J m s->(body s).Out (Rd J Q m)):∀ (m:Nat) (s:σ),J m s->(iter body s).Out Q:=by
  intro m
  induction m using Nat.strongRecOn with
  | _ m ih =>
    intro s hs
    obtain ⟨x,h1,h2⟩:=round m s hs
    cases x with
    | inl s' =>
      obtain ⟨m',hlt,hj⟩:=h2
      obtain ⟨r,h3,h4⟩:=ih m' hlt s' hj
      exact ⟨r,i_next h1 h3,h4⟩
    | inr r=>exact ⟨r,i_stop h1,h2⟩
/-- A loop that counts from 0 to n. -/
theorem o_for {body:σ->M (σ ⊕ ρ)} {Q:ρ->Prop} (n:Nat) (J:Nat->σ->Prop) (round:∀ i s,i<n->J i s->(body s).Out (fun x=>match x with | .inl s'=>J (i+1) s' | .inr r=>Q r))
    (last:∀ s,J n s->(body s).Out (fun x=>match x with | .inl _=>False | .inr r=>Q r)) {s:σ} (h:J 0 s):(iter body s).Out Q:=by
  refine o_iter (fun m s=>∃ i,i<=n/\m=n-i/\J i s) ?_ n s ⟨0,Nat.zero_le _,rfl,h⟩
  rintro m s ⟨i,hi,rfl,hj⟩
  by_cases e:i<n
  · refine o_mono (round i s e hj) ?_
    intro x hx
    cases x with
    | inl s'=>exact ⟨n-(i+1),by omega,i+1,e,rfl,hx⟩
    | inr r=>exact hx
  · obtain rfl:i=n:=by omega
    refine o_mono (last s hj) ?_
    intro x hx
    cases x with
    | inl s'=>exact hx.elim
    | inr r=>exact hx
end M
theorem M.i_f {α:Type} {b:Bool} {x y:M α} {r:α} (hb:b=false) (h:y.Ends r):(bif b then x else y).Ends r:=by subst hb; exact h
theorem M.i_for {σ ρ:Type} {body:σ->M (σ ⊕ ρ)} {r:ρ} (st:Nat->σ) (n:Nat) (step:∀ i,i<n->(body (st i)).Ends (.inl (st (i+1)))) (fin:(body (st n)).Ends (.inr r)):(M.iter body (st 0)).Ends r:=by
  refine M.i_loop (r:=r) (fun m s=>∃ i,i<=n/\m=n-i/\s=st i) ?_ n (st 0) ⟨0,Nat.zero_le _,rfl,rfl⟩
  rintro m s ⟨i,hi,rfl,rfl⟩
  by_cases h:i<n
  · exact .inl ⟨_,n-(i+1),by omega,step i h,i+1,h,rfl,rfl⟩
  · obtain rfl:i=n:=by omega
    exact .inr fin
theorem M.i_t {α:Type} {b:Bool} {x y:M α} {r:α} (hb:b=true) (h:x.Ends r):(bif b then x else y).Ends r:=by subst hb; exact h
theorem take_succ_D {α:Type} (l:List α) (i:Nat) (h:i<l.length) (d:α):l.take i++[l.getD i d]=l.take (i+1):=by
  rw [List.take_succ_eq_append_getElem h]
  simp [List.getD,h]
theorem gset {α:Type} (l:List α) (i j:Nat) (x d:α) (h:i<l.length):(l.set i x).getD j d=if j=i then x else l.getD j d:=by
  simp only [List.getD_eq_getElem?_getD,List.getElem?_set]
  by_cases e:i=j
  · subst e; simp [h]
  · rw [if_neg e,if_neg (fun h=>e h.symm)]
theorem getD_el {α:Type} (l:List α) {k:Nat} (h:k<l.length) (d:α):l.getD k d=l[k]:=by rw [List.getD_eq_getElem?_getD,List.getElem?_eq_getElem h,Option.getD_some]
theorem gA2 {p q:Prop} [Decidable p] [Decidable q] (hp:p) (hq:q):(decide p&&decide q)=true:=by rw [decide_eq_true hp,decide_eq_true hq]; rfl
theorem gA3 {p q r:Prop} [Decidable p] [Decidable q] [Decidable r] (hp:p) (hq:q) (hr:r):(decide p&&decide q&&decide r)=true:=by rw [decide_eq_true hp,decide_eq_true hq,decide_eq_true hr]; rfl
theorem mem_getD {α:Type} {l:List α} {x:α} (h:x∈l) (d:α):∃ i,i<l.length/\l.getD i d=x:=by
  obtain ⟨i,hi,e⟩:=List.getElem_of_mem h
  exact ⟨i,hi,by rw [getD_el l hi d]; exact e⟩
end Go.Nm
-- libO/OP.lean
namespace Go.Nm
namespace Pk
/-- The first peak behind the flood of each one, and how many floods are over when a peak comes. -/
structure Fl (n:Nat) (nx kk:Nat->Nat):Prop where
  lt:∀ i,i<n->i<nx i
  le:∀ i,i<n->nx i<=n
  kle:∀ m,kk m<=m
  iff:∀ i m,i<n->m<=n->(i<kk m↔nx i<=m)
namespace Fl
variable {n:Nat} {nx kk:Nat->Nat}
theorem kmono (F:Fl n nx kk) {a b:Nat} (h:a<=b) (hb:b<=n):kk a<=kk b:=by
  rcases Nat.lt_or_ge (kk b) (kk a) with hlt | hge
  · have h1:=F.kle a
    have h2:=(F.iff (kk b) a (by omega) (by omega)).1 hlt
    have h3:=(F.iff (kk b) b (by omega) (by omega)).2 (by omega)
    omega
  · exact hge
end Fl
/-- The greatest worth of the peaks ahead of one. -/
structure IsS (n:Nat) (v:Nat->Int) (kk:Nat->Nat) (S:Nat->Int):Prop where
  z:S 0=0
  s:∀ i,i<n->S (i+1)=max (S i) (S (kk i)+v i)
/-- The greatest worth from a peak on. -/
structure IsB (n:Nat) (v:Nat->Int) (nx:Nat->Nat) (B:Nat->Int):Prop where
  z:B n=0
  s:∀ i,i<n->B i=max (max 0 (B (i+1))) (v i+B (nx i))
variable {n:Nat} {nx kk:Nat->Nat} {v S B:Nat->Int}
theorem IsS.mono (h:IsS n v kk S):∀ {a b:Nat},a<=b->b<=n->S a<=S b:=by
  intro a b hab
  induction hab with
  | refl=>intro _; exact Int.le_refl _
  | @step m k ih =>
    intro hb
    have:=ih (by omega)
    have e:=h.s m (by omega)
    rw [Nat.succ_eq_add_one]
    omega
theorem IsB.anti (h:IsB n v nx B):∀ {a b:Nat},a<=b->b<=n->B b<=B a:=by
  intro a b hab
  induction hab with
  | refl=>intro _; exact Int.le_refl _
  | @step m k ih =>
    intro hb
    have:=ih (by omega)
    have e:=h.s m (by omega)
    rw [Nat.succ_eq_add_one]
    omega
theorem IsB.pos (h:IsB n v nx B) {i:Nat} (hi:i<=n):0<=B i:=by
  have:=h.anti hi (Nat.le_refl _)
  rw [h.z] at this
  exact this
theorem fwd (F:Fl n nx kk) (hS:IsS n v kk S) (hB:IsB n v nx B):∀ i,i<=n->∀ m,m<=n->(∀ j,j<i->nx j<=m)->(i=0->True)->S i+B m<=B 0:=by
  intro i
  induction i using Nat.strongRecOn with
  | _ i ih =>
    intro hi m hm hj _
    cases i with
    | zero =>
      rw [hS.z]
      have:=hB.anti (Nat.zero_le m) hm
      omega
    | succ i =>
      have e:=hS.s i (by omega)
      have k1:=ih i (by omega) (by omega) m hm (fun j hj'=>hj j (by omega)) (fun _=>trivial)
      have h1:=hj i (by omega)
      have b1:=hB.s i (by omega)
      have a1:=hB.anti h1 hm
      have kl:=F.kle i
      have k2:=ih (kk i) (by omega) (by omega) i (by omega) (fun j hj'=>(F.iff j i (by omega) (by omega)).1 hj') (fun _=>trivial)
      omega
theorem bwd (F:Fl n nx kk) (hS:IsS n v kk S) (hB:IsB n v nx B):∀ d i,i+d=n->B i+S (kk i)<=S n:=by
  intro d
  induction d using Nat.strongRecOn with
  | _ d ih =>
    intro i hi
    cases d with
    | zero =>
      obtain rfl:i=n:=by omega
      rw [hB.z]
      have:=hS.mono (F.kle i) (Nat.le_refl _)
      omega
    | succ d =>
      have e:=hB.s i (by omega)
      have k1:=ih d (by omega) (i+1) (by omega)
      have m1:=hS.mono (F.kmono (Nat.le_succ i) (by omega)) (Nat.le_trans (F.kle (i+1)) (by omega))
      have l1:=F.lt i (by omega)
      have l2:=F.le i (by omega)
      have k2:=ih (n-nx i) (by omega) (nx i) (by omega)
      have q:=(F.iff i (nx i) (by omega) l2).2 (Nat.le_refl _)
      have m2:=hS.mono q (Nat.le_trans (F.kle (nx i)) l2)
      have s1:=hS.s i (by omega)
      have m3:=hS.mono (Nat.le_trans (F.kle i) (show i<=n by omega)) (Nat.le_refl n)
      rw [Nat.succ_eq_add_one] at *
      omega
/-- Reckoned from either end it is the same. -/
theorem both (F:Fl n nx kk) (hS:IsS n v kk S) (hB:IsB n v nx B):B 0=S n:=by
  have h1:=fwd F hS hB n (Nat.le_refl _) n (Nat.le_refl _) (fun j hj=>F.le j hj) (fun _=>trivial)
  have h2:=bwd F hS hB n 0 (by omega)
  have h3:kk 0=0:=by have:=F.kle 0; omega
  rw [h3,hS.z] at h2
  rw [hB.z] at h1
  omega
/-- The sum of a function's values from a to b. -/
def sm (d:Nat->Int) (a:Nat):Nat->Int
  | 0=>0
  | k+1=>sm d a k+d (a+k)
theorem sm_add (d:Nat->Int) (a j k:Nat):sm d a (j+k)=sm d a j+sm d (a+j) k:=by
  induction k with
  | zero=>simp [sm]
  | succ k ih=>rw [← Nat.add_assoc]; simp only [sm]; rw [ih,Nat.add_assoc]; omega
end Pk
end Go.Nm
-- libO/OQ.lean
namespace Go.Nm
namespace Pk
def dayAt (l:List Pk) (i:Nat):Int:=(l.getD i default).day
def stAt (l:List Pk) (i:Nat):Int:=(l.getD i default).stage
/-- Days that rise. -/
def Up (l:List Pk):Prop:=∀ i j,i<j->j<l.length->dayAt l i<dayAt l j
theorem Up.le {l:List Pk} (h:Up l) {i j:Nat} (hij:i<=j) (hj:j<l.length):dayAt l i<=dayAt l j:=by
  rcases Nat.lt_or_eq_of_le hij with e | e
  · have:=h i j e hj
    omega
  · subst e; exact Int.le_refl _
theorem Up.lt_iff {l:List Pk} (h:Up l) {i j:Nat} (hi:i<l.length) (hj:j<l.length):dayAt l i<dayAt l j↔i<j:=by
  constructor
  · intro e
    rcases Nat.lt_or_ge i j with k | k
    · exact k
    · have:=h.le k hi
      omega
  · intro e
    exact h i j e hj
theorem tw_lt {l:List Pk} {p:Pk->Bool}:∀ {j:Nat},j<(l.takeWhile p).length↔j<l.length/\∀ k,k<=j->p (l.getD k default)=true:=by
  induction l with
  | nil=>intro j; simp
  | cons a l ih =>
    intro j
    rw [List.takeWhile_cons]
    by_cases e:p a=true
    · rw [if_pos e]
      cases j with
      | zero=>simp [e]
      | succ j =>
        simp only [List.length_cons,Nat.succ_lt_succ_iff,ih]
        refine and_congr_right fun _=>⟨fun h k hk=>?_,fun h k hk=>?_⟩
        · cases k with
          | zero=>simpa using e
          | succ k=>simpa using h k (by omega)
        · simpa using h (k+1) (by omega)
    · rw [if_neg e]
      simp only [List.length_nil,Nat.not_lt_zero,false_iff]
      intro h
      exact e (by simpa using h.2 0 (Nat.zero_le _))
theorem tw_le (l:List Pk) (p:Pk->Bool):(l.takeWhile p).length<=l.length:=by
  induction l with
  | nil=>simp
  | cons a l ih =>
    rw [List.takeWhile_cons]
    split
    · simpa using ih
    · simp
/-- The first peak whose day is not ahead of a day. -/
def fst (l:List Pk) (t:Int):Nat:=(l.takeWhile fun p=>decide (p.day<t)).length
theorem fst_le (l:List Pk) (t:Int):fst l t<=l.length:=tw_le l _
theorem fst_lt {l:List Pk} (h:Up l) {t:Int} {j:Nat} (hj:j<l.length):j<fst l t↔dayAt l j<t:=by
  unfold fst
  rw [tw_lt]
  constructor
  · rintro ⟨_,k⟩
    simpa [dayAt] using k j (Nat.le_refl _)
  · intro e
    refine ⟨hj,fun k hk=>?_⟩
    have:=h.le hk hj
    show decide (dayAt l k<t)=true
    exact decide_eq_true (by omega)
/-- It is the only such number. -/
theorem fst_eq {l:List Pk} (h:Up l) {t:Int} {k:Nat} (hk:k<=l.length) (h1:∀ j,j<k->dayAt l j<t) (h2:k<l.length->t<=dayAt l k):fst l t=k:=by
  have hl:=fst_le l t
  rcases Nat.lt_trichotomy (fst l t) k with e | e | e
  · have:=(fst_lt h (t:=t) (j:=fst l t) (by omega)).2 (h1 _ e)
    omega
  · exact e
  · have:=(fst_lt h (t:=t) (j:=k) (by omega)).1 e
    have:=h2 (by omega)
    omega
def nx (l:List Pk) (A:Int) (i:Nat):Nat:=fst l (dayAt l i+A)
def kk (l:List Pk) (A:Int) (m:Nat):Nat:=if m<l.length then fst l (dayAt l m-A+1) else l.length
theorem fl {l:List Pk} (h:Up l) {A:Int} (hA:1<=A):Fl l.length (nx l A) (kk l A) where
  lt i hi:=(fst_lt h hi).2 (by omega)
  le i _:=fst_le _ _
  kle m:=by
    unfold kk
    split
    · rename_i hm
      rcases Nat.lt_or_ge m (fst l (dayAt l m-A+1)) with e | e
      · have:=(fst_lt h hm).1 e
        omega
      · exact e
    · omega
  iff i m hi hm:=by
    unfold kk nx
    split
    · rename_i hm
      rw [fst_lt h hi]
      have:=fst_lt h (t:=dayAt l i+A) hm
      omega
    · have:=fst_le l (dayAt l i+A)
      omega
end Pk
end Go.Nm
namespace Go.Nm
namespace Pk
/-- The greatest worth of the peaks ahead of one. -/
def Sf (kk:Nat->Nat) (v:Nat->Int):Nat->Int
  | 0=>0
  | i+1=>max (Sf kk v i) (Sf kk v (min (kk i) i)+v i)
termination_by i=>i
decreasing_by all_goals omega
theorem sf_is {n:Nat} {nx kk:Nat->Nat} (F:Fl n nx kk) (v:Nat->Int):IsS n v kk (Sf kk v) where
  z:=by rw [Sf]
  s i _:=by rw [Sf,Nat.min_eq_left (F.kle i)]
theorem IsS.uniq {n:Nat} {nx kk:Nat->Nat} {v S S':Nat->Int} (F:Fl n nx kk) (h:IsS n v kk S) (h':IsS n v kk S'):∀ i,i<=n->S i=S' i:=by
  intro i
  induction i using Nat.strongRecOn with
  | _ i ih =>
    intro hi
    cases i with
    | zero=>rw [h.z,h'.z]
    | succ i =>
      have:=F.kle i
      rw [h.s i (by omega),h'.s i (by omega),ih i (by omega) (by omega),ih (kk i) (by omega) (by omega)]
variable {n:Nat} {nx kk:Nat->Nat} {v S:Nat->Int}
/-- Dues behind so many peaks. -/
def Du (n:Nat) (kk:Nat->Nat) (S:Nat->Int) (i:Nat) (out:Nat->Int):Prop:=∀ m,m<=n->sm out 0 m=S (min i (kk m))
theorem sm_range (d:Nat->Int) {a b:Nat} (h:a<=b):sm d a (b-a)=sm d 0 b-sm d 0 a:=by
  have:=sm_add d 0 a (b-a)
  rw [show a+(b-a)=b by omega,Nat.zero_add] at this
  omega
theorem sm_set (d:Nat->Int) (p:Nat) (x:Int) (m:Nat):sm (fun k=>if k=p then d k+x else d k) 0 m=sm d 0 m+(if p<m then x else 0):=by
  induction m with
  | zero=>simp [sm]
  | succ m ih =>
    simp only [sm,ih,Nat.zero_add]
    by_cases e:m=p
    · subst e; simp; omega
    · by_cases e':p<m
      · rw [if_neg e,if_pos e',if_pos (by omega)]; omega
      · rw [if_neg e,if_neg e',if_neg (by omega)]; omega
theorem sm_zero (a m:Nat):sm (fun _=>0) a m=0:=by
  induction m with
  | zero=>rfl
  | succ m ih=>simp [sm,ih]
theorem Du.z (hS:IsS n v kk S):Du n kk S 0 (fun _=>0):=by
  intro m _
  rw [Nat.zero_min,hS.z]
  exact sm_zero 0 m
/-- What a peak's days have when its turn comes. -/
theorem Du.has (F:Fl n nx kk) {i:Nat} {out:Nat->Int} (h:Du n kk S i out) (hi:i<n):sm out i (nx i-i)=S i-S (kk i):=by
  have l1:=F.lt i hi
  have l2:=F.le i hi
  have k1:=(F.iff i (nx i) hi l2).2 (Nat.le_refl _)
  have k2:=F.kle i
  rw [sm_range out (Nat.le_of_lt l1),h (nx i) l2,h i (by omega),Nat.min_eq_left (Nat.le_of_lt k1),Nat.min_eq_right k2]
theorem Du.step (F:Fl n nx kk) (hS:IsS n v kk S) {i:Nat} {out:Nat->Int} (h:Du n kk S i out) (hi:i<n) {p:Nat} (hp:p+1=nx i) {x:Int} (hx:x=max 0 (v i-sm out i (nx i-i))):Du n kk S (i+1) (fun k=>if k=p then out k+x else out k):=by
  intro m hm
  rw [sm_set,h m hm]
  rw [h.has F hi] at hx
  have e:=hS.s i hi
  have q:=F.iff i m hi hm
  by_cases c:i<kk m
  · have:=q.1 c
    rw [if_pos (by omega),Nat.min_eq_left (by omega),Nat.min_eq_left (by omega)]
    omega
  · rw [if_neg (by omega),Nat.min_eq_right (by omega),Nat.min_eq_right (by omega)]
    omega
theorem kk_n (F:Fl n nx kk):kk n=n:=by
  have h1:=F.kle n
  rcases Nat.lt_or_ge (kk n) n with e | e
  · have:=(F.iff (kk n) n e (Nat.le_refl _)).2 (F.le _ e)
    omega
  · omega
section
variable (F:Fl n nx kk) (hS:IsS n v kk S) {out:Nat->Int} (h:Du n kk S n out)
include F h in
theorem Du.pre {m:Nat} (hm:m<=n):sm out 0 m=S (kk m):=by
  rw [h m hm,Nat.min_eq_right (Nat.le_trans (F.kle m) hm)]
include F hS h
omit hS in theorem Du.sum:sm out 0 n=S n:=by rw [h.pre F (Nat.le_refl _),kk_n F]
theorem Du.proves {i:Nat} (hi:i<n):v i<=sm out i (nx i-i):=by
  have l1:=F.lt i hi
  have l2:=F.le i hi
  have k1:=(F.iff i (nx i) hi l2).2 (Nat.le_refl _)
  rw [sm_range out (Nat.le_of_lt l1),h.pre F l2,h.pre F (Nat.le_of_lt hi)]
  have m1:S (i+1)<=S (kk (nx i)):=hS.mono k1 (Nat.le_trans (F.kle _) l2)
  have:=hS.s i hi
  omega
omit hS in theorem Du.at {p:Nat} (hp:p<n):out p=S (kk (p+1))-S (kk p):=by
  have h1:=h.pre F (show p+1<=n from hp)
  have h2:=h.pre F (Nat.le_of_lt hp)
  simp only [sm,Nat.zero_add] at h1
  omega
theorem Du.nn {p:Nat} (hp:p<n):0<=out p:=by
  rw [h.at F hp]
  have m1:S (kk p)<=S (kk (p+1)):=hS.mono (F.kmono (Nat.le_succ p) hp) (Nat.le_trans (F.kle _) hp)
  omega
theorem Du.most {c:Int} (hc:0<=c) (hv:∀ i,i<n->v i<=c) {p:Nat} (hp:p<n):out p<=c:=by
  rw [h.at F hp]
  have k:∀ j,kk p<=j->j<=kk (p+1)->S j<=S (kk p)+c:=by
    intro j hj
    induction hj with
    | refl=>intro _; omega
    | @step j hj ih =>
      intro hj2
      have:=ih (by omega)
      have hb:=F.kle (p+1)
      have e:=hS.s j (by omega)
      have q:=(F.iff j (p+1) (by omega) hp).1 (by omega)
      have:=F.lt j (by omega)
      have m1:=hS.mono (F.kmono (show j<=p by omega) (by omega)) (Nat.le_trans (F.kle p) (by omega))
      have:=hv j (by omega)
      rw [Nat.succ_eq_add_one]
      omega
  have:=k (kk (p+1)) (F.kmono (Nat.le_succ p) hp) (Nat.le_refl _)
  omega
end
end Pk
end Go.Nm
-- libO/OB.lean
namespace Go.Nm
namespace Bk
/-- What a recorded year says, where there is one. -/
def rec (ys:List Yr) (y:Int):Span:=match ys.find? (fun r=>r.year==y) with
  | some r=>⟨r.lo,r.hi⟩
  | none=>⟨0,2000⟩
/-- What an old note says besides. -/
def told (y:Int) (s:Span) (o:Old10):Span:=if o.src<=y/\y<=o.dst then (if o.passed.contains y then ⟨max s.lo o.stage,s.hi⟩ else ⟨s.lo,min s.hi (o.stage-1)⟩) else s
/-- The highest stages that a year can have: none if the least is above the greatest. -/
def kn (ys:List Yr) (os:List Old10) (y:Int):Span:=os.foldl (told y) (rec ys y)
/-- Whether a stage is one that a year can have, by what the notes say. -/
def can (ys:List Yr) (os:List Old10) (y x:Int):Bool:=(ys.all fun r=>!(r.year==y&&(decide (x<r.lo)||decide (x > r.hi))))&&(os.all fun o=>!(decide (o.src<=y)&&decide (y<=o.dst))||(o.passed.contains y==decide (o.stage<=x)))
structure OkY (f l:Int) (ys:List Yr):Prop where
  in_:∀ r∈ys,f<=r.year/\r.year<=l/\0<=r.lo/\r.lo<=r.hi/\r.hi<=2000
  up:ys.Pairwise fun a b=>a.year<b.year
structure OkO (f l:Int) (os:List Old10):Prop where
  in_:∀ o∈os,f<=o.src/\o.src<=o.dst/\o.dst<=l/\1<=o.stage/\o.stage<=2000
theorem rec_can {ys:List Yr} {f l y x:Int} (h:OkY f l ys) (h0:0<=x) (h1:x<=2000):(ys.all fun r=>!(r.year==y&&(decide (x<r.lo)||decide (x > r.hi))))=true↔(rec ys y).lo<=x/\x<=(rec ys y).hi:=by
  have hu:=h.up
  clear h
  unfold rec
  induction ys with
  | nil=>simp; omega
  | cons r ys ih =>
    obtain ⟨h2,h3⟩:=List.pairwise_cons.1 hu
    rw [List.all_cons,List.find?_cons]
    by_cases e:r.year=y
    · subst e
      have k:(ys.all fun r'=>!(r'.year==r.year&&(decide (x<r'.lo)||decide (x > r'.hi))))=true:=by
        rw [List.all_eq_true]
        intro r' hr
        have:=h2 r' hr
        have:(r'.year==r.year)=false:=by rw [beq_eq_false_iff_ne]; omega
        rw [this]; rfl
      simp only [beq_self_eq_true,k,Bool.and_true,Bool.true_and,Bool.not_eq_true',Bool.or_eq_false_iff,decide_eq_false_iff_not]
      omega
    · have e':(r.year==y)=false:=by rw [beq_eq_false_iff_ne]; exact e
      simp only [e',Bool.false_and,Bool.not_false,Bool.true_and]
      exact ih hu.of_cons
theorem told_can (y x:Int):∀ (os:List Old10) (s:Span),((s.lo<=x/\x<=s.hi)/\(os.all fun o=>!(decide (o.src<=y)&&decide (y<=o.dst))||(o.passed.contains y==decide (o.stage<=x)))=true)↔(os.foldl (told y) s).lo<=x/\x<=(os.foldl (told y) s).hi
  | [],s=>by simp
  | o :: os,s=>by
    rw [List.foldl_cons,← told_can y x os (told y s o),List.all_cons,Bool.and_eq_true,← and_assoc]
    refine and_congr_left fun _=>?_
    unfold told
    by_cases h:o.src<=y/\y<=o.dst
    · rw [if_pos h]
      simp only [h.1,h.2,decide_true,Bool.and_self,Bool.not_true,Bool.false_or,beq_iff_eq]
      by_cases c:o.passed.contains y=true
      · rw [if_pos c,c]
        by_cases d:o.stage<=x
        · simp only [d,decide_true,and_true]; omega
        · simp only [d,decide_false]; simp; omega
      · rw [if_neg c]
        rw [Bool.not_eq_true] at c
        rw [c]
        by_cases d:o.stage<=x
        · simp only [d,decide_true]; simp; omega
        · simp only [d,decide_false,and_true]; omega
    · rw [if_neg h]
      have:(!(decide (o.src<=y)&&decide (y<=o.dst)))=true:=by
        by_cases h1:o.src<=y
        · by_cases h2:y<=o.dst
          · exact absurd ⟨h1,h2⟩ h
          · simp [h2]
        · simp [h1]
      rw [this,Bool.true_or]
      simp
theorem can_iff {ys:List Yr} {os:List Old10} {f l y x:Int} (h:OkY f l ys) (h0:0<=x) (h1:x<=2000):can ys os y x=true↔(kn ys os y).lo<=x/\x<=(kn ys os y).hi:=by
  unfold can kn
  rw [Bool.and_eq_true,rec_can h h0 h1]
  exact told_can y x os (rec ys y)
theorem told_in {f l y:Int} {s:Span}:∀ {os:List Old10},(∀ o∈os,f<=o.src/\o.src<=o.dst/\o.dst<=l/\1<=o.stage/\o.stage<=2000)->0<=s.lo->s.lo<=2000->0<=s.hi->s.hi<=2000 →
    0<=(os.foldl (told y) s).lo/\(os.foldl (told y) s).lo<=2000/\0<=(os.foldl (told y) s).hi/\(os.foldl (told y) s).hi<=2000
  | [],_,h1,h2,h3,h4=>⟨h1,h2,h3,h4⟩
  | o :: os,h,h1,h2,h3,h4=>by
    have k:=h o (by simp)
    rw [List.foldl_cons]
    have q:0<=(told y s o).lo/\(told y s o).lo<=2000/\0<=(told y s o).hi/\(told y s o).hi<=2000:=by
      unfold told
      split
      · split
        · dsimp only; omega
        · dsimp only; omega
      · exact ⟨h1,h2,h3,h4⟩
    exact told_in (fun o' ho=>h o' (by simp [ho])) q.1 q.2.1 q.2.2.1 q.2.2.2
theorem rec_in {ys:List Yr} {f l:Int} (h:OkY f l ys) (y:Int):0<=(rec ys y).lo/\(rec ys y).lo<=2000/\0<=(rec ys y).hi/\(rec ys y).hi<=2000:=by
  unfold rec
  cases e:ys.find? (fun r=>r.year==y) with
  | none=>dsimp only; omega
  | some r =>
    have:=h.in_ r (List.mem_of_find?_eq_some e)
    dsimp only
    omega
theorem kn_in {ys:List Yr} {os:List Old10} {f l f' l':Int} (h:OkY f l ys) (k:OkO f' l' os) (y:Int):0<=(kn ys os y).lo/\(kn ys os y).lo<=2000/\0<=(kn ys os y).hi/\(kn ys os y).hi<=2000:=by
  obtain ⟨h1,h2,h3,h4⟩:=rec_in h y
  exact told_in k.in_ h1 h2 h3 h4
end Bk
end Go.Nm
-- libO/OS.lean
namespace Go.Nm
structure SOk (c u x:Int):Prop where
  u0:0<=u
  u1:u<=c
  x0:0<=x
  x1:x<251
theorem SOk.mono {c d u x:Int} (h:SOk c u x) (hd:c<=d):SOk d u x:=⟨h.u0,Int.le_trans h.u1 hd,h.x0,h.x1⟩
end Go.Nm
namespace Go.Proofs.YtejefipopolccaaGreat
open Go Go.Nm
end Go.Proofs.YtejefipopolccaaGreat
-- libO/OR.lean
namespace Go.Nm
theorem SOk.zero:SOk 0 0 0:=⟨Int.le_refl _,Int.le_refl _,Int.le_refl _,by decide⟩
end Go.Nm
namespace Go.Proofs.YtejefipopolccaaGreat
open Go Go.Nm
end Go.Proofs.YtejefipopolccaaGreat
-- libO/OW.lean
namespace Go.Proofs.YtejefipopolccaaGreat
open Go Go.Nm
theorem awake_ends:(zag).Ends true:=⟨300,by kernel_rfl⟩
end Go.Proofs.YtejefipopolccaaGreat
-- libO/QA.lean
namespace Go.Nm
namespace Pk
/-- The first that is not 0. -/
def fe (f:Nat->Int):Nat->Int
  | 0=>0
  | n+1=>if fe f n ≠ 0 then fe f n else f n
theorem fe_all {f:Nat->Int}:∀ {n:Nat},fe f n=0↔∀ i,i<n->f i=0
  | 0=>by simp [fe]
  | n + 1 => by
    have ih:=fe_all (f:=f) (n:=n)
    unfold fe
    constructor
    · intro h i hi
      split at h
      · rename_i h1; exact absurd h h1
      · rename_i h1
        rcases Nat.lt_or_eq_of_le (Nat.le_of_lt_succ hi) with e | e
        · exact ih.1 (Classical.not_not.1 h1) i e
        · rw [e]; exact h
    · intro h
      have h1:=ih.2 fun i hi=>h i (by omega)
      rw [if_neg (by rw [h1]; simp)]
      exact h n (by omega)
theorem fe_stop {f:Nat->Int} {i:Nat} (h0:fe f i=0) (h:f i ≠ 0):∀ {n:Nat},i<n->fe f n=f i
  | 0,hn=>by omega
  | n+1,hn=>by
    unfold fe
    rcases Nat.lt_or_eq_of_le (Nat.le_of_lt_succ hn) with e | e
    · have ih:=fe_stop h0 h e
      rw [if_pos (by rw [ih]; exact h),ih]
    · subst e
      rw [if_neg (by rw [h0]; simp)]
def pkB (p:Pk):Bool:=(decide (0<=p.day)&&decide (p.day<=4000))&&(decide (0<=p.stage)&&decide (p.stage<=2000))
def errP (l:List Pk) (i:Nat):Int:=if pkB (l.getD i default)=false then 110 else if 0<i/\(l.getD i default).day<=(l.getD (i-1) default).day then 9 else 0
def chkP (l:List Pk):Int:=if 40<l.length then 3 else fe (errP l) l.length
/-- Peaks that are right. -/
structure Ok (l:List Pk):Prop where
  few:l.length<=40
  day:∀ i,i<l.length->0<=dayAt l i/\dayAt l i<=4000
  st:∀ i,i<l.length->0<=stAt l i/\stAt l i<=2000
  up:Up l
theorem chk_ok {l:List Pk} (h:chkP l=0):Ok l:=by
  unfold chkP at h
  split at h
  · cases h
  · rename_i h40
    have k:=fe_all.1 h
    have k1:∀ i,i<l.length->pkB (l.getD i default)=true/\(0<i->dayAt l (i-1)<dayAt l i):=by
      intro i hi
      have:=k i hi
      unfold errP at this
      split at this
      · cases this
      · rename_i h1
        split at this
        · cases this
        · rename_i h2
          refine ⟨by simpa using h1,fun h0=>?_⟩
          unfold dayAt
          omega
    have k2:∀ i,i<l.length->(0<=dayAt l i/\dayAt l i<=4000)/\(0<=stAt l i/\stAt l i<=2000):=by
      intro i hi
      have:=(k1 i hi).1
      simpa [pkB,dayAt,stAt] using this
    refine ⟨by omega,fun i hi=>(k2 i hi).1,fun i hi=>(k2 i hi).2,?_⟩
    intro i j hij hj
    induction j with
    | zero=>omega
    | succ j ih =>
      have h1:=(k1 (j+1) hj).2 (by omega)
      simp only [Nat.add_sub_cancel] at h1
      rcases Nat.lt_or_eq_of_le (Nat.le_of_lt_succ hij) with e | e
      · have:=ih e (by omega)
        omega
      · subst e; exact h1
def askP (l:List Pk) (A T:Int):Int:=if chkP l ≠ 0 then chkP l else if (1<=A/\A<=60)/\(0<=T/\T<=2000) then 0 else 4
structure Asked (l:List Pk) (A T:Int):Prop where
  ok:Ok l
  ap:1<=A/\A<=60
  th:0<=T/\T<=2000
theorem ask_ok {l:List Pk} {A T:Int} (h:askP l A T=0):Asked l A T:=by
  unfold askP at h
  split at h
  · rename_i h1; exact absurd h h1
  · rename_i h1
    split at h
    · rename_i h2; exact ⟨chk_ok (Classical.not_not.1 h1),h2.1,h2.2⟩
    · cases h
end Pk
end Go.Nm
namespace Go.Proofs.YtejefipopolccaaGreat
open Go Go.Nm
theorem in_ends (x a b:Int):(zab x a b).Ends (decide (a<=x)&&decide (x<=b)):=M.i_pure
theorem out_ends (x a b:Int):(zac x a b).Ends (!(decide (a<=x)&&decide (x<=b))):=by
  have e:(decide (x<a)||decide (b<x)) = !(decide (a<=x)&&decide (x<=b)):=by
    by_cases h1:a<=x <;> by_cases h2:x<=b <;> simp [h1,h2] <;> omega
  unfold zac
  rw [e]
  exact M.i_pure
theorem gI {c:Bool} {p:Prop} [Decidable p] (h:c=true->p):(!c||decide p)=true:=by
  cases c with
  | true=>exact decide_eq_true (h rfl)
  | false=>rfl
theorem gI2 {c:Bool} {p q:Prop} [Decidable p] [Decidable q] (h:c=true->p/\q):(!c||(decide p&&decide q))=true:=by
  cases c with
  | true=>exact gA2 (h rfl).1 (h rfl).2
  | false=>rfl
theorem chk_ends (l:List Pk):(zaY l).Ends (Pk.chkP l):=by
  unfold zaY Pk.chkP
  refine M.i_if (fun hb=>?_) (fun hb=>?_)
  · have:=of_decide_eq_true hb
    rw [if_pos (by omega)]
    exact M.i_pure
  · have h40 := of_decide_eq_false hb
    rw [if_neg (by omega)]
    have out : (M.iter (zaV l) 0).Out (fun y => (match y with | .inl s => s | .inr (_ : Unit) => 0) = Pk.fe (Pk.errP l) l.length) := by
      refine M.o_for l.length (fun i s=>s=i/\Pk.fe (Pk.errP l) i=0) ?_ ?_ ⟨rfl,rfl⟩
      · rintro i s hi ⟨rfl,h0⟩
        simp only [zaV]
        have ha:(zcT ([]:List Yr) ([]:List Old10) 0 0 (l.getD s default)).Ends (Pk.pkB (l.getD s default)):=by
          unfold zcT Pk.pkB
          refine M.i_bind (in_ends _ _ _) (M.i_bind (a:=(decide (0<=(l.getD s default).day)&&decide ((l.getD s default).day<=4000))&&(decide (0<=(l.getD s default).stage)&&decide ((l.getD s default).stage<=2000))) (M.i_opt (fun h=>by rw [h,Bool.true_and]; exact in_ends _ _ _) (fun h=>by rw [h,Bool.false_and])) ?_)
          cases (decide (0<=(l.getD s default).day)&&decide ((l.getD s default).day<=4000)) <;> exact M.i_pure
        refine M.o_t (decide_eq_true (by omega)) (M.o_grdD (by omega) (M.o_bindE ha (M.o_if (fun h1=>?_) (fun h1=>?_))))
        · have e:Pk.errP l s=110:=by unfold Pk.errP; rw [if_pos (by simpa using h1)]
          exact M.o_pure (by rw [Pk.fe_stop h0 (by rw [e]; decide) hi,e])
        · have h1:Pk.pkB (l.getD s default)=true:=by simpa using h1
          refine M.o_grd (gI2 fun h=>by have:=of_decide_eq_true h; omega) (M.o_grd (gI2 fun h=>by have:=of_decide_eq_true h; omega) ?_)
          · rw [show Int.toNat ((s:Int)-1)=s-1 by omega]
            refine M.o_if (fun h2=>?_) (fun h2=>?_)
            · rw [Bool.and_eq_true,decide_eq_true_eq,decide_eq_true_eq] at h2
              have e:Pk.errP l s=9:=by unfold Pk.errP; rw [if_neg (by rw [h1]; simp),if_pos ⟨by omega,h2.2⟩]
              exact M.o_pure (by rw [Pk.fe_stop h0 (by rw [e]; decide) hi,e])
            · refine M.o_pure ⟨rfl,?_⟩
              have e:Pk.errP l s=0:=by
                unfold Pk.errP
                rw [if_neg (by rw [h1]; simp),if_neg]
                intro hh
                rw [Bool.and_eq_false_iff,decide_eq_false_iff_not,decide_eq_false_iff_not] at h2
                omega
              show (if Pk.fe (Pk.errP l) s ≠ 0 then _ else _)=_
              rw [if_neg (by rw [h0]; simp),e]
      · rintro s ⟨rfl,h0⟩
        simp only [zaV]
        exact M.o_f (by simp) (M.o_pure h0.symm)
    obtain ⟨y,h1,h2⟩:=out
    refine M.i_bind h1 ?_
    cases y with
    | inl s=>rw [← h2]; exact M.i_pure
    | inr u=>rw [← h2]; exact M.i_pure
theorem ref_chk (l:List Pk):(zbz l).Ends (Pk.chkP l):=by
  unfold zbz Pk.chkP
  refine M.i_if (fun hb=>?_) (fun hb=>?_)
  · have:=of_decide_eq_true hb
    rw [if_pos (by omega)]
    exact M.i_pure
  · have h40 := of_decide_eq_false hb
    rw [if_neg (by omega)]
    have out : (M.iter (za0 l) 0).Out (fun y => (match y with | .inl s => s | .inr (_ : Unit) => 0) = Pk.fe (Pk.errP l) l.length) := by
      refine M.o_for l.length (fun i s=>s=i/\Pk.fe (Pk.errP l) i=0) ?_ ?_ ⟨rfl,rfl⟩
      · rintro i s hi ⟨rfl,h0⟩
        simp only [za0]
        refine M.o_t (decide_eq_true (by omega)) (M.o_grdD (by omega) (M.o_bindE (out_ends _ _ _) (M.o_bindE (a:=!(!(decide (0<=(l.getD s default).day)&&decide ((l.getD s default).day<=4000)))&&!(decide (0<=(l.getD s default).stage)&&decide ((l.getD s default).stage<=2000))) (M.i_opt (fun h=>by rw [h,Bool.true_and]; exact out_ends _ _ _) (fun h=>by rw [h,Bool.false_and])) ?_)))
        have e1:((!(decide (0<=(l.getD s default).day)&&decide ((l.getD s default).day<=4000)))||(!(!(decide (0<=(l.getD s default).day)&&decide ((l.getD s default).day<=4000)))&&!(decide (0<=(l.getD s default).stage)&&decide ((l.getD s default).stage<=2000)))) = !(Pk.pkB (l.getD s default)):=by
          unfold Pk.pkB
          cases (decide (0<=(l.getD s default).day)&&decide ((l.getD s default).day<=4000)) <;> cases (decide (0<=(l.getD s default).stage)&&decide ((l.getD s default).stage<=2000)) <;> rfl
        rw [e1]
        refine M.o_if (fun h1=>?_) (fun h1=>?_)
        · have e:Pk.errP l s=110:=by unfold Pk.errP; rw [if_pos (by simpa using h1)]
          exact M.o_pure (by rw [Pk.fe_stop h0 (by rw [e]; decide) hi,e])
        · have h1:Pk.pkB (l.getD s default)=true:=by simpa using h1
          refine M.o_grd (gI2 fun h=>by have:=of_decide_eq_true h; omega) (M.o_grd (gI2 fun h=>by have:=of_decide_eq_true h; omega) ?_)
          · rw [show Int.toNat ((s:Int)-1)=s-1 by omega]
            refine M.o_if (fun h2=>?_) (fun h2=>?_)
            · rw [Bool.and_eq_true,decide_eq_true_eq,decide_eq_true_eq] at h2
              have e:Pk.errP l s=9:=by unfold Pk.errP; rw [if_neg (by rw [h1]; simp),if_pos ⟨by omega,h2.2⟩]
              exact M.o_pure (by rw [Pk.fe_stop h0 (by rw [e]; decide) hi,e])
            · refine M.o_pure ⟨rfl,?_⟩
              have e:Pk.errP l s=0:=by
                unfold Pk.errP
                rw [if_neg (by rw [h1]; simp),if_neg]
                intro hh
                rw [Bool.and_eq_false_iff,decide_eq_false_iff_not,decide_eq_false_iff_not] at h2
                omega
              show (if Pk.fe (Pk.errP l) s ≠ 0 then _ else _)=_
              rw [if_neg (by rw [h0]; simp),e]
      · rintro s ⟨rfl,h0⟩
        simp only [za0]
        exact M.o_f (by simp) (M.o_pure h0.symm)
    obtain ⟨y,h1,h2⟩:=out
    refine M.i_bind h1 ?_
    cases y with
    | inl s=>rw [← h2]; exact M.i_pure
    | inr u=>rw [← h2]; exact M.i_pure
theorem asked_ends (l:List Pk) (A T:Int):(zaN l A T).Ends (Pk.askP l A T):=by
  unfold zaN Pk.askP
  refine M.i_bind (chk_ends l) ?_
  by_cases h:Pk.chkP l=0
  · rw [h]
    refine M.i_bind (a:=decide (1<=A)&&decide (A<=60)) (M.i_opt (fun _=>in_ends _ _ _) (fun h=>by cases h)) ?_
    rw [if_neg (by simp)]
    by_cases h1:1<=A/\A<=60
    · rw [decide_eq_true h1.1,decide_eq_true h1.2]
      refine M.i_bind (a:=decide (0<=T)&&decide (T<=2000)) (M.i_opt (fun _=>in_ends _ _ _) (fun h=>by cases h)) ?_
      by_cases h2:0<=T/\T<=2000
      · rw [decide_eq_true h2.1,decide_eq_true h2.2,if_pos ⟨h1,h2⟩]
        exact M.i_f rfl M.i_pure
      · rw [if_neg (fun hh=>h2 hh.2)]
        have:(decide (0<=T)&&decide (T<=2000))=false:=by rw [Bool.and_eq_false_iff,decide_eq_false_iff_not,decide_eq_false_iff_not]; omega
        rw [this]
        exact M.i_t rfl M.i_pure
    · have:(decide (1<=A)&&decide (A<=60))=false:=by rw [Bool.and_eq_false_iff,decide_eq_false_iff_not,decide_eq_false_iff_not]; omega
      rw [this,if_neg (fun hh=>h1 hh.1)]
      exact M.i_bind (a:=false) (M.i_opt (fun h=>by cases h) (fun _=>rfl)) (M.i_t rfl M.i_pure)
  · have hb:(Pk.chkP l==0)=false:=beq_eq_false_iff_ne.2 h
    rw [if_pos h,hb]
    exact M.i_bind (a:=false) (M.i_opt (fun h=>by cases h) (fun _=>rfl)) (M.i_bind (a:=false) (M.i_opt (fun h=>by cases h) (fun _=>rfl)) (M.i_f rfl M.i_pure))
theorem ref_asked (l:List Pk) (A T:Int):(zaX l A T).Ends (Pk.askP l A T):=by
  unfold zaX Pk.askP
  refine M.i_bind (ref_chk l) ?_
  by_cases h:Pk.chkP l=0
  · rw [h,if_neg (by simp)]
    refine M.i_f rfl (M.i_bind (out_ends _ _ _) ?_)
    by_cases h1:1<=A/\A<=60
    · rw [decide_eq_true h1.1,decide_eq_true h1.2]
      refine M.i_bind (M.i_opt (r:=!(decide (0<=T)&&decide (T<=2000))) (fun _=>out_ends _ _ _) (fun h=>by cases h)) ?_
      by_cases h2:0<=T/\T<=2000
      · rw [decide_eq_true h2.1,decide_eq_true h2.2,if_pos ⟨h1,h2⟩]
        exact M.i_f rfl M.i_pure
      · rw [if_neg (fun hh=>h2 hh.2)]
        have:(decide (0<=T)&&decide (T<=2000))=false:=by rw [Bool.and_eq_false_iff,decide_eq_false_iff_not,decide_eq_false_iff_not]; omega
        rw [this]
        exact M.i_t rfl M.i_pure
    · have:(decide (1<=A)&&decide (A<=60))=false:=by rw [Bool.and_eq_false_iff,decide_eq_false_iff_not,decide_eq_false_iff_not]; omega
      rw [this,if_neg (fun hh=>h1 hh.1)]
      exact M.i_bind (a:=false) (M.i_opt (fun h=>by cases h) (fun _=>rfl)) (M.i_t rfl M.i_pure)
  · rw [if_pos h]
    exact M.i_t (bne_iff_ne.2 h) M.i_pure
end Go.Proofs.YtejefipopolccaaGreat
-- libO/QB.lean
namespace Go.Nm
namespace Pk
theorem getD_day {l:List Pk} {i:Nat}:(l.getD i default).day=dayAt l i:=rfl
theorem getD_st {l:List Pk} {i:Nat}:(l.getD i default).stage=stAt l i:=rfl
end Pk
end Go.Nm
namespace Go.Proofs.YtejefipopolccaaGreat
open Go Go.Nm
variable {l:List Pk} {A T:Int}
theorem cmp_ends (p:Pk) (t:Int):(zbC p t).Ends (if p.day<t then -1 else if t<p.day then 1 else 0):=by
  unfold zbC m_cmp_Compare_int m_cmp_isNaN_int
  refine M.i_bind (M.i_bind M.i_pure (M.i_bind M.i_pure (M.i_f (by simp) (M.i_f (by simp) ?_)))) M.i_pure
  by_cases h:p.day<t
  · rw [if_pos h]
    exact M.i_t (decide_eq_true h) M.i_pure
  · rw [if_neg h]
    refine M.i_f (decide_eq_false h) ?_
    by_cases h2:t<p.day
    · rw [if_pos h2]
      exact M.i_t (decide_eq_true h2) M.i_pure
    · rw [if_neg h2]
      exact M.i_f (decide_eq_false h2) M.i_pure
theorem search_out (h:Pk.Up l) (hl:l.length<=1000000) (t:Int):(zcV l t).Out (fun y=>y.1=(Pk.fst l t:Int)):=by
  unfold zcV
  refine M.o_bind (P:=fun i=>i=(Pk.fst l t:Int)) ?_ ?_
  · refine M.o_iter (fun m (s:Int × Int)=>0<=s.1/\s.1<=s.2/\s.2<=l.length/\m=Int.toNat (s.2-s.1)/\(∀ k:Nat,(k:Int)<s.1->Pk.dayAt l k<t)/\∀ k:Nat,s.2<=k->k<l.length->t<=Pk.dayAt l k) ?_ _ (0,(l.length:Int)) ⟨Int.le_refl _,by dsimp only; omega,Int.le_refl _,rfl,fun k hk=>by dsimp only at hk; omega,fun k h1 h2=>by dsimp only at h1; omega⟩
    rintro m ⟨i,j⟩ ⟨h0,h1,h2,rfl,h3,h4⟩
    dsimp only at h0 h1 h2 h3 h4 ⊢
    simp only [zcJ]
    refine M.o_if (fun hb=>?_) (fun hb=>?_)
    · have hb:=of_decide_eq_true hb
      refine M.o_grd (gA2 (by omega) (by omega)) (M.o_grd (gA2 (by omega) (by omega)) (M.o_grd (gA2 (by omega) (by omega)) (M.o_grd (gA2 (by omega) (by omega)) (M.o_bindE (cmp_ends _ _) ?_))))
      rw [Pk.getD_day]
      refine M.o_if (fun hc=>?_) (fun hc=>?_)
      · have hc:=of_decide_eq_true hc
        have hd:Pk.dayAt l (Int.toNat ((i+j) / 2))<t:=by
          refine Classical.byContradiction fun hn=>?_
          rw [if_neg hn] at hc
          split at hc <;> omega
        refine M.o_pure ⟨_,?_,by dsimp only; omega,by dsimp only; omega,h2,rfl,fun k hk=>?_,h4⟩
        · dsimp only; omega
        · dsimp only at hk
          have:=h.le (show k<=Int.toNat ((i+j) / 2) by omega) (by omega)
          omega
      · have hc:=of_decide_eq_false hc
        have hd:t<=Pk.dayAt l (Int.toNat ((i+j) / 2)):=by
          refine Classical.byContradiction fun hn=>?_
          rw [if_pos (by omega)] at hc
          omega
        refine M.o_pure ⟨_,?_,h0,by dsimp only; omega,by dsimp only; omega,rfl,h3,fun k hk1 hk2=>?_⟩
        · dsimp only; omega
        · dsimp only at hk1
          have:=h.le (show Int.toNat ((i+j) / 2)<=k by omega) hk2
          omega
    · have hb:=of_decide_eq_false hb
      obtain rfl:i=j:=by omega
      obtain ⟨i,rfl⟩:=Int.eq_ofNat_of_zero_le h0
      exact M.o_pure (by show (i:Int)=_; rw [Pk.fst_eq h (by omega) (fun k hk=>h3 k (by omega)) (fun hk=>h4 i (by omega) hk)])
  · rintro i rfl
    have hle:=Pk.fst_le l t
    refine M.o_grd (gI2 fun hb=>by have:=of_decide_eq_true hb; omega) ?_
    by_cases hb:((Pk.fst l t:Int)<(l.length:Int))
    · rw [decide_eq_true hb]
      exact M.o_bindE (M.i_opt (fun _=>cmp_ends _ _) (fun h=>by cases h)) (M.o_pure rfl)
    · rw [decide_eq_false hb]
      exact M.o_bindE (a:=0) (M.i_opt (fun h=>by cases h) (fun _=>rfl)) (M.o_pure rfl)
/-- Where the flood of a peak is over. -/
theorem next_ends (h:Pk.Asked l A T) {i:Nat} (hi:i<l.length):(zaZ (i:Int) l A).Ends (Pk.nx l A i:Int):=by
  have out:(zaZ (i:Int) l A).Out (fun y=>y=(Pk.nx l A i:Int)):=by
    unfold zaZ
    have hd:=h.ok.day i hi
    have ha:=h.ap
    have hf:=h.ok.few
    rw [Int.toNat_natCast,Pk.getD_day]
    refine M.o_grd (gA2 (by omega) (by omega)) (M.o_grd (gA2 (by omega) (by omega)) (M.o_bind (search_out h.ok.up (by omega) _) ?_))
    rintro ⟨a,b⟩ e
    exact M.o_pure e
  obtain ⟨y,h1,rfl⟩:=out
  exact h1
theorem window_ends (h:Pk.Asked l A T) {i:Nat} (hi:i<l.length):(zbj l (i:Int) A).Ends (Pk.nx l A i:Int):=by
  have out:(zbj l (i:Int) A).Out (fun y=>y=(Pk.nx l A i:Int)):=by
    unfold zbj
    have hd:0<=(l.getD i default).day/\(l.getD i default).day<=4000:=h.ok.day i hi
    have ha:=h.ap
    have hf:=h.ok.few
    refine M.o_bind (P:=fun y=>y=(Pk.nx l A i:Int)) ?_ (fun y e=>M.o_pure e)
    refine M.o_iter (fun m (s:Int)=>(i:Int)<=s/\s<=l.length/\m=Int.toNat (l.length-s)/\∀ k:Nat,(k:Int)<s->Pk.dayAt l k<Pk.dayAt l i+A) ?_ _ (i:Int) ⟨Int.le_refl _,by omega,rfl,fun k hk=>?_⟩
    · rintro m s ⟨h0,h1,rfl,h3⟩
      obtain ⟨s,rfl⟩:=Int.eq_ofNat_of_zero_le (show 0<=s by omega)
      simp only [zcC,Int.toNat_natCast]
      refine M.o_grd (gI2 fun hb=>by have:=of_decide_eq_true hb; omega) (M.o_grd (gI2 fun hb=>by omega) (M.o_grd (gI2 fun hb=>by omega) (M.o_if (fun hb=>?_) (fun hb=>?_))))
      · rw [Bool.and_eq_true,decide_eq_true_eq,decide_eq_true_eq] at hb
        refine M.o_grd (gA2 (by omega) (by omega)) (M.o_pure ⟨_,?_,by omega,by omega,rfl,fun k hk=>?_⟩)
        · omega
        · rcases Nat.lt_or_eq_of_le (show k<=s by omega) with e | e
          · exact h3 k (by omega)
          · rw [e]; exact hb.2
      · rw [Bool.and_eq_false_iff,decide_eq_false_iff_not,decide_eq_false_iff_not] at hb
        refine M.o_pure ?_
        have hb2:s<l.length->Pk.dayAt l i+A<=Pk.dayAt l s:=fun hk=>by
          show (l.getD i default).day+A<=(l.getD s default).day
          omega
        show (s:Int)=(Pk.nx l A i:Int)
        unfold Pk.nx
        rw [Pk.fst_eq (k:=s) h.ok.up (by omega) (fun k hk=>h3 k (by omega)) hb2]
    · have:=h.ok.up.le (show k<=i by omega) hi
      omega
  obtain ⟨y,h1,rfl⟩:=out
  exact h1
theorem greatest1 (a:Int):(zaG [a]).Ends (max 0 a):=by
  unfold zaG
  refine M.i_bind (M.i_next (s':=(max 0 a,1)) ?_ (M.i_stop (r:=max 0 a) ?_)) M.i_pure
  · simp only [zas]
    exact M.i_t rfl (M.i_grd rfl M.i_pure)
  · simp only [zas]
    exact M.i_f rfl M.i_pure
theorem greatest2 (a b:Int):(zaG [a,b]).Ends (max (max 0 a) b):=by
  unfold zaG
  refine M.i_bind (M.i_next (s':=(max 0 a,1)) ?_ (M.i_next (s':=(max (max 0 a) b,2)) ?_ (M.i_stop (r:=max (max 0 a) b) ?_))) M.i_pure
  · simp only [zas]
    exact M.i_t rfl (M.i_grd rfl M.i_pure)
  · simp only [zas]
    exact M.i_t rfl (M.i_grd rfl M.i_pure)
  · simp only [zas]
    exact M.i_f rfl M.i_pure
/-- What a peak has above the threshold. -/
def vP (l:List Pk) (T:Int) (i:Nat):Int:=Pk.stAt l i-T
theorem with_ends (h:Pk.Asked l A T) {i:Nat} (hi:i<l.length) {b:List Int} (hb:∀ k:Nat,k<=l.length->0<=b.getD k 0/\b.getD k 0<=100000):(zcv (i:Int) l T b l A).Ends (vP l T i+b.getD (Pk.nx l A i) 0):=by
  unfold zcv
  have hs:=h.ok.st i hi
  have ht:=h.th
  have hf:=h.ok.few
  have hn:=Pk.fst_le l (Pk.dayAt l i+A)
  have hq:=hb (Pk.nx l A i) hn
  rw [Int.toNat_natCast,Pk.getD_st]
  refine M.i_grd (gA2 (by omega) (by omega)) (M.i_grd (gA2 (by omega) (by omega)) (M.i_bind (next_ends h hi) ?_))
  rw [Int.toNat_natCast]
  have:(Pk.nx l A i:Int)<41:=by have:Pk.nx l A i<=l.length:=hn; omega
  exact M.i_grd (gA2 (by omega) this) (M.i_grd (gA2 (by omega) (by omega)) M.i_pure)
/-- The worths behind each peak. -/
theorem best_out (h:Pk.Asked l A T):(M.iter (zbZ l A T) (List.replicate 41 0,(l.length:Int)-1)).Out (fun b=>b.length=41/\Pk.IsB l.length (vP l T) (Pk.nx l A) (fun k=>b.getD k 0)/\∀ k:Nat,k<=l.length->0<=b.getD k 0/\b.getD k 0<=100000):=by
  have hf:=h.ok.few
  have F:=Pk.fl h.ok.up h.ap.1
  refine M.o_iter (fun m (s:List Int × Int)=>m=Int.toNat (s.2+1)/\-1<=s.2/\s.2<l.length/\s.1.length=41/\s.1.getD l.length 0=0/\(∀ k:Nat,s.2<k->k<l.length->s.1.getD k 0=max (max 0 (s.1.getD (k+1) 0)) (vP l T k+s.1.getD (Pk.nx l A k) 0))/\∀ k:Nat,k<=l.length->0<=s.1.getD k 0/\s.1.getD k 0<=2000*((l.length:Int)-k)) ?_ _ _
    ⟨rfl,by dsimp only; omega,by dsimp only; omega,by simp,?_,fun k h1 h2=>by dsimp only at h1; omega,fun k hk=>?_⟩
  · rintro m ⟨b,i⟩ ⟨rfl,h0,h1,h2,h3,h4,h5⟩
    dsimp only at h0 h1 h2 h3 h4 h5 ⊢
    simp only [zbZ]
    refine M.o_if (fun hb=>?_) (fun hb=>?_)
    · have hb:=of_decide_eq_true hb
      obtain ⟨i,rfl⟩:=Int.eq_ofNat_of_zero_le hb
      have hi:i<l.length:=by omega
      have l1:=F.lt i hi
      have l2:=F.le i hi
      have b5:∀ k:Nat,k<=l.length->0<=b.getD k 0/\b.getD k 0<=100000:=fun k hk=>by have:=h5 k hk; omega
      refine M.o_grd (gA2 (by omega) (by omega)) (M.o_grd (gA2 (by omega) (by omega)) (M.o_bindE (with_ends h hi b5) (M.o_bindE (greatest2 _ _) (M.o_grd (gA2 (by omega) (by omega)) (M.o_grd (gA2 (by omega) (by omega)) (M.o_pure ?_))))))
      rw [show Int.toNat ((i:Int)+1)=i+1 by omega,Int.toNat_natCast]
      have g:∀ k:Nat,(b.set i (max (max 0 (b.getD (i+1) 0)) (vP l T i+b.getD (Pk.nx l A i) 0))).getD k 0=if k=i then max (max 0 (b.getD (i+1) 0)) (vP l T i+b.getD (Pk.nx l A i) 0) else b.getD k 0:=fun k=>gset _ _ _ _ _ (by omega)
      refine ⟨_,by dsimp only; omega,rfl,by dsimp only; omega,by dsimp only; omega,by simpa using h2,?_,fun k hk1 hk2=>?_,fun k hk=>?_⟩
      · dsimp only
        rw [g,if_neg (by omega)]
        exact h3
      · dsimp only at hk1 ⊢
        by_cases e:k=i
        · subst e
          rw [g,if_pos rfl,g,if_neg (by omega),g,if_neg (by omega)]
        · have q1:=F.lt k hk2
          rw [g,if_neg e,g,if_neg (by omega),g,if_neg (by omega)]
          exact h4 k (by omega) hk2
      · dsimp only
        rw [g]
        split
        · rename_i e
          subst e
          have k1:=h5 (k+1) (by omega)
          have k2:=h5 _ l2
          have hs:=h.ok.st k hi
          have ht:=h.th
          unfold vP
          omega
        · exact h5 k hk
    · have hb:=of_decide_eq_false hb
      refine M.o_pure ⟨h2,⟨h3,fun k hk=>h4 k (by omega) hk⟩,fun k hk=>?_⟩
      have:=h5 k hk
      omega
  · dsimp only
    rw [List.getD_eq_getElem?_getD,List.getElem?_replicate]
    split <;> rfl
  · dsimp only
    rw [List.getD_eq_getElem?_getD,List.getElem?_replicate]
    split
    · show (0:Int)<=0/\(0:Int)<=_
      omega
    · show (0:Int)<=0/\(0:Int)<=_
      omega
end Go.Proofs.YtejefipopolccaaGreat
-- libO/QC.lean
namespace Go.Nm
namespace Pk
def cA (c:List Int) (k:Nat):Nat:=Int.toNat (c.getD k 0)
/-- A choice: a strictly increasing list of peaks. -/
def Ris (n:Nat) (c:List Int):Prop:=∀ k,k<c.length->0<=c.getD k 0/\c.getD k 0<n/\(0<k->c.getD (k-1) 0<c.getD k 0)
/-- Of floods of their own, each above the threshold. -/
def Good (l:List Pk) (A T:Int) (c:List Int):Prop:=∀ k,k<c.length->T<stAt l (cA c k)/\(0<k->A<=dayAt l (cA c k)-dayAt l (cA c (k-1)))
def wS (l:List Pk) (T:Int) (c:List Int):Nat->Int
  | 0=>0
  | k+1=>wS l T c k+(stAt l (cA c k)-T)
theorem Ris.low {n:Nat} {c:List Int} (h:Ris n c):∀ k:Nat,k<c.length->(k:Int)<=c.getD k 0
  | 0,hk=>by have:=(h 0 hk).1; omega
  | k+1,hk=>by
    have ih:=h.low k (by omega)
    have:=(h (k+1) hk).2.2 (by omega)
    rw [Nat.add_sub_cancel] at this
    omega
theorem Ris.few {n:Nat} {c:List Int} (h:Ris n c):c.length<=n:=by
  rcases Nat.eq_zero_or_pos c.length with e | e
  · omega
  · have h1:=h.low (c.length-1) (by omega)
    have h2:=h (c.length-1) (by omega)
    omega
theorem Ris.mono {n:Nat} {c:List Int} (h:Ris n c) {j k:Nat} (hjk:j<k) (hk:k<c.length):c.getD j 0<c.getD k 0:=by
  induction k with
  | zero=>omega
  | succ k ih =>
    have h1:=(h (k+1) hk).2.2 (by omega)
    rw [Nat.add_sub_cancel] at h1
    rcases Nat.lt_or_eq_of_le (Nat.le_of_lt_succ hjk) with e | e
    · have:=ih e (by omega)
      omega
    · rw [e]; exact h1
theorem Ris.at_ {n:Nat} {c:List Int} (h:Ris n c) {k:Nat} (hk:k<c.length):cA c k<n:=by
  have:=h k hk
  unfold cA
  omega
theorem wS_bound {l:List Pk} {T:Int} {c:List Int} (ho:Ok l) (hT:0<=T/\T<=2000) (h:Ris l.length c):∀ k:Nat,k<=c.length->-(2000*(k:Int))<=wS l T c k/\wS l T c k<=2000*(k:Int)
  | 0,_=>by simp [wS]
  | k+1,hk=>by
    have ih:=wS_bound ho hT h k (by omega)
    have:=ho.st _ (h.at_ (k:=k) (by omega))
    unfold wS
    omega
/-- What is said of a worth. -/
structure WoE (l:List Pk) (A T:Int) (c:List Int) (y:Int × Int):Prop where
  ask:askP l A T ≠ 0->y=(0,askP l A T)
  arg:askP l A T=0->¬ Ris l.length c->y=(0,2)
  bad:askP l A T=0->Ris l.length c->¬ Good l A T c->y=(0,7)
  ok:askP l A T=0->Ris l.length c->Good l A T c->y=(wS l T c c.length,0)
theorem WoE.uniq {l:List Pk} {A T:Int} {c:List Int} {y y':Int × Int} (h:WoE l A T c y) (h':WoE l A T c y'):y=y':=by
  by_cases h0:askP l A T=0
  · by_cases h1:Ris l.length c
    · by_cases h2:Good l A T c
      · rw [h.ok h0 h1 h2,h'.ok h0 h1 h2]
      · rw [h.bad h0 h1 h2,h'.bad h0 h1 h2]
    · rw [h.arg h0 h1,h'.arg h0 h1]
  · rw [h.ask h0,h'.ask h0]
end Pk
end Go.Nm
namespace Go.Proofs.YtejefipopolccaaGreat
open Go Go.Nm
variable {l:List Pk} {A T:Int}
theorem rising_out {c:List Int} {n:Nat} (hn:n<=1000000):(zau c 0 ((n:Int)-1)).Out (fun r=>r=true↔Pk.Ris n c):=by
  unfold zau
  refine M.o_bind (P:=fun y=>match y with | .inl (_:Unit)=>¬ Pk.Ris n c | .inr (_:Unit)=>Pk.Ris n c) ?_ ?_
  · refine M.o_for c.length (fun i (s:Int × Nat)=>s.2=i/\s.1=(if i=0 then 0 else c.getD (i-1) 0+1)/\∀ k,k<i->0<=c.getD k 0/\c.getD k 0<n/\(0<k->c.getD (k-1) 0<c.getD k 0)) ?_ ?_ ⟨rfl,rfl,fun k hk=>by omega⟩
    · rintro i ⟨f,s⟩ hi ⟨e1,e2,hJ⟩
      dsimp only at e1 e2
      subst e1
      simp only [zaC]
      refine M.o_t (decide_eq_true (by omega)) (M.o_grdD (by omega) (M.o_bindE (in_ends _ _ _) (M.o_if (fun hb=>?_) (fun hb=>?_))))
      · refine M.o_pure fun hR=>?_
        have:=hR s hi
        rw [Bool.not_eq_true',Bool.and_eq_false_iff,decide_eq_false_iff_not,decide_eq_false_iff_not] at hb
        rw [e2] at hb
        split at hb <;> omega
      · rw [Bool.not_eq_false',Bool.and_eq_true,decide_eq_true_eq,decide_eq_true_eq] at hb
        have h0:0<=f:=by
          rw [e2]
          split
          · exact Int.le_refl _
          · have:=hJ (s-1) (by omega)
            omega
        refine M.o_grd (gA2 (by omega) (by omega)) (M.o_pure ⟨rfl,?_,fun k hk=>?_⟩)
        · dsimp only
          rw [if_neg (by omega),Nat.add_sub_cancel]
        · rcases Nat.lt_or_eq_of_le (Nat.le_of_lt_succ hk) with e | e
          · exact hJ k e
          · subst e
            refine ⟨by omega,by omega,fun h1=>?_⟩
            rw [if_neg (by omega)] at e2
            omega
    · rintro ⟨f,s⟩ ⟨e1,e2,hJ⟩
      dsimp only at e1 e2
      subst e1
      simp only [zaC]
      exact M.o_f (by simp) (M.o_pure fun k hk=>hJ k hk)
  · intro y hy
    cases y with
    | inl u=>exact M.o_pure ⟨fun h=>(by cases h),fun h=>absurd h hy⟩
    | inr u=>exact M.o_pure ⟨fun _=>hy,fun _=>rfl⟩
theorem worth_out (l:List Pk) (A T:Int) (c:List Int):(zbJ l A T c).Out (Pk.WoE l A T c):=by
  unfold zbJ
  refine M.o_bindE (asked_ends l A T) ?_
  by_cases h0:Pk.askP l A T=0
  · have hA:=Pk.ask_ok h0
    have hf:=hA.ok.few
    have hT:=hA.th
    have hAp:=hA.ap
    rw [h0]
    refine M.o_f rfl (M.o_bind (rising_out (by omega)) fun r hr=>?_)
    cases r with
    | false =>
      have hR:¬ Pk.Ris l.length c:=fun h=>by have:=hr.2 h; cases this
      exact M.o_t rfl (M.o_pure ⟨fun h=>absurd h0 h,fun _ _=>rfl,fun _ h=>absurd h hR,fun _ h=>absurd h hR⟩)
    | true =>
      have hR:=hr.1 rfl
      have hfew:=hR.few
      refine M.o_f rfl (M.o_bind (P:=fun y=>match y with | .inl (_:Unit)=>¬ Pk.Good l A T c | .inr w=>Pk.Good l A T c/\w=Pk.wS l T c c.length) ?_ ?_)
      · refine M.o_for c.length (fun i (s:Int × Nat)=>s.2=i/\s.1=Pk.wS l T c i/\∀ k,k<i->T<Pk.stAt l (Pk.cA c k)/\(0<k->A<=Pk.dayAt l (Pk.cA c k)-Pk.dayAt l (Pk.cA c (k-1)))) ?_ ?_ ⟨rfl,rfl,fun k hk=>by omega⟩
        · rintro i ⟨w,s⟩ hi ⟨e1,e2,hJ⟩
          dsimp only at e1 e2
          subst e1
          subst e2
          simp only [zcu]
          have hc:=hR s hi
          have hcp:0<s->0<=c.getD (s-1) 0/\c.getD (s-1) 0<(l.length:Int):=fun h=>by have:=hR (s-1) (by omega); omega
          have hst:=hA.ok.st _ (hR.at_ hi)
          have hd:=hA.ok.day _ (hR.at_ hi)
          have hdp:0<s->0<=Pk.dayAt l (Pk.cA c (s-1))/\Pk.dayAt l (Pk.cA c (s-1))<=4000:=fun h=>hA.ok.day _ (hR.at_ (by omega))
          have hw:=Pk.wS_bound hA.ok hT hR s (by omega)
          unfold Pk.stAt at hst
          unfold Pk.dayAt at hd hdp
          unfold Pk.cA at hst hd hdp
          rw [show Int.toNat ((s:Int)-1)=s-1 by omega]
          refine M.o_t (decide_eq_true (by omega)) (M.o_grdD (by omega) (M.o_grd (gA2 hc.1 hc.2.1) (M.o_grd (gI2 fun h=>by omega) (M.o_grd (gI2 fun h=>?_) (M.o_grd (gI2 fun h=>?_) (M.o_grd (gI2 fun h=>?_) (M.o_if (fun hb=>?_) (fun hb=>?_))))))))
          · rw [Bool.and_eq_true,decide_eq_true_eq] at h; omega
          · rw [Bool.and_eq_true,decide_eq_true_eq] at h
            exact hcp (by omega)
          · rw [Bool.and_eq_true,decide_eq_true_eq] at h
            have:=hdp (by omega)
            omega
          · refine M.o_pure fun hG=>?_
            have:=hG s hi
            unfold Pk.stAt Pk.dayAt Pk.cA at this
            rw [Bool.or_eq_true,Bool.and_eq_true,decide_eq_true_eq,decide_eq_true_eq,decide_eq_true_eq] at hb
            rcases hb with hb | hb
            · omega
            · have:=this.2 (by omega)
              omega
          · rw [Bool.or_eq_false_iff,Bool.and_eq_false_iff,decide_eq_false_iff_not,decide_eq_false_iff_not,decide_eq_false_iff_not] at hb
            refine M.o_grd (gA2 (by omega) (by omega)) (M.o_grd (gA2 (by omega) (by omega)) (M.o_pure ⟨rfl,rfl,fun k hk=>?_⟩))
            rcases Nat.lt_or_eq_of_le (Nat.le_of_lt_succ hk) with e | e
            · exact hJ k e
            · subst e
              unfold Pk.stAt Pk.dayAt Pk.cA
              exact ⟨by omega,fun h=>by omega⟩
        · rintro ⟨w,s⟩ ⟨e1,e2,hJ⟩
          dsimp only at e1 e2
          subst e1
          simp only [zcu]
          exact M.o_f (by simp) (M.o_pure ⟨hJ,e2⟩)
      · intro y hy
        cases y with
        | inl u=>exact M.o_pure ⟨fun h=>absurd h0 h,fun _ h=>absurd hR h,fun _ _ _=>rfl,fun _ _ h=>absurd h hy⟩
        | inr w =>
          obtain ⟨hG,rfl⟩:=hy
          exact M.o_pure ⟨fun h=>absurd h0 h,fun _ h=>absurd hR h,fun _ _ h=>absurd hG h,fun _ _ _=>rfl⟩
  · exact M.o_t (bne_iff_ne.2 h0) (M.o_pure ⟨fun _=>rfl,fun h=>absurd h h0,fun h=>absurd h h0,fun h=>absurd h h0⟩)
theorem ref_worth (l:List Pk) (A T:Int) (c:List Int) (hc45:c.length<=1000000):(zbq l A T c).Out (Pk.WoE l A T c):=by
  unfold zbq
  refine M.o_bindE (ref_asked l A T) ?_
  by_cases h0:Pk.askP l A T=0
  · have hA := Pk.ask_ok h0
    have hf:=hA.ok.few
    have hT:=hA.th
    have hAp:=hA.ap
    rw [h0]
    refine M.o_f rfl (M.o_bind (P:=fun y=>match y with | .inl (_:Unit)=>¬ Pk.Ris l.length c | .inr (_:Unit)=>Pk.Ris l.length c) ?_ ?_)
    · refine M.o_for c.length (fun i (s:Nat)=>s=i/\∀ k,k<i->0<=c.getD k 0/\c.getD k 0<(l.length:Int)/\(0<k->c.getD (k-1) 0<c.getD k 0)) ?_ ?_ ⟨rfl,fun k hk=>by omega⟩
      · rintro i s hi ⟨rfl,hJ⟩
        simp only [zck]
        rw [show Int.toNat ((s:Int)-1)=s-1 by omega]
        refine M.o_t (decide_eq_true (by omega)) (M.o_grdD (by omega) (M.o_bindE (out_ends _ _ _) (M.o_grd (gI2 fun h=>by omega) (M.o_grd (gI2 fun h=>?_) (M.o_if (fun hb=>?_) (fun hb=>?_))))))
        · rw [Bool.and_eq_true,decide_eq_true_eq] at h; omega
        · refine M.o_pure fun hR=>?_
          have:=hR s hi
          rw [Bool.or_eq_true,Bool.not_eq_true',Bool.and_eq_false_iff,Bool.and_eq_true,decide_eq_false_iff_not,decide_eq_false_iff_not,decide_eq_true_eq,decide_eq_true_eq] at hb
          omega
        · rw [Bool.or_eq_false_iff,Bool.not_eq_false',Bool.and_eq_false_iff,Bool.and_eq_true,decide_eq_false_iff_not,decide_eq_false_iff_not,decide_eq_true_eq,decide_eq_true_eq] at hb
          refine M.o_pure ⟨rfl,fun k hk=>?_⟩
          rcases Nat.lt_or_eq_of_le (Nat.le_of_lt_succ hk) with e | e
          · exact hJ k e
          · subst e
            exact ⟨by omega,by omega,fun h=>by omega⟩
      · rintro s ⟨rfl,hJ⟩
        simp only [zck]
        exact M.o_f (by simp) (M.o_pure fun k hk=>hJ k hk)
    · intro y hy
      cases y with
      | inl u=>exact M.o_pure ⟨fun h=>absurd h0 h,fun _ _=>rfl,fun _ h=>absurd h hy,fun _ h=>absurd h hy⟩
      | inr u =>
        have hR:Pk.Ris l.length c:=hy
        have hfew:=hR.few
        refine M.o_bind (P:=fun y=>match y with | .inl (_:Unit)=>¬ Pk.Good l A T c | .inr w=>Pk.Good l A T c/\w=Pk.wS l T c c.length) ?_ ?_
        · refine M.o_for c.length (fun i (s:Int × Nat)=>s.2=i/\s.1=Pk.wS l T c i/\∀ k,k<i->T<Pk.stAt l (Pk.cA c k)/\(0<k->A<=Pk.dayAt l (Pk.cA c k)-Pk.dayAt l (Pk.cA c (k-1)))) ?_ ?_ ⟨rfl,rfl,fun k hk=>by omega⟩
          · rintro i ⟨w,s⟩ hi ⟨e1,e2,hJ⟩
            dsimp only at e1 e2
            subst e1
            subst e2
            simp only [zbn]
            have hc:=hR s hi
            have hst:=hA.ok.st _ (hR.at_ hi)
            have hw:=Pk.wS_bound hA.ok hT hR s (by omega)
            refine M.o_t (decide_eq_true (by omega)) (M.o_grdD (by omega) (M.o_grd (gA2 hc.1 hc.2.1) (M.o_if (fun hb=>?_) (fun hb=>?_))))
            · have hb:=of_decide_eq_true hb
              refine M.o_pure fun hG=>?_
              have:=(hG s hi).1
              unfold Pk.stAt Pk.cA at this
              omega
            · have hb:=of_decide_eq_false hb
              refine M.o_bind (P:=fun y=>match y with | .inl (_:Unit)=>∃ j,j<s/\Pk.dayAt l (Pk.cA c s)-Pk.dayAt l (Pk.cA c j)<A | .inr (_:Unit)=>∀ j,j<s->A<=Pk.dayAt l (Pk.cA c s)-Pk.dayAt l (Pk.cA c j)) ?_ ?_
              · refine M.o_for s (fun i (q:Nat)=>q=i/\∀ j,j<i->A<=Pk.dayAt l (Pk.cA c s)-Pk.dayAt l (Pk.cA c j)) ?_ ?_ ⟨rfl,fun j hj=>by omega⟩
                · rintro i q hq ⟨rfl,hK⟩
                  simp only [zbt]
                  have hcq:=hR q (by omega)
                  have d1:=hA.ok.day _ (hR.at_ hi)
                  have d2:=hA.ok.day _ (hR.at_ (k:=q) (by omega))
                  unfold Pk.dayAt Pk.cA at d1 d2
                  refine M.o_t (decide_eq_true (by omega)) (M.o_grdD (by omega) (M.o_grd (gA2 hcq.1 hcq.2.1) (M.o_grd (gA2 (by omega) (by omega)) (M.o_if (fun hd=>?_) (fun hd=>?_)))))
                  · exact M.o_pure ⟨q,hq,of_decide_eq_true hd⟩
                  · have hd:=of_decide_eq_false hd
                    refine M.o_pure ⟨rfl,fun j hj=>?_⟩
                    rcases Nat.lt_or_eq_of_le (Nat.le_of_lt_succ hj) with e | e
                    · exact hK j e
                    · subst e
                      unfold Pk.dayAt Pk.cA
                      omega
                · rintro q ⟨rfl,hK⟩
                  simp only [zbt]
                  exact M.o_f (by simp) (M.o_pure hK)
              · intro y hy
                cases y with
                | inl u =>
                  obtain ⟨j,hj,hlt⟩:=hy
                  refine M.o_pure fun hG=>?_
                  have h1:=(hG s hi).2 (by omega)
                  have h2:Pk.dayAt l (Pk.cA c j)<=Pk.dayAt l (Pk.cA c (s-1)):=by
                    refine hA.ok.up.le ?_ (hR.at_ (by omega))
                    unfold Pk.cA
                    rcases Nat.lt_or_eq_of_le (show j<=s-1 by omega) with e | e
                    · have:=hR.mono e (by omega)
                      omega
                    · rw [e]; exact Nat.le_refl _
                  omega
                | inr u =>
                  have hy:∀ j,j<s->A<=Pk.dayAt l (Pk.cA c s)-Pk.dayAt l (Pk.cA c j):=hy
                  unfold Pk.stAt Pk.cA at hst
                  refine M.o_grd (gA2 (by omega) (by omega)) (M.o_grd (gA2 (by omega) (by omega)) (M.o_pure ⟨rfl,?_,fun k hk=>?_⟩))
                  · show _=Pk.wS l T c s+(Pk.stAt l (Pk.cA c s)-T)
                    unfold Pk.stAt Pk.cA
                    dsimp only
                    omega
                  · rcases Nat.lt_or_eq_of_le (Nat.le_of_lt_succ hk) with e | e
                    · exact hJ k e
                    · subst e
                      refine ⟨?_,fun h=>hy (k-1) (by omega)⟩
                      unfold Pk.stAt Pk.cA
                      omega
          · rintro ⟨w,s⟩ ⟨e1,e2,hJ⟩
            dsimp only at e1 e2
            subst e1
            simp only [zbn]
            exact M.o_f (by simp) (M.o_pure ⟨hJ,e2⟩)
        · intro y hy
          cases y with
          | inl u=>exact M.o_pure ⟨fun h=>absurd h0 h,fun _ h=>absurd hR h,fun _ _ _=>rfl,fun _ _ h=>absurd h hy⟩
          | inr w =>
            obtain ⟨hG,rfl⟩:=hy
            exact M.o_pure ⟨fun h=>absurd h0 h,fun _ h=>absurd hR h,fun _ _ h=>absurd hG h,fun _ _ _=>rfl⟩
  · exact M.o_t (bne_iff_ne.2 h0) (M.o_pure ⟨fun _=>rfl,fun h=>absurd h h0,fun h=>absurd h h0,fun h=>absurd h h0⟩)
end Go.Proofs.YtejefipopolccaaGreat
-- libO/QD.lean
namespace Go.Nm
namespace Pk
variable {l:List Pk} {A T:Int} {c:List Int}
theorem getD_app (c:List Int) (x:Int) (k:Nat):(c++[x]).getD k 0=if k<c.length then c.getD k 0 else if k=c.length then x else 0:=by
  simp only [List.getD_eq_getElem?_getD]
  by_cases h:k<c.length
  · rw [if_pos h,List.getElem?_append_left h]
  · rw [if_neg h,List.getElem?_append_right (by omega)]
    by_cases e:k=c.length
    · subst e; simp
    · rw [if_neg e,List.getElem?_eq_none (by simp; omega)]; rfl
theorem Ris.app {n:Nat} (h:Ris n c) {x:Nat} (hx:x<n) (hl:0<c.length->cA c (c.length-1)<x):Ris n (c++[(x:Int)]):=by
  intro k hk
  rw [List.length_append,List.length_singleton] at hk
  rw [getD_app,getD_app]
  by_cases e:k<c.length
  · rw [if_pos e,if_pos (by omega)]
    exact h k e
  · obtain rfl:k=c.length:=by omega
    rw [if_neg (by omega),if_pos rfl]
    refine ⟨by omega,by omega,fun h0=>?_⟩
    rw [if_pos (by omega)]
    have h1:=hl h0
    have h2:=h (c.length-1) (by omega)
    unfold cA at h1
    omega
theorem cA_app {k x:Nat} (h:k<=c.length):cA (c++[(x:Int)]) k=if k<c.length then cA c k else x:=by
  unfold cA
  rw [getD_app]
  by_cases e:k<c.length
  · rw [if_pos e,if_pos e]
  · rw [if_neg e,if_neg e,if_pos (by omega)]
    omega
theorem Good.app (h:Good l A T c) {x:Nat} (h1:T<stAt l x) (h2:0<c.length->A<=dayAt l x-dayAt l (cA c (c.length-1))):Good l A T (c++[(x:Int)]):=by
  intro k hk
  rw [List.length_append,List.length_singleton] at hk
  rw [cA_app (by omega),cA_app (by omega)]
  by_cases e:k<c.length
  · rw [if_pos e,if_pos (by omega)]
    exact h k e
  · obtain rfl:k=c.length:=by omega
    rw [if_neg (by omega)]
    refine ⟨h1,fun h0=>?_⟩
    rw [if_pos (by omega)]
    exact h2 h0
theorem wS_app {x:Nat}:∀ k:Nat,k<=c.length->wS l T (c++[(x:Int)]) k=wS l T c k
  | 0,_=>rfl
  | k+1,h=>by
    unfold wS
    rw [wS_app k (by omega),cA_app (by omega),if_pos (by omega)]
theorem wS_snoc {x:Nat}:wS l T (c++[(x:Int)]) (c.length+1)=wS l T c c.length+(stAt l x-T):=by
  show wS l T (c++[(x:Int)]) c.length+(stAt l (cA (c++[(x:Int)]) c.length)-T)=_
  rw [wS_app _ (Nat.le_refl _),cA_app (Nat.le_refl _),if_neg (by omega)]
end Pk
end Go.Nm
namespace Go.Proofs.YtejefipopolccaaGreat
open Go Go.Nm
variable {l:List Pk} {A T:Int}
/-- The greatest worth of a choice. -/
def mxP (l:List Pk) (A T:Int):Int:=Pk.Sf (Pk.kk l A) (vP l T) l.length
structure PiE (l:List Pk) (A T:Int) (y:List Int × Int × Int):Prop where
  ask:Pk.askP l A T ≠ 0->y=([],0,Pk.askP l A T)
  ok:Pk.askP l A T=0->y.2.2=0/\Pk.Ris l.length y.1/\Pk.Good l A T y.1/\Pk.wS l T y.1 y.1.length=mxP l A T/\y.2.1=mxP l A T
theorem pick_out (l:List Pk) (A T:Int):(zcx l A T).Out (PiE l A T):=by
  unfold zcx
  refine M.o_bindE (asked_ends l A T) ?_
  by_cases h0:Pk.askP l A T=0
  · have h := Pk.ask_ok h0
    have hf:=h.ok.few
    have F:=Pk.fl h.ok.up h.ap.1
    rw [h0]
    refine M.o_f rfl (M.o_bind (best_out h) ?_)
    rintro b ⟨bl,hB,bb⟩
    have hmx:b.getD 0 0=mxP l A T:=Pk.both F (Pk.sf_is F _) hB
    refine M.o_bind (P:=fun y=>Pk.Ris l.length y.2/\Pk.Good l A T y.2/\Pk.wS l T y.2 y.2.length=mxP l A T) ?_ ?_
    · refine M.o_iter (fun m (s:Int × List Int)=>∃ i:Nat,s.1=i/\i<=l.length/\m=l.length-i/\Pk.Ris l.length s.2/\Pk.Good l A T s.2/\Pk.wS l T s.2 s.2.length+b.getD i 0=mxP l A T/\(0<s.2.length->Pk.nx l A (Pk.cA s.2 (s.2.length-1))<=i)) ?_ _ (0,[])
        ⟨0,rfl,Nat.zero_le _,rfl,fun k hk=>by simp at hk,fun k hk=>by simp at hk,by rw [← hmx]; show (0:Int)+_=_; rw [Int.zero_add],fun hk=>by simp at hk⟩
      rintro m ⟨i',c⟩ ⟨i,e,hi,rfl,hR,hG,hw,hl⟩
      dsimp only at e hR hG hw hl
      subst e
      simp only [zc1,Int.toNat_natCast]
      refine M.o_if (fun hb=>?_) (fun hb=>?_)
      · have hb:=of_decide_eq_true hb
        have hi:i<l.length:=by omega
        have l1:=F.lt i hi
        have l2:=F.le i hi
        have hs:=hB.s i hi
        have ha:=hB.anti (Nat.le_of_lt_succ (Nat.succ_lt_succ l1):i+1<=Pk.nx l A i) l2
        have hp:=hB.pos (i:=i+1) (by omega)
        have hfew:=hR.few
        refine M.o_grd (gA2 (by omega) (by omega)) (M.o_grd (gI2 fun _=>by omega) ?_)
        by_cases ht:(l.getD i default).stage<=T
        · have e1:(!(decide ((l.getD i default).stage<=T)))=false:=by rw [decide_eq_true ht]; rfl
          have e2:decide ((l.getD i default).stage<=T)=true:=decide_eq_true ht
          rw [e1,e2]
          refine M.o_bindE (a:=0) (M.i_opt (fun h=>by cases h) (fun _=>rfl)) (M.o_t rfl (M.o_pure ⟨l.length-(i+1),by omega,i+1,rfl,by omega,rfl,hR,hG,?_,fun h=>Nat.le_succ_of_le (hl h)⟩))
          dsimp only
          have:vP l T i<=0:=by show (l.getD i default).stage-T<=0; omega
          omega
        · have e1:(!(decide ((l.getD i default).stage<=T)))=true:=by rw [decide_eq_false ht]; rfl
          have e2:decide ((l.getD i default).stage<=T)=false:=decide_eq_false ht
          rw [e1,e2]
          refine M.o_bindE (M.i_opt (fun _=>with_ends h hi bb) (fun h=>by cases h)) ?_
          rw [Bool.false_or]
          refine M.o_if (fun hc=>?_) (fun hc=>?_)
          · have hc:=of_decide_eq_true hc
            refine M.o_pure ⟨l.length-(i+1),by omega,i+1,rfl,by omega,rfl,hR,hG,?_,fun h=>Nat.le_succ_of_le (hl h)⟩
            dsimp only
            omega
          · have hc:=of_decide_eq_false hc
            refine M.o_grdD (by simp only [List.length_cons,List.length_nil]; omega) (M.o_bindE (next_ends h hi) (M.o_pure ⟨l.length-Pk.nx l A i,by omega,Pk.nx l A i,rfl,l2,rfl,?_,?_,?_,fun _=>?_⟩))
            · refine hR.app hi fun h0=>?_
              have:=F.lt _ (hR.at_ (k:=c.length-1) (by omega))
              have:=hl h0
              omega
            · refine hG.app ?_ fun h0=>?_
              · show T<(l.getD i default).stage
                omega
              · have h1:=hl h0
                have h2:=hR.at_ (k:=c.length-1) (by omega)
                have h3:¬ Pk.dayAt l i<Pk.dayAt l (Pk.cA c (c.length-1))+A:=fun h4=>by
                  have:=(Pk.fst_lt h.ok.up hi).2 h4
                  have:i<Pk.nx l A (Pk.cA c (c.length-1)):=this
                  omega
                omega
            · dsimp only
              rw [List.length_append,List.length_singleton,Pk.wS_snoc]
              unfold vP at hs hc
              omega
            · dsimp only
              rw [List.length_append,List.length_singleton,Nat.add_sub_cancel,Pk.cA_app (Nat.le_refl _),if_neg (by omega)]
              exact Nat.le_refl _
      · have hb:=of_decide_eq_false hb
        obtain rfl:i=l.length:=by omega
        have:=hB.z
        rw [this] at hw
        exact M.o_pure ⟨hR,hG,by dsimp only; omega⟩
    · rintro ⟨c',c⟩ ⟨h1,h2,h3⟩
      exact M.o_grd rfl (M.o_pure ⟨fun h=>absurd h0 h,fun _=>⟨rfl,h1,h2,h3,hmx⟩⟩)
  · exact M.o_t (bne_iff_ne.2 h0) (M.o_pure ⟨fun _=>rfl,fun h=>absurd h h0⟩)
theorem getD_part (d:List Int) {a r s:Nat} (h:a+s<r):((d.take r).drop a).getD s 0=d.getD (a+s) 0:=by
  simp only [List.getD_eq_getElem?_getD]
  rw [List.getElem?_drop,List.getElem?_take,if_pos h]
structure DuE (l:List Pk) (A T:Int) (y:List Int × Int):Prop where
  ask:Pk.askP l A T ≠ 0->y=([],Pk.askP l A T)
  ok:Pk.askP l A T=0->y.2=0/\y.1.length=l.length/\Pk.Du l.length (Pk.kk l A) (Pk.Sf (Pk.kk l A) (vP l T)) l.length (fun k=>y.1.getD k 0)
theorem sm_small {d:Nat->Int} {K:Int} (h:∀ i,0<=d i/\d i<=K) (a:Nat):∀ k:Nat,0<=Pk.sm d a k/\Pk.sm d a k<=K*k
  | 0=>by simp [Pk.sm]
  | k+1=>by
    have ih:=sm_small h a k
    have:=h (a+k)
    unfold Pk.sm
    have e:K*((k+1:Nat):Int)=K*k+K:=by rw [show ((k+1:Nat):Int)=(k:Int)+1 by omega,Int.mul_add,Int.mul_one]
    omega
theorem dues_out (l:List Pk) (A T:Int):(zc2 l A T).Out (DuE l A T):=by
  unfold zc2
  refine M.o_bindE (asked_ends l A T) ?_
  by_cases h0:Pk.askP l A T=0
  · have h := Pk.ask_ok h0
    have hf:=h.ok.few
    have hT:=h.th
    have F:=Pk.fl h.ok.up h.ap.1
    have hS:=Pk.sf_is F (vP l T)
    rw [h0]
    refine M.o_f rfl (M.o_grd (gA3 (by omega) (by omega) (by omega)) (M.o_bind (P:=fun y=>y.2.length=l.length/\Pk.Du l.length (Pk.kk l A) (Pk.Sf (Pk.kk l A) (vP l T)) l.length (fun k=>y.2.getD k 0)) ?_ ?_))
    · refine M.o_for l.length (fun i (s:List Int × Nat)=>s.2=i/\s.1.length=l.length/\Pk.Du l.length (Pk.kk l A) (Pk.Sf (Pk.kk l A) (vP l T)) i (fun k=>s.1.getD k 0)/\∀ k:Nat,0<=s.1.getD k 0/\s.1.getD k 0<=2000*(i:Int)) ?_ ?_ ⟨rfl,by simp,?_,fun k=>?_⟩
      · rintro i ⟨d,s⟩ hi ⟨e1,hl,hD,hb⟩
        dsimp only at e1 hl hD hb
        subst e1
        simp only [zcl]
        have l1:=F.lt s hi
        have l2:=F.le s hi
        have hst:=h.ok.st s hi
        unfold Pk.stAt at hst
        refine M.o_t (decide_eq_true (by omega)) (M.o_grdD (by omega) (M.o_bindE (window_ends h hi) (M.o_grd (gA2 (by omega) (by omega)) (M.o_grd (gA3 (by omega) (by omega) (by omega)) (M.o_bind (P:=fun q=>q=vP l T s-Pk.sm (fun k=>d.getD k 0) s (Pk.nx l A s-s)) ?_ ?_)))))
        · have hlen:((d.take (Int.toNat (Pk.nx l A s:Int))).drop s).length=Pk.nx l A s-s:=by rw [List.length_drop,List.length_take]; omega
          refine M.o_for (Pk.nx l A s-s) (fun j (q:Int × Nat)=>q.2=j/\q.1=vP l T s-Pk.sm (fun k=>d.getD k 0) s j) ?_ ?_ ⟨rfl,by show (l.getD s default).stage-T=vP l T s-0; rw [Int.sub_zero]; rfl⟩
          · rintro j ⟨q,z⟩ hj ⟨e1,e2⟩
            dsimp only at e1 e2
            subst e1
            subst e2
            simp only [zbo]
            have k1:=hb (s+z)
            have k2:=sm_small hb s z
            have hv:vP l T s=(l.getD s default).stage-T:=rfl
            have hget:((d.take (Int.toNat (Pk.nx l A s:Int))).drop s).getD z 0=d.getD (s+z) 0:=getD_part d (by omega)
            have hz:2000*(s:Int)*(z:Int)<=2000*(40:Int)*40:=Int.mul_le_mul (by omega) (by omega) (by omega) (by decide)
            refine M.o_t (decide_eq_true (by omega)) (M.o_grdD (by omega) (M.o_grd (gA2 (by omega) (by omega)) (M.o_pure ⟨rfl,?_⟩)))
            show _=vP l T s-(Pk.sm (fun k=>d.getD k 0) s z+d.getD (s+z) 0)
            omega
          · rintro ⟨q,z⟩ ⟨e1,e2⟩
            dsimp only at e1 e2
            subst e1
            simp only [zbo]
            exact M.o_f (decide_eq_false (by omega)) (M.o_pure e2)
        · rintro q rfl
          have k3:=sm_small hb s (Pk.nx l A s-s)
          have hv:vP l T s=(l.getD s default).stage-T:=rfl
          have k4:=hb (Pk.nx l A s-1)
          refine M.o_grd (gA2 (by omega) (by omega)) (M.o_bindE (greatest1 _) ?_)
          have e3:Int.toNat ((Pk.nx l A s:Int)-1)=Pk.nx l A s-1:=by omega
          have hset:(zcA ((Pk.nx l A s:Int)-1) (max 0 (vP l T s-Pk.sm (fun k=>d.getD k 0) s (Pk.nx l A s-s))) d).Ends (d.set (Pk.nx l A s-1) (d.getD (Pk.nx l A s-1) 0+max 0 (vP l T s-Pk.sm (fun k=>d.getD k 0) s (Pk.nx l A s-s)))):=by
            unfold zcA
            rw [e3]
            exact M.i_grd (gA2 (by omega) (by omega)) (M.i_grd (gA2 (by omega) (by omega)) M.i_pure)
          refine M.o_bindE hset (M.o_pure ⟨rfl,by simpa using hl,?_,fun k=>?_⟩)
          · have:=hD.step F hS hi (p:=Pk.nx l A s-1) (by omega) rfl
            have e4:(fun k=>(d.set (Pk.nx l A s-1) (d.getD (Pk.nx l A s-1) 0+max 0 (vP l T s-Pk.sm (fun k=>d.getD k 0) s (Pk.nx l A s-s)))).getD k 0)=fun k=>if k=Pk.nx l A s-1 then d.getD k 0+max 0 (vP l T s-Pk.sm (fun k=>d.getD k 0) s (Pk.nx l A s-s)) else d.getD k 0:=by
              funext k
              rw [gset _ _ _ _ _ (by omega)]
              split
              · rename_i e; rw [e]
              · rfl
            show Pk.Du _ _ _ (s+1) (fun k=>(d.set _ _).getD k 0)
            rw [e4]
            exact this
          · show 0<=(d.set _ _).getD k 0/\(d.set _ _).getD k 0<=2000*((s+1:Nat):Int)
            rw [gset _ _ _ _ _ (by omega)]
            have:=hb k
            split <;> omega
      · rintro ⟨d,s⟩ ⟨e1,hl,hD,hb⟩
        dsimp only at e1 hl hD hb
        subst e1
        simp only [zcl]
        exact M.o_f (by simp) (M.o_pure ⟨hl,hD⟩)
      · have e:(fun k=>(List.replicate l.length (0:Int)).getD k 0)=fun _=>0:=by
          funext k
          rw [List.getD_eq_getElem?_getD,List.getElem?_replicate]
          split <;> rfl
        show Pk.Du _ _ _ 0 (fun k=>(List.replicate l.length (0:Int)).getD k 0)
        rw [e]
        exact Pk.Du.z hS
      · dsimp only
        rw [List.getD_eq_getElem?_getD,List.getElem?_replicate]
        split
        · show (0:Int)<=0/\(0:Int)<=_; omega
        · show (0:Int)<=0/\(0:Int)<=_; omega
    · rintro ⟨d',d⟩ ⟨h1,h2⟩
      exact M.o_pure ⟨fun h=>absurd h0 h,fun _=>⟨rfl,h1,h2⟩⟩
  · exact M.o_t (bne_iff_ne.2 h0) (M.o_pure ⟨fun _=>rfl,fun h=>absurd h h0⟩)
end Go.Proofs.YtejefipopolccaaGreat
-- libO/QE.lean
namespace Go.Proofs.YtejefipopolccaaGreat
open Go Go.Nm
variable {l:List Pk} {A T:Int}
theorem sf_bound (h:Pk.Asked l A T):∀ i:Nat,i<=l.length->0<=Pk.Sf (Pk.kk l A) (vP l T) i/\Pk.Sf (Pk.kk l A) (vP l T) i<=2000*(i:Int):=by
  have F:=Pk.fl h.ok.up h.ap.1
  have hS:=Pk.sf_is F (vP l T)
  intro i
  induction i using Nat.strongRecOn with
  | _ i ih =>
    intro hi
    cases i with
    | zero=>rw [hS.z]; simp
    | succ i =>
      have h1:=ih i (by omega) (by omega)
      have h2:=F.kle i
      have h3:=ih (Pk.kk l A i) (by omega) (by omega)
      have h4:=h.ok.st i hi
      have ht:=h.th
      rw [hS.s i hi]
      have hv:vP l T i=Pk.stAt l i-T:=rfl
      omega
theorem best_ends (l:List Pk) (A T:Int):(zcR l A T).Out (fun y=>(Pk.askP l A T ≠ 0->y=(0,Pk.askP l A T))/\(Pk.askP l A T=0->y=(mxP l A T,0))):=by
  unfold zcR
  refine M.o_bindE (ref_asked l A T) ?_
  by_cases h0:Pk.askP l A T=0
  · have h := Pk.ask_ok h0
    have hf:=h.ok.few
    have hT:=h.th
    have hA:=h.ap
    have F:=Pk.fl h.ok.up h.ap.1
    have hS:=Pk.sf_is F (vP l T)
    rw [h0]
    refine M.o_f rfl (M.o_grd (gA2 (by omega) (by omega)) (M.o_grd (gA3 (by omega) (by omega) (by omega)) (M.o_bind (P:=fun y=>y.2.length=l.length+1/\y.2.getD l.length 0=mxP l A T) ?_ ?_)))
    · refine M.o_for l.length (fun i (s:List Int × Nat)=>s.2=i/\s.1.length=l.length+1/\∀ k:Nat,k<=i->s.1.getD k 0=Pk.Sf (Pk.kk l A) (vP l T) k) ?_ ?_ ⟨rfl,by simp,fun k hk=>?_⟩
      · rintro i ⟨b,s⟩ hi ⟨e1,hl,hb⟩
        dsimp only at e1 hl hb
        subst e1
        simp only [zbl]
        have hday:=h.ok.day s hi
        have hst:=h.ok.st s hi
        have hv:vP l T s=(l.getD s default).stage-T:=rfl
        refine M.o_t (decide_eq_true (by omega)) (M.o_bind (P:=fun y=>y=(Pk.kk l A s:Int)) ?_ ?_)
        · refine M.o_iter (fun m (k:Int)=>∃ j:Nat,k=j/\j<=s/\m=j/\∀ q,j<=q->q<s->Pk.dayAt l s-Pk.dayAt l q<A) ?_ _ _ ⟨s,rfl,Nat.le_refl _,rfl,fun q h1 h2=>by omega⟩
          rintro m k ⟨j,rfl,hj,hm,hq⟩
          simp only [zcD]
          have hdj:0<j->0<=(l.getD (Int.toNat ((j:Int)-1)) default).day/\(l.getD (Int.toNat ((j:Int)-1)) default).day<=4000:=fun h1=>h.ok.day _ (by omega)
          unfold Pk.dayAt at hday
          refine M.o_grd (gI fun _=>by omega) (M.o_grd (gI2 fun hb=>by have:=of_decide_eq_true hb; omega) (M.o_grd (gI2 fun hb=>by have:=of_decide_eq_true hb; omega) (M.o_grd (gI2 fun hb=>by have:=of_decide_eq_true hb; have:=hdj (by omega); omega) (M.o_if (fun hc=>?_) (fun hc=>?_)))))
          · rw [Bool.and_eq_true,decide_eq_true_eq,decide_eq_true_eq] at hc
            refine M.o_grd (gA2 (by omega) (by omega)) (M.o_pure ⟨j-1,by omega,j-1,by omega,by omega,rfl,fun q h1 h2=>?_⟩)
            rcases Nat.lt_or_eq_of_le h1 with e | e
            · exact hq q (by omega) h2
            · have e5:Int.toNat ((j:Int)-1)=q:=by omega
              rw [e5] at hc
              exact hc.2
          · rw [Bool.and_eq_false_iff,decide_eq_false_iff_not,decide_eq_false_iff_not] at hc
            refine M.o_pure ?_
            show (j:Int)=(Pk.kk l A s:Int)
            unfold Pk.kk
            rw [if_pos hi]
            have e:Pk.fst l (Pk.dayAt l s-A+1)=j:=by
              refine Pk.fst_eq h.ok.up (by omega) (fun q hq'=>?_) (fun hjl=>?_)
              · have h1:A<=Pk.dayAt l s-Pk.dayAt l (j-1):=by
                  have e5:Int.toNat ((j:Int)-1)=j-1:=by omega
                  rw [e5] at hc
                  show A<=(l.getD s default).day-(l.getD (j-1) default).day
                  omega
                have h2:=h.ok.up.le (show q<=j-1 by omega) (by omega)
                omega
              · rcases Nat.lt_or_eq_of_le hj with e | e
                · have:=hq j (Nat.le_refl _) e
                  omega
                · subst e; omega
            rw [e]
        · rintro k2 rfl
          have hk:=F.kle s
          have b1:=sf_bound h s (by omega)
          have b2:=sf_bound h (Pk.kk l A s) (by omega)
          have g1:=hb s (Nat.le_refl _)
          have g2:=hb _ hk
          unfold Pk.stAt at hst
          rw [Int.toNat_natCast,g2,show Int.toNat ((s:Int)+1)=s+1 by omega]
          refine M.o_grdD (by omega) (M.o_grdD (by omega) (M.o_grd (gA2 (by omega) (by omega)) (M.o_grd (gA2 (by omega) (by omega)) (M.o_grd (gA2 (by omega) (by omega)) (M.o_grd (gA2 (by omega) (by omega)) (M.o_pure ⟨rfl,by simpa using hl,fun k hk'=>?_⟩))))))
          dsimp only
          rw [gset _ _ _ _ _ (by omega)]
          split
          · rename_i e
            subst e
            rw [hS.s s hi,g1]
            omega
          · exact hb k (by omega)
      · rintro ⟨b,s⟩ ⟨e1,hl,hb⟩
        dsimp only at e1 hl hb
        subst e1
        simp only [zbl]
        exact M.o_f (by simp) (M.o_pure ⟨hl,hb _ (Nat.le_refl _)⟩)
      · obtain rfl:k=0:=by omega
        rw [hS.z]
        dsimp only
        rw [List.getD_eq_getElem?_getD,List.getElem?_replicate]
        split <;> rfl
    · rintro ⟨b',b⟩ ⟨h1,h2⟩
      dsimp only at h1 h2 ⊢
      exact M.o_grd (gA2 (by omega) (by omega)) (M.o_pure ⟨fun h=>absurd rfl h,fun _=>by rw [h2]⟩)
  · exact M.o_t (bne_iff_ne.2 h0) (M.o_pure ⟨fun _=>rfl,fun h=>absurd h h0⟩)
/-- Dues that prove something. -/
def Prv (l:List Pk) (A T:Int) (d:List Int):Prop:=∀ i,i<l.length->vP l T i<=Pk.sm (fun k=>d.getD k 0) i (Pk.nx l A i-i)
def DuR (d:List Int):Prop:=∀ i,i<d.length->0<=d.getD i 0/\d.getD i 0<=2000
structure PrE (l:List Pk) (A T w:Int) (d:List Int) (y:Bool × Int):Prop where
  ask:Pk.askP l A T ≠ 0->y=(false,Pk.askP l A T)
  len:Pk.askP l A T=0->d.length ≠ l.length->y=(false,2)
  rng:Pk.askP l A T=0->d.length=l.length->¬ DuR d->y=(false,4)
  ok:Pk.askP l A T=0->d.length=l.length->DuR d->y.2=0/\(y.1=true↔Prv l A T d/\Pk.sm (fun k=>d.getD k 0) 0 l.length<=w)
theorem PrE.uniq {w:Int} {d:List Int} {y y':Bool × Int} (h:PrE l A T w d y) (h':PrE l A T w d y'):y=y':=by
  by_cases h0:Pk.askP l A T=0
  · by_cases h1:d.length=l.length
    · by_cases h2:DuR d
      · obtain ⟨a1,a2⟩:=h.ok h0 h1 h2
        obtain ⟨b1,b2⟩:=h'.ok h0 h1 h2
        have e:y.1=y'.1:=by
          cases c1:y.1 <;> cases c2:y'.1
          · rfl
          · rw [c1] at a2; rw [c2] at b2
            exact a2.2 (b2.1 rfl)
          · rw [c1] at a2; rw [c2] at b2
            exact (b2.2 (a2.1 rfl)).symm
          · rfl
        exact Prod.ext e (by rw [a1,b1])
      · rw [h.rng h0 h1 h2,h'.rng h0 h1 h2]
    · rw [h.len h0 h1,h'.len h0 h1]
  · rw [h.ask h0,h'.ask h0]
theorem index_int {s:List Int} {f:Int->M Bool} {q:Int->Bool} (hl:s.length<=1000000) (h:∀ x,x∈s->(f x).Ends (q x)):∃ r,(zbN s f).Ends r/\decide (0<=r)=s.any q:=by
  have out:(zbN s f).Out (fun r=>decide (0<=r)=s.any q):=by
    unfold zbN
    refine M.o_bind (P:=fun y=>match y with | .inl r=>decide (0<=r)=s.any q | .inr (_:Unit)=>s.any q=false) ?_ ?_
    · refine M.o_for s.length (fun i (k:Nat)=>k=i/\(s.take i).any q=false) ?_ ?_ ⟨rfl,by simp⟩
      · rintro i k hi ⟨rfl,hJ⟩
        simp only [zbW]
        have hm:s.getD k 0∈s:=by rw [getD_el s hi]; exact List.getElem_mem hi
        refine M.o_t (decide_eq_true (by omega)) (M.o_grdD (by omega) (M.o_bindE (h _ hm) (M.o_if (fun hb=>?_) (fun hb=>?_))))
        · refine M.o_pure ?_
          dsimp only
          rw [show s.any q=true from List.any_eq_true.2 ⟨_,hm,hb⟩]
          exact decide_eq_true (by omega)
        · refine M.o_pure ⟨rfl,?_⟩
          rw [← take_succ_D s k hi 0,List.any_append,hJ]
          simp only [List.any_cons,List.any_nil,Bool.or_false,Bool.false_or]
          exact hb
      · rintro k ⟨rfl,hJ⟩
        simp only [zbW]
        rw [List.take_length] at hJ
        exact M.o_f (by simp) (M.o_pure hJ)
    · intro y hy
      cases y with
      | inl r=>exact M.o_pure hy
      | inr u=>exact M.o_pure (by show decide ((0:Int)<=-1)=s.any q; rw [show s.any q=false from hy]; rfl)
  exact out
theorem every_int {s:List Int} {so:Int->M Bool} {p:Int->Bool} (hl:s.length<=1000000) (h:∀ x,x∈s->(so x).Ends (p x)):(zcq s so).Ends (s.all p):=by
  unfold zcq zdc
  obtain ⟨r,h1,h2⟩:=index_int (s:=s) (f:=fun x=>zch x so) (q:=fun x=>!(p x)) hl (fun x hx=>by unfold zch; exact M.i_bind (h x hx) M.i_pure)
  refine M.i_bind (M.i_bind h1 M.i_pure) ?_
  rw [h2,List.any_eq_not_all_not]
  simp only [Bool.not_not]
  exact M.i_pure
theorem dur_all {d:List Int}:(d.all fun n=>decide (0<=n)&&decide (n<=2000))=true↔DuR d:=by
  rw [List.all_eq_true]
  constructor
  · intro h i hi
    have:=h (d.getD i 0) (by rw [getD_el d hi]; exact List.getElem_mem hi)
    rwa [Bool.and_eq_true,decide_eq_true_eq,decide_eq_true_eq] at this
  · intro h x hx
    obtain ⟨i,hi,rfl⟩:=mem_getD hx 0
    have:=h i hi
    exact gA2 this.1 this.2
theorem dur_out {d:List Int} (h:DuR d) (i:Nat):0<=d.getD i 0/\d.getD i 0<=2000:=by
  by_cases hi:i<d.length
  · exact h i hi
  · rw [List.getD_eq_getElem?_getD,List.getElem?_eq_none (by omega)]
    exact ⟨Int.le_refl _,by show (0:Int)<=2000; decide⟩
theorem proves_out (l : List Pk) (A T w : Int) (d : List Int) (hd45 : d.length <= 1000000) : (zat l A T w d).Out (PrE l A T w d) := by
  unfold zat
  refine M.o_bindE (asked_ends l A T) ?_
  by_cases h0:Pk.askP l A T=0
  · have h := Pk.ask_ok h0
    have hf:=h.ok.few
    have hT:=h.th
    have F:=Pk.fl h.ok.up h.ap.1
    rw [h0]
    refine M.o_f rfl (M.o_if (fun hl=>?_) (fun hl=>?_))
    · have hl:d.length ≠ l.length:=fun e=>by rw [e] at hl; simp at hl
      exact M.o_pure ⟨fun h=>absurd h0 h,fun _ _=>rfl,fun _ h=>absurd h hl,fun _ h=>absurd h hl⟩
    · have hl : d.length = l.length := by have : (d.length : Int) = l.length := by simpa using hl
                                          omega
      refine M.o_bindE (every_int (p:=fun n=>decide (0<=n)&&decide (n<=2000)) hd45 (fun x _=>by unfold zcB; exact M.i_bind (in_ends _ _ _) M.i_pure)) ?_
      by_cases hR:DuR d
      · rw [dur_all.2 hR]
        have hb:=dur_out hR
        refine M.o_f rfl (M.o_bind (P:=fun y=>match y with | .inl (_:Unit)=>¬ Prv l A T d | .inr q=>Prv l A T d/\q=Pk.sm (fun k=>d.getD k 0) 0 l.length) ?_ ?_)
        · refine M.o_for l.length (fun i (s:Int × Nat)=>s.2=i/\s.1=Pk.sm (fun k=>d.getD k 0) 0 i/\∀ k,k<i->vP l T k<=Pk.sm (fun k=>d.getD k 0) k (Pk.nx l A k-k)) ?_ ?_ ⟨rfl,rfl,fun k hk=>by omega⟩
          · rintro i ⟨q,s⟩ hi ⟨e1,e2,hJ⟩
            dsimp only at e1 e2
            subst e1
            subst e2
            simp only [zbs]
            have l1:=F.lt s hi
            have l2:=F.le s hi
            have k1:=hb s
            have k2:=sm_small hb 0 s
            have hst:=h.ok.st s hi
            unfold Pk.stAt at hst
            have hv:vP l T s=(l.getD s default).stage-T:=rfl
            refine M.o_t (decide_eq_true (by omega)) (M.o_grdD (by omega) (M.o_grdD (by omega) (M.o_grd (gA2 (by omega) (by omega)) (M.o_bindE (window_ends h hi) (M.o_grd (gA3 (by omega) (by omega) (by omega)) (M.o_bind (P:=fun z=>z=Pk.sm (fun k=>d.getD k 0) s (Pk.nx l A s-s)) ?_ ?_))))))
            · have hlen:((d.take (Int.toNat (Pk.nx l A s:Int))).drop s).length=Pk.nx l A s-s:=by rw [List.length_drop,List.length_take]; omega
              refine M.o_for (Pk.nx l A s-s) (fun j (z:Int × Nat)=>z.2=j/\z.1=Pk.sm (fun k=>d.getD k 0) s j) ?_ ?_ ⟨rfl,rfl⟩
              · rintro j ⟨z,t⟩ hj ⟨e1,e2⟩
                dsimp only at e1 e2
                subst e1
                subst e2
                simp only [zcr]
                have hget:((d.take (Int.toNat (Pk.nx l A s:Int))).drop s).getD t 0=d.getD (s+t) 0:=getD_part d (by omega)
                have k3:=hb (s+t)
                have k4:=sm_small hb s t
                refine M.o_t (decide_eq_true (by omega)) (M.o_grdD (by omega) (M.o_grd (gA2 (by omega) (by omega)) (M.o_pure ⟨rfl,?_⟩)))
                show _=Pk.sm (fun k=>d.getD k 0) s t+d.getD (s+t) 0
                dsimp only
                omega
              · rintro ⟨z,t⟩ ⟨e1,e2⟩
                dsimp only at e1 e2
                subst e1
                simp only [zcr]
                exact M.o_f (decide_eq_false (by omega)) (M.o_pure e2)
            · rintro z rfl
              refine M.o_grd (gA2 (by omega) (by omega)) (M.o_if (fun hc=>?_) (fun hc=>?_))
              · have hc:=of_decide_eq_true hc
                refine M.o_pure fun hP=>?_
                have:=hP s hi
                omega
              · have hc:=of_decide_eq_false hc
                refine M.o_pure ⟨rfl,?_,fun k hk=>?_⟩
                · show _=Pk.sm (fun k=>d.getD k 0) 0 s+d.getD (0+s) 0
                  rw [Nat.zero_add]
                · rcases Nat.lt_or_eq_of_le (Nat.le_of_lt_succ hk) with e | e
                  · exact hJ k e
                  · subst e; omega
          · rintro ⟨q,s⟩ ⟨e1,e2,hJ⟩
            dsimp only at e1 e2
            subst e1
            simp only [zbs]
            exact M.o_f (by simp) (M.o_pure ⟨hJ,e2⟩)
        · intro y hy
          cases y with
          | inl u=>exact M.o_pure ⟨fun h=>absurd h0 h,fun _ h=>absurd hl h,fun _ _ h=>absurd hR h,fun _ _ _=>⟨rfl,⟨fun h=>Bool.noConfusion h,fun h=>absurd h.1 hy⟩⟩⟩
          | inr q =>
            obtain ⟨hP,rfl⟩:=hy
            exact M.o_pure ⟨fun h=>absurd h0 h,fun _ h=>absurd hl h,fun _ _ h=>absurd hR h,fun _ _ _=>⟨rfl,⟨fun h=>⟨hP,of_decide_eq_true h⟩,fun h=>decide_eq_true h.2⟩⟩⟩
      · have:(d.all fun n=>decide (0<=n)&&decide (n<=2000))=false:=by
          rw [← Bool.not_eq_true]
          exact fun h=>hR (dur_all.1 h)
        rw [this]
        exact M.o_t rfl (M.o_pure ⟨fun h=>absurd h0 h,fun _ h=>absurd hl h,fun _ _ _=>rfl,fun _ _ h=>absurd h hR⟩)
  · exact M.o_t (bne_iff_ne.2 h0) (M.o_pure ⟨fun _=>rfl,fun h=>absurd h h0,fun h=>absurd h h0,fun h=>absurd h h0⟩)
end Go.Proofs.YtejefipopolccaaGreat
-- libO/QF.lean
namespace Go.Proofs.YtejefipopolccaaGreat
open Go Go.Nm
variable {l:List Pk} {A T:Int}
theorem ref_proves (l : List Pk) (A T w : Int) (d : List Int) (hd45 : d.length <= 1000000) : (zaw l A T w d).Out (PrE l A T w d) := by
  unfold zaw
  refine M.o_bindE (ref_asked l A T) ?_
  by_cases h0:Pk.askP l A T=0
  · have h := Pk.ask_ok h0
    have hf:=h.ok.few
    have hT:=h.th
    have hA:=h.ap
    have F:=Pk.fl h.ok.up h.ap.1
    rw [h0]
    refine M.o_f rfl (M.o_if (fun hl=>?_) (fun hl=>?_))
    · have hl:d.length ≠ l.length:=fun e=>by rw [e] at hl; simp at hl
      exact M.o_pure ⟨fun h=>absurd h0 h,fun _ _=>rfl,fun _ h=>absurd h hl,fun _ h=>absurd h hl⟩
    · have hl : d.length = l.length := by have : (d.length : Int) = l.length := by simpa using hl
                                          omega
      refine M.o_bind (P:=fun y=>match y with | .inl (_:Unit)=>¬ DuR d | .inr q=>DuR d/\q=Pk.sm (fun k=>d.getD k 0) 0 l.length) ?_ ?_
      · refine M.o_for d.length (fun i (s:Int × Nat)=>s.2=i/\s.1=Pk.sm (fun k=>d.getD k 0) 0 i/\(∀ k,k<i->0<=d.getD k 0/\d.getD k 0<=2000)/\0<=s.1/\s.1<=2000*(i:Int)) ?_ ?_ ⟨rfl,rfl,fun k hk=>by omega,by simp⟩
        · rintro i ⟨q,s⟩ hi ⟨e1,e2,hJ,hq⟩
          dsimp only at e1 e2 hq
          subst e1
          simp only [zb1]
          refine M.o_t (decide_eq_true (by omega)) (M.o_grdD (by omega) (M.o_bindE (out_ends _ _ _) (M.o_if (fun hb=>?_) (fun hb=>?_))))
          · refine M.o_pure fun hR=>?_
            have:=hR s hi
            rw [Bool.not_eq_true',Bool.and_eq_false_iff,decide_eq_false_iff_not,decide_eq_false_iff_not] at hb
            omega
          · rw [Bool.not_eq_false',Bool.and_eq_true,decide_eq_true_eq,decide_eq_true_eq] at hb
            refine M.o_grd (gA2 (by omega) (by omega)) (M.o_pure ⟨rfl,?_,fun k hk=>?_,?_⟩)
            · show _=Pk.sm (fun k=>d.getD k 0) 0 s+d.getD (0+s) 0
              rw [Nat.zero_add,← e2]
            · rcases Nat.lt_or_eq_of_le (Nat.le_of_lt_succ hk) with e | e
              · exact hJ k e
              · subst e; exact hb
            · dsimp only
              omega
        · rintro ⟨q,s⟩ ⟨e1,e2,hJ,hq⟩
          dsimp only at e1 e2
          subst e1
          simp only [zb1]
          exact M.o_f (by simp) (M.o_pure ⟨hJ,by rw [e2,hl]⟩)
      · intro y hy
        cases y with
        | inl u=>exact M.o_pure ⟨fun h=>absurd h0 h,fun _ h=>absurd hl h,fun _ _ _=>rfl,fun _ _ h=>absurd h hy⟩
        | inr q =>
          obtain ⟨hR,rfl⟩:=hy
          have hb:=dur_out hR
          refine M.o_bind (P:=fun y=>match y with | .inl (_:Unit)=>¬ Prv l A T d | .inr (_:Unit)=>Prv l A T d) ?_ ?_
          · refine M.o_for l.length (fun i (s:Nat)=>s=i/\∀ k,k<i->vP l T k<=Pk.sm (fun k=>d.getD k 0) k (Pk.nx l A k-k)) ?_ ?_ ⟨rfl,fun k hk=>by omega⟩
            · rintro i s hi ⟨rfl,hJ⟩
              simp only [zb3]
              have l1:=F.lt s hi
              have l2:=F.le s hi
              have hst:=h.ok.st s hi
              have hds:0<=(l.getD s default).day/\(l.getD s default).day<=4000:=h.ok.day s hi
              unfold Pk.stAt at hst
              have hv:vP l T s=(l.getD s default).stage-T:=rfl
              refine M.o_t (decide_eq_true (by omega)) (M.o_bind (P:=fun z=>z=Pk.sm (fun k=>d.getD k 0) s (Pk.nx l A s-s)) ?_ ?_)
              · refine M.o_for l.length (fun j (z:Int × Nat)=>z.2=j/\z.1=Pk.sm (fun k=>d.getD k 0) s (min j (Pk.nx l A s)-s)/\0<=z.1/\z.1<=2000*(j:Int)) ?_ ?_ ⟨rfl,?_,by simp⟩
                · rintro j ⟨z,t⟩ hj ⟨e1,e2,e3⟩
                  dsimp only at e1 e2 e3
                  subst e1
                  simp only [zbT]
                  have hdt:=h.ok.day t hj
                  have i1:=h.ok.up.lt_iff hi hj
                  have i2:=h.ok.up.lt_iff hj hi
                  have i3:=Pk.fst_lt h.ok.up (t:=Pk.dayAt l s+A) hj
                  have hbt:=hb t
                  refine M.o_t (decide_eq_true (by omega)) (M.o_grdD (by omega) (M.o_grdD (by omega) (M.o_grd (gI2 fun _=>by omega) (M.o_grd (gI2 fun _=>by omega) (M.o_if (fun hc=>?_) (fun hc=>?_))))))
                  · rw [Bool.and_eq_true,decide_eq_true_eq,decide_eq_true_eq] at hc
                    have c1:s<=t:=by
                      refine Nat.le_of_not_lt fun hn=>?_
                      have:(l.getD t default).day<(l.getD s default).day:=i2.2 hn
                      omega
                    have c2:t<Pk.nx l A s:=i3.2 (by
                      have:(l.getD t default).day<=(l.getD s default).day+A-1:=hc.2
                      show (l.getD t default).day<(l.getD s default).day+A
                      omega)
                    refine M.o_grdD (by omega) (M.o_grd (gA2 (by omega) (by omega)) (M.o_pure ⟨rfl,?_,by dsimp only; omega,by dsimp only; omega⟩))
                    dsimp only
                    rw [show min (t+1) (Pk.nx l A s)-s=(min t (Pk.nx l A s)-s)+1 by omega]
                    show _=Pk.sm (fun k=>d.getD k 0) s (min t (Pk.nx l A s)-s)+d.getD (s+(min t (Pk.nx l A s)-s)) 0
                    rw [← e2,show s+(min t (Pk.nx l A s)-s)=t by omega]
                  · have c:t<s∨Pk.nx l A s<=t:=by
                      refine Classical.byContradiction fun hn=>?_
                      have c1:¬ ((l.getD t default).day<(l.getD s default).day):=fun hh=>hn (.inl (i2.1 hh))
                      have c2:(l.getD t default).day<(l.getD s default).day+A:=i3.1 (by
                        show t<Pk.nx l A s
                        omega)
                      rw [decide_eq_true (by omega),decide_eq_true (by omega)] at hc
                      cases hc
                    refine M.o_pure ⟨rfl,?_,by dsimp only; omega,by dsimp only; omega⟩
                    dsimp only
                    rw [e2,show min (t+1) (Pk.nx l A s)-s=min t (Pk.nx l A s)-s by omega]
                · rintro ⟨z,t⟩ ⟨e1,e2,e3⟩
                  dsimp only at e1 e2 e3
                  subst e1
                  simp only [zbT]
                  rw [Nat.min_eq_right l2] at e2
                  exact M.o_f (by simp) (M.o_pure e2)
                · dsimp only
                  rw [show min 0 (Pk.nx l A s)-s=0 by omega]
                  rfl
              · rintro z rfl
                have k3:=sm_small hb s (Pk.nx l A s-s)
                refine M.o_grdD (by omega) (M.o_grd (gI2 fun _=>by omega) (M.o_if (fun hc=>?_) (fun hc=>?_)))
                · rw [Bool.and_eq_true,decide_eq_true_eq,decide_eq_true_eq] at hc
                  refine M.o_pure fun hP=>?_
                  have:=hP s hi
                  omega
                · rw [Bool.and_eq_false_iff,decide_eq_false_iff_not,decide_eq_false_iff_not] at hc
                  refine M.o_pure ⟨rfl,fun k hk=>?_⟩
                  rcases Nat.lt_or_eq_of_le (Nat.le_of_lt_succ hk) with e | e
                  · exact hJ k e
                  · subst e; omega
            · rintro s ⟨rfl,hJ⟩
              simp only [zb3]
              exact M.o_f (by simp) (M.o_pure hJ)
          · intro y hy
            cases y with
            | inl u=>exact M.o_pure ⟨fun h=>absurd h0 h,fun _ h=>absurd hl h,fun _ _ h=>absurd hR h,fun _ _ _=>⟨rfl,⟨fun h=>Bool.noConfusion h,fun h=>absurd h.1 hy⟩⟩⟩
            | inr u=>exact M.o_pure ⟨fun h=>absurd h0 h,fun _ h=>absurd hl h,fun _ _ h=>absurd hR h,fun _ _ _=>⟨rfl,⟨fun h=>⟨hy,of_decide_eq_true h⟩,fun h=>decide_eq_true h.2⟩⟩⟩
  · exact M.o_t (bne_iff_ne.2 h0) (M.o_pure ⟨fun _=>rfl,fun h=>absurd h h0,fun h=>absurd h h0,fun h=>absurd h h0⟩)
theorem copy_pk (h:l.length<=1000000):(zdh l).Ends l:=M.i_grd (decide_eq_true (by simp only [List.length_nil]; omega)) M.i_pure
theorem copy_int {c:List Int} (h:c.length<=1000000):(zbi c).Ends c:=M.i_grd (decide_eq_true (by simp only [List.length_nil]; omega)) M.i_pure
theorem peaks_ends (h:l.length<=1000000):(zbp l).Ends l:=by
  have out:(zbp l).Out (fun y=>y=l):=by
    unfold zbp
    refine M.o_bind (P:=fun y=>y.2=l) ?_ (fun y e=>M.o_pure e)
    refine M.o_for l.length (fun i (s:Nat × List Pk)=>s.1=i/\s.2=l.take i) ?_ ?_ ⟨rfl,rfl⟩
    · rintro i ⟨s,q⟩ hi ⟨e1,e2⟩
      dsimp only at e1 e2
      subst e1
      subst e2
      simp only [zcc]
      exact M.o_t (decide_eq_true (by omega)) (M.o_grdD (by omega) (M.o_grdD (by simp [List.length_take]; omega) (M.o_pure ⟨rfl,take_succ_D l s hi default⟩)))
    · rintro ⟨s,q⟩ ⟨e1,e2⟩
      dsimp only at e1 e2
      subst e1
      simp only [zcc]
      exact M.o_f (by simp) (M.o_pure (by rw [e2]; exact List.take_length))
  obtain ⟨y,h1,rfl⟩:=out
  exact h1
theorem same_pk (l:List Pk):(zbf l l).Ends true:=by
  unfold zbf
  refine M.i_f (by simp) (M.i_bind (a:=(.inr ():Unit ⊕ Unit)) ?_ M.i_pure)
  refine M.i_for (fun i=>i) l.length (fun i hi=>?_) ?_
  · simp only [zbH]
    exact M.i_t (decide_eq_true (by omega)) (M.i_grd (decide_eq_true (by omega)) (M.i_grd (decide_eq_true (by omega)) (M.i_f (by simp) M.i_pure)))
  · simp only [zbH]
    exact M.i_f (by simp) M.i_pure
theorem same_int (l:List Int):(zah l l).Ends true:=by
  unfold zah
  refine M.i_f (by simp) (M.i_bind (a:=(.inr ():Unit ⊕ Unit)) ?_ M.i_pure)
  refine M.i_for (fun i=>i) l.length (fun i hi=>?_) ?_
  · simp only [zb9]
    exact M.i_t (decide_eq_true (by omega)) (M.i_grd (decide_eq_true (by omega)) (M.i_grd (decide_eq_true (by omega)) (M.i_f (by simp) M.i_pure)))
  · simp only [zb9]
    exact M.i_f (by simp) M.i_pure
/-- Dues that were reckoned prove the greatest worth. -/
theorem du_prv (h:Pk.Asked l A T) {d:List Int} (hl:d.length=l.length) (hD:Pk.Du l.length (Pk.kk l A) (Pk.Sf (Pk.kk l A) (vP l T)) l.length (fun k=>d.getD k 0)):DuR d/\Prv l A T d/\Pk.sm (fun k=>d.getD k 0) 0 l.length=mxP l A T:=by
  have F:=Pk.fl h.ok.up h.ap.1
  have hS:=Pk.sf_is F (vP l T)
  refine ⟨fun i hi=>⟨hD.nn F hS (by omega),hD.most F hS (c:=2000) (by decide) (fun k hk=>?_) (by omega)⟩,fun i hi=>hD.proves F hS hi,hD.sum F⟩
  have h1:=h.ok.st k hk
  have h2:=h.th
  show Pk.stAt l k-T<=2000
  omega
theorem zc5 (l:List Pk) (A T:Int) (c:List Int) (w:Int) (d:List Int):(zav l A T c w d).Ends true:=by
  have out:(zav l A T c w d).Out (fun r=>r=true):=by
    unfold zav
    refine M.o_if (fun hb=>M.o_bindE awake_ends (M.o_pure rfl)) (fun hb=>?_)
    rw [Bool.or_eq_false_iff,Bool.or_eq_false_iff,decide_eq_false_iff_not,decide_eq_false_iff_not,decide_eq_false_iff_not] at hb
    obtain ⟨⟨b1,b2⟩,b3⟩:=hb
    refine M.o_bindE (copy_pk (by omega)) (M.o_bindE (copy_int (by omega)) (M.o_bindE (copy_int (by omega)) (M.o_bindE (peaks_ends (by omega)) (M.o_bindE (chk_ends l) (M.o_bindE (ref_chk l) (M.o_f (by simp) ?_))))))
    obtain ⟨y1,w1,s1⟩:=worth_out l A T c
    obtain ⟨y2,w2,s2⟩:=ref_worth l A T c (by omega)
    have e:=s1.uniq s2
    subst e
    refine M.o_bindE w1 (M.o_bindE w2 (M.o_f (by simp) ?_))
    obtain ⟨p1,q1,pi⟩:=pick_out l A T
    obtain ⟨p2,q2,bi⟩:=best_ends l A T
    obtain ⟨p3,q3,di⟩:=dues_out l A T
    obtain ⟨v1,u1,t1⟩:=proves_out l A T w d (by omega)
    obtain ⟨v2,u2,t2⟩:=ref_proves l A T w d (by omega)
    have e:=t1.uniq t2
    subst e
    refine M.o_bindE q1 (M.o_bindE q2 (M.o_bindE q3 ?_))
    obtain ⟨c1,m1,x1⟩:=p1
    obtain ⟨m2,x2⟩:=p2
    obtain ⟨d1,x3⟩:=p3
    dsimp only
    have fin:(M.bind (zat l A T w d) fun (r08,r18)=>M.bind (zaw l A T w d) fun (r09,r19)=>M.bind (M.opt ((r18==r19)&&(r08==r09)) (zbf l l) false) fun r9 =>
        M.bind (M.opt (((r18==r19)&&(r08==r09))&&r9) (zah c c) false) fun r10=>M.bind (M.opt ((((r18==r19)&&(r08==r09))&&r9)&&r10) (zah d d) false) fun r11 =>
        M.bind (M.opt (((((r18==r19)&&(r08==r09))&&r9)&&r10)&&r11) (zag) false) fun r20=>M.pure ((((((r18==r19)&&(r08==r09))&&r9)&&r10)&&r11)&&r20)).Out (fun r=>r=true):=by
      refine M.o_bindE u1 (M.o_bindE u2 ?_)
      have e0:((v1.2==v1.2)&&(v1.1==v1.1))=true:=by simp
      obtain ⟨a1,a2⟩:=v1
      dsimp only at e0 ⊢
      rw [e0]
      exact M.o_bindE (M.i_opt (fun _=>same_pk l) (fun h=>by cases h)) (M.o_bindE (M.i_opt (fun _=>same_int c) (fun h=>by cases h)) (M.o_bindE (M.i_opt (fun _=>same_int d) (fun h=>by cases h)) (M.o_bindE (M.i_opt (fun _=>awake_ends) (fun h=>by cases h)) (M.o_pure rfl))))
    by_cases h0:Pk.askP l A T=0
    · obtain ⟨g1,g2,g3,g4,g5⟩:=pi.ok h0
      obtain ⟨f1,f2,f3⟩:=di.ok h0
      have f0:=bi.2 h0
      simp only [Prod.mk.injEq] at f0
      dsimp only at g1 g2 g3 g4 g5 f1 f2 f3
      obtain ⟨f0,f00⟩:=f0
      subst g1 f1 f0 f00 g5
      have h:=Pk.ask_ok h0
      have hf:=h.ok.few
      have hcf:=g2.few
      refine M.o_grd (gI2 fun _=>by omega) (M.o_f (by simp) (M.o_t rfl ?_))
      obtain ⟨y3,w3,s3⟩:=ref_worth l A T c1 (by omega)
      have e:=s3.ok h0 g2 g3
      subst e
      refine M.o_bindE w3 ?_
      rw [g4]
      refine M.o_f (by simp) ?_
      obtain ⟨dr,dp,ds⟩:=du_prv h f2 f3
      obtain ⟨⟨z1,z2⟩,w4,s4⟩:=ref_proves l A T (mxP l A T) d1 (by omega)
      obtain ⟨k1,k2⟩:=s4.ok h0 f2 dr
      have k3:=k2.2 ⟨dp,by rw [ds]; exact Int.le_refl _⟩
      dsimp only at k1 k3
      subst k1 k3
      exact M.o_bindE w4 (M.o_f rfl fin)
    · have g1:=pi.ask h0
      have g2:=bi.1 h0
      have g3:=di.ask h0
      simp only [Prod.mk.injEq] at g1 g2 g3
      obtain ⟨rfl,rfl,rfl⟩:=g1
      obtain ⟨rfl,rfl⟩:=g2
      obtain ⟨rfl,rfl⟩:=g3
      have e1:(Pk.askP l A T==0)=false:=beq_eq_false_iff_ne.2 h0
      refine M.o_grd (gI2 fun _=>⟨by simp,by simp⟩) (M.o_f (by simp) (M.o_f e1 fin))
  obtain ⟨r,h,rfl⟩:=out
  exact h
end Go.Proofs.YtejefipopolccaaGreat
-- libO/BA.lean
namespace Go.Nm
/-- A loop that looks at one after the other, till one is not so. -/
theorem M.o_scan {ρ:Type} {body:Nat->M (Nat ⊕ ρ)} {Q:ρ->Prop} (n:Nat) (p:Nat->Prop) (h:∀ s,s<n->(∀ k,k<s->p k)->(body s).Out (fun x=>match x with | .inl s'=>s'=s+1/\p s | .inr r=>Q r))
    (he:(∀ k,k<n->p k)->(body n).Out (fun x=>match x with | .inl _=>False | .inr r=>Q r)):(M.iter body 0).Out Q:=by
  refine M.o_for n (fun i (s:Nat)=>s=i/\∀ k,k<i->p k) ?_ ?_ ⟨rfl,fun k hk=>by omega⟩
  · rintro i s hi ⟨rfl,hp⟩
    refine M.o_mono (h s hi hp) ?_
    intro x hx
    cases x with
    | inl s' =>
      refine ⟨hx.1,fun k hk=>?_⟩
      rcases Nat.lt_or_eq_of_le (Nat.le_of_lt_succ hk) with e | e
      · exact hp k e
      · subst e; exact hx.2
    | inr r=>exact hx
  · rintro s ⟨rfl,hp⟩
    refine M.o_mono (he hp) ?_
    intro x hx
    cases x with
    | inl u=>exact hx.elim
    | inr r=>exact hx
theorem M.Out.ends {α:Type} {m:M α} {a:α} (h:m.Out (fun r=>r=a)):m.Ends a:=by
  obtain ⟨r,h1,rfl⟩:=h
  exact h1
namespace Bk
def frB (f l:Int):Bool:=((decide (0<=f)&&decide (f<=l))&&(decide (0<=l)&&decide (l<=3000)))&&decide (l-f<1000)
def fewO (o:Old10):Bool:=decide ((o.passed.length:Int)<=10)
def yrB (f l:Int) (r:Yr):Bool:=((decide (f<=r.year)&&decide (r.year<=l))&&(decide (0<=r.lo)&&decide (r.lo<=r.hi)))&&(decide (0<=r.hi)&&decide (r.hi<=2000))
def errY (f l:Int) (ys:List Yr) (i:Nat):Int:=if yrB f l (ys.getD i default)=false then 110 else if 0<i/\(ys.getD i default).year<=(ys.getD (i-1) default).year then 9 else 0
/-- Strictly increasing, from a first to a last number. -/
def Rin (l:List Int) (a b:Int):Prop:=∀ i,i<l.length->(a<=l.getD i 0/\l.getD i 0<=b)/\(0<i->l.getD (i-1) 0<l.getD i 0)
instance (l:List Int) (a b:Int):Decidable (Rin l a b):=inferInstanceAs (Decidable (∀ i,i<l.length->_))
def oB (f l:Int) (o:Old10):Bool:=(((decide (f<=o.src)&&decide (o.src<=o.dst))&&(decide (f<=o.dst)&&decide (o.dst<=l)))&&(decide (1<=o.stage)&&decide (o.stage<=2000)))&&decide (Rin o.passed o.src o.dst)
def chkB (ys:List Yr) (os:List Old10) (f l:Int):Int :=
  if frB f l=false then 110 else if 60<ys.length∨8<os.length∨os.all fewO=false then 3 else if Pk.fe (errY f l ys) ys.length ≠ 0 then Pk.fe (errY f l ys) ys.length else if os.all (oB f l)=false then 110 else 0
/-- Books that are right. -/
structure Ok (ys:List Yr) (os:List Old10) (f l:Int):Prop where
  f0:0<=f
  fl:f<=l
  l3:l<=3000
  ln:l-f<1000
  y60:ys.length<=60
  o8:os.length<=8
  few:∀ o∈os,o.passed.length<=10
  y:OkY f l ys
  o:OkO f l os
  ris:∀ o∈os,Rin o.passed o.src o.dst
theorem chk_ok {ys:List Yr} {os:List Old10} {f l:Int} (h:chkB ys os f l=0):Ok ys os f l:=by
  unfold chkB at h
  split at h
  · cases h
  · rename_i h1
    rw [Bool.not_eq_false] at h1
    split at h
    · cases h
    · rename_i h2
      split at h
      · rename_i h3; exact absurd h h3
      · rename_i h3
        split at h
        · cases h
        · rename_i h4
          rw [Bool.not_eq_false] at h4
          have h1:((0<=f/\f<=l)/\(0<=l/\l<=3000))/\l-f<1000:=by simpa [frB] using h1
          have hf:os.all fewO=true:=by
            cases e:os.all fewO with
            | true=>rfl
            | false=>exact absurd (.inr (.inr e)) h2
          have k:=Pk.fe_all.1 (Classical.not_not.1 h3)
          have k1:∀ i,i<ys.length->yrB f l (ys.getD i default)=true/\(0<i->(ys.getD (i-1) default).year<(ys.getD i default).year):=by
            intro i hi
            have:=k i hi
            unfold errY at this
            split at this
            · cases this
            · rename_i h1
              split at this
              · cases this
              · rename_i h2
                refine ⟨by simpa using h1,fun h0=>?_⟩
                omega
          refine ⟨h1.1.1.1,h1.1.1.2,h1.1.2.2,h1.2,by omega,by omega,fun o ho=>?_,⟨fun r hr=>?_,?_⟩,⟨fun o ho=>?_⟩,fun o ho=>?_⟩
          · have:=List.all_eq_true.1 hf o ho
            unfold fewO at this
            have:=of_decide_eq_true this
            omega
          · obtain ⟨i,hi,rfl⟩:=List.getElem_of_mem hr
            have:=(k1 i hi).1
            rw [List.getD_eq_getElem?_getD,List.getElem?_eq_getElem hi,Option.getD_some] at this
            have:((f<=ys[i].year/\ys[i].year<=l)/\(0<=ys[i].lo/\ys[i].lo<=ys[i].hi))/\(0<=ys[i].hi/\ys[i].hi<=2000):=by simpa [yrB] using this
            omega
          · have hup:∀ i j,i<j->j<ys.length->(ys.getD i default).year<(ys.getD j default).year:=by
              intro i j hij hj
              induction j with
              | zero=>omega
              | succ j ih =>
                have h1:=(k1 (j+1) hj).2 (by omega)
                simp only [Nat.add_sub_cancel] at h1
                rcases Nat.lt_or_eq_of_le (Nat.le_of_lt_succ hij) with e | e
                · have:=ih e (by omega)
                  omega
                · subst e; exact h1
            rw [List.pairwise_iff_getElem]
            intro i j hi hj hij
            have:=hup i j hij hj
            rwa [List.getD_eq_getElem?_getD,List.getElem?_eq_getElem hi,Option.getD_some,List.getD_eq_getElem?_getD,List.getElem?_eq_getElem hj,Option.getD_some] at this
          · have:=List.all_eq_true.1 h4 o ho
            have:(((f<=o.src/\o.src<=o.dst)/\(f<=o.dst/\o.dst<=l))/\(1<=o.stage/\o.stage<=2000))/\Rin o.passed o.src o.dst:=by simpa [oB] using this
            omega
          · have:=List.all_eq_true.1 h4 o ho
            have:(((f<=o.src/\o.src<=o.dst)/\(f<=o.dst/\o.dst<=l))/\(1<=o.stage/\o.stage<=2000))/\Rin o.passed o.src o.dst:=by simpa [oB] using this
            exact this.2
end Bk
end Go.Nm
namespace Go.Proofs.YtejefipopolccaaGreat
open Go Go.Nm
theorem index_old {s:List Old10} {f:Old10->M Bool} {q:Old10->Bool} (hl:s.length<=1000000) (h:∀ x,x∈s->(f x).Ends (q x)):(zcI s f).Out (fun r=>decide (0<=r)=s.any q):=by
  unfold zcI
  refine M.o_bind (P:=fun y=>match y with | .inl i=>0<=i/\s.any q=true | .inr (_:Unit)=>s.any q=false) ?_ ?_
  · refine M.o_scan s.length (fun k=>q (s.getD k default)=false) ?_ ?_
    · intro k hk hp
      simp only [zbw]
      have e:s.getD k default=s[k]:=by rw [List.getD_eq_getElem?_getD,List.getElem?_eq_getElem hk,Option.getD_some]
      refine M.o_t (decide_eq_true (by omega)) (M.o_grdD (by omega) (M.o_bindE (h _ (by rw [e]; exact List.getElem_mem hk)) (M.o_if (fun hb=>?_) (fun hb=>?_))))
      · exact M.o_pure ⟨by omega,List.any_eq_true.2 ⟨_,by rw [e]; exact List.getElem_mem hk,hb⟩⟩
      · exact M.o_pure ⟨rfl,hb⟩
    · intro hp
      simp only [zbw]
      refine M.o_f (by simp) (M.o_pure ?_)
      rw [List.any_eq_false]
      intro x hx
      obtain ⟨i,hi,rfl⟩:=List.getElem_of_mem hx
      have:=hp i hi
      rw [List.getD_eq_getElem?_getD,List.getElem?_eq_getElem hi,Option.getD_some] at this
      simp [this]
  · intro y hy
    cases y with
    | inl i=>exact M.o_pure (by rw [hy.2]; exact decide_eq_true hy.1)
    | inr u=>exact M.o_pure (by rw [hy]; decide)
theorem every_old {s:List Old10} {so:Old10->M Bool} {p:Old10->Bool} (hl:s.length<=1000000) (h:∀ x,x∈s->(so x).Ends (p x)):(zbv s so).Ends (s.all p):=by
  unfold zbv zdb
  obtain ⟨r,h1,h2⟩:=index_old (s:=s) (f:=fun x=>zcy x so) (q:=fun x=>!(p x)) hl (fun x hx=>by unfold zcy; exact M.i_bind (h x hx) M.i_pure)
  refine M.i_bind (M.i_bind h1 M.i_pure) ?_
  rw [h2,List.any_eq_not_all_not]
  simp only [Bool.not_not]
  exact M.i_pure
theorem rising_ends (l:List Int) (a b:Int) (hb:b<=1000000) (ha:-1000000<=a):(zau l a b).Ends (decide (Bk.Rin l a b)):=by
  refine M.Out.ends ?_
  unfold zau
  refine M.o_bind (P:=fun y=>match y with | .inl (_:Unit)=>¬ Bk.Rin l a b | .inr (_:Unit)=>Bk.Rin l a b) ?_ ?_
  · refine M.o_for l.length (fun i (s:Int × Nat)=>s.2=i/\a<=s.1/\s.1=(if i=0 then a else l.getD (i-1) 0+1)/\∀ k,k<i->(a<=l.getD k 0/\l.getD k 0<=b)/\(0<k->l.getD (k-1) 0<l.getD k 0)) ?_ ?_ ⟨rfl,Int.le_refl _,rfl,fun k hk=>by omega⟩
    · rintro i ⟨x,s⟩ hi ⟨e1,e2,e3,e4⟩
      dsimp only at e1 e2 e3
      subst e1
      simp only [zaC]
      refine M.o_t (decide_eq_true (by omega)) (M.o_grdD (by omega) (M.o_bindE (in_ends _ _ _) (M.o_if (fun hc=>?_) (fun hc=>?_))))
      · rw [Bool.not_eq_true',Bool.and_eq_false_iff,decide_eq_false_iff_not,decide_eq_false_iff_not] at hc
        refine M.o_pure fun hR=>?_
        have:=hR s hi
        split at e3 <;> omega
      · rw [Bool.not_eq_false',Bool.and_eq_true,decide_eq_true_eq,decide_eq_true_eq] at hc
        refine M.o_grd (gA2 (by omega) (by omega)) (M.o_pure ⟨rfl,by dsimp only; omega,by rw [if_neg (by omega),Nat.add_sub_cancel],fun k hk=>?_⟩)
        rcases Nat.lt_or_eq_of_le (Nat.le_of_lt_succ hk) with e | e
        · exact e4 k e
        · subst e
          split at e3 <;> omega
    · rintro ⟨x,s⟩ ⟨e1,e2,e3,e4⟩
      dsimp only at e1 e2 e3
      subst e1
      simp only [zaC]
      exact M.o_f (by simp) (M.o_pure e4)
  · intro y hy
    cases y with
    | inl u=>exact M.o_pure (decide_eq_false hy).symm
    | inr u=>exact M.o_pure (decide_eq_true hy).symm
theorem unl_ends (l:List Int) (a b:Int) (hl:l.length<=1000000):(zc6 l a b).Ends (!(decide (Bk.Rin l a b))):=by
  refine M.Out.ends ?_
  unfold zc6
  refine M.o_bind (P:=fun y=>match y with | .inl (_:Unit)=>¬ Bk.Rin l a b | .inr (_:Unit)=>Bk.Rin l a b) ?_ ?_
  · refine M.o_scan l.length (fun k=>(a<=l.getD k 0/\l.getD k 0<=b)/\(0<k->l.getD (k-1) 0<l.getD k 0)) ?_ ?_
    · intro s hi hp
      simp only [zcp]
      refine M.o_t (decide_eq_true (by omega)) (M.o_grdD (by omega) (M.o_bindE (out_ends _ _ _) ?_))
      refine M.o_grd (gI2 fun h=>by rw [Bool.and_eq_true,decide_eq_true_eq] at h; omega) (M.o_grd (gI2 fun h=>by rw [Bool.and_eq_true,decide_eq_true_eq] at h; omega) ?_)
      rw [show Int.toNat ((s:Int)-1)=s-1 by omega]
      refine M.o_if (fun hc=>?_) (fun hc=>?_)
      · refine M.o_pure fun hR=>?_
        have:=hR s hi
        rw [Bool.or_eq_true,Bool.not_eq_true',Bool.and_eq_false_iff,Bool.and_eq_true,decide_eq_false_iff_not,decide_eq_false_iff_not,decide_eq_true_eq,decide_eq_true_eq] at hc
        omega
      · rw [Bool.or_eq_false_iff,Bool.not_eq_false',Bool.and_eq_false_iff,Bool.and_eq_true,decide_eq_false_iff_not,decide_eq_false_iff_not,decide_eq_true_eq,decide_eq_true_eq] at hc
        exact M.o_pure ⟨rfl,by omega⟩
    · intro hp
      simp only [zcp]
      exact M.o_f (by simp) (M.o_pure hp)
  · intro y hy
    cases y with
    | inl u=>exact M.o_pure (by rw [decide_eq_false hy]; rfl)
    | inr u=>exact M.o_pure (by rw [decide_eq_true hy]; rfl)
theorem yr_ends (ys:List Yr) (os:List Old10) (f l:Int) (r:Yr):(zcY ys os f l r).Ends (Bk.yrB f l r):=by
  unfold zcY Bk.yrB
  generalize ha:(decide (f<=r.year)&&decide (r.year<=l))=A
  generalize hb:(decide (0<=r.lo)&&decide (r.lo<=r.hi))=B
  generalize hc:(decide (0<=r.hi)&&decide (r.hi<=2000))=C
  have a1:=in_ends r.year f l
  have b1:=in_ends r.lo 0 r.hi
  have c1:=in_ends r.hi 0 2000
  rw [ha] at a1; rw [hb] at b1; rw [hc] at c1
  refine M.i_bind a1 (M.i_bind (a:=A&&B) (M.i_opt (fun h=>by rw [h]; exact b1) (fun h=>by rw [h]; rfl)) (M.i_bind (a:=(A&&(A&&B))&&C) (M.i_opt (fun h=>by rw [h]; exact c1) (fun h=>by rw [h]; rfl)) ?_))
  cases A <;> cases B <;> cases C <;> exact M.i_pure
theorem old_ends {ys:List Yr} {os:List Old10} {f l:Int} (hl:l<=3000) (hf:0<=f) (o:Old10):(zct o ys os f l).Ends (Bk.oB f l o):=by
  unfold zct zdr Bk.oB
  generalize ha:(decide (f<=o.src)&&decide (o.src<=o.dst))=A
  generalize hb:(decide (f<=o.dst)&&decide (o.dst<=l))=B
  generalize hc:(decide (1<=o.stage)&&decide (o.stage<=2000))=C
  have a1:=in_ends o.src f o.dst
  have b1:=in_ends o.dst f l
  have c1:=in_ends o.stage 1 2000
  rw [ha] at a1; rw [hb] at b1; rw [hc] at c1
  have d1:A=true->B=true->(zau o.passed o.src o.dst).Ends (decide (Bk.Rin o.passed o.src o.dst)):=by
    rintro rfl rfl
    rw [Bool.and_eq_true,decide_eq_true_eq,decide_eq_true_eq] at ha hb
    exact rising_ends _ _ _ (by omega) (by omega)
  generalize (decide (Bk.Rin o.passed o.src o.dst))=E at d1
  refine M.i_bind (M.i_bind a1 (M.i_bind (a:=A&&B) (M.i_opt (fun h=>by rw [h]; exact b1) (fun h=>by rw [h]; rfl)) (M.i_bind (a:=(A&&(A&&B))&&C) (M.i_opt (fun h=>by rw [h]; exact c1) (fun h=>by rw [h]; rfl)) (M.i_bind (a:=(((A&&(A&&B))&&((A&&(A&&B))&&C)))&&E) (M.i_opt (fun h=>?_) (fun h=>by rw [h]; rfl)) M.i_pure)))) ?_
  · rw [h]
    have:A=true/\B=true:=by cases A <;> cases B <;> simp_all
    exact d1 this.1 this.2
  · cases A <;> cases B <;> cases C <;> cases E <;> exact M.i_pure
theorem check_ends (ys:List Yr) (os:List Old10) (f l:Int) (hy:ys.length<=1000000) (ho:os.length<=1000000):(zam ys os f l).Ends (Bk.chkB ys os f l):=by
  unfold zam Bk.chkB
  refine M.i_bind (in_ends _ _ _) (M.i_bind (a:=(decide (0<=f)&&decide (f<=l))&&(decide (0<=l)&&decide (l<=3000))) (M.i_opt (fun h=>by rw [Bool.not_not] at h; rw [h]; exact in_ends _ _ _) (fun h=>by rw [Bool.not_not] at h; rw [h]; rfl)) ?_)
  have e1:((!(decide (0<=f)&&decide (f<=l)))||!((decide (0<=f)&&decide (f<=l))&&(decide (0<=l)&&decide (l<=3000)))) = !((decide (0<=f)&&decide (f<=l))&&(decide (0<=l)&&decide (l<=3000))):=by
    cases (decide (0<=f)&&decide (f<=l)) <;> rfl
  rw [e1]
  refine M.i_grd (gI2 fun h=>?_) ?_
  · rw [Bool.not_not,Bool.and_eq_true,Bool.and_eq_true,Bool.and_eq_true,decide_eq_true_eq,decide_eq_true_eq,decide_eq_true_eq,decide_eq_true_eq] at h
    omega
  have e2:((!((decide (0<=f)&&decide (f<=l))&&(decide (0<=l)&&decide (l<=3000))))||decide (1000<=l-f)) = !(Bk.frB f l):=by
    unfold Bk.frB
    rw [Bool.eq_iff_iff]
    simp only [Bool.or_eq_true,Bool.not_eq_true',Bool.and_eq_false_iff,decide_eq_true_eq,decide_eq_false_iff_not]
    omega
  rw [e2]
  refine M.i_if (fun h1=>?_) (fun h1=>?_)
  · rw [Bool.not_eq_true'] at h1
    rw [if_pos h1]
    exact M.i_pure
  · rw [Bool.not_eq_false'] at h1
    rw [if_neg (by rw [h1]; simp)]
    have hfl:0<=f/\l<=3000:=by
      have h1:((0<=f/\f<=l)/\(0<=l/\l<=3000))/\l-f<1000:=by simpa [Bk.frB] using h1
      exact ⟨h1.1.1.1,h1.1.2.2⟩
    have few:=every_old (s:=os) (so:=fun xqz=>zc3 xqz) (p:=Bk.fewO) ho (fun o _=>M.i_pure)
    by_cases hm:60<ys.length∨8<os.length
    · have e3:(decide (60<(ys.length:Int))||decide (8<(os.length:Int)))=true:=by
        rw [Bool.or_eq_true,decide_eq_true_eq,decide_eq_true_eq]; omega
      rw [e3,if_pos (hm.elim (fun h=>.inl h) (fun h=>.inr (.inl h)))]
      exact M.i_bind (a:=false) (M.i_opt (fun h=>by cases h) (fun _=>rfl)) (M.i_t rfl M.i_pure)
    · have e3 : (decide (60 < (ys.length : Int)) || decide (8 < (os.length : Int))) = false := by
        rw [Bool.or_eq_false_iff,decide_eq_false_iff_not,decide_eq_false_iff_not]; omega
      rw [e3]
      refine M.i_bind (M.i_opt (fun _=>few) (fun h=>by cases h)) ?_
      cases hf:os.all Bk.fewO with
      | false =>
        rw [if_pos (.inr (.inr rfl))]
        exact M.i_t rfl M.i_pure
      | true =>
        rw [if_neg (fun h=>h.elim (fun h=>hm (.inl h)) (fun h=>h.elim (fun h=>hm (.inr h)) (fun h=>by cases h)))]
        refine M.i_f rfl ?_
        have out:(M.iter (za8 ys os f l) 0).Out (fun y=>(match y with | .inl s=>s ≠ 0/\s=Pk.fe (Bk.errY f l ys) ys.length | .inr (_:Unit)=>Pk.fe (Bk.errY f l ys) ys.length=0)):=by
          refine M.o_for ys.length (fun i s=>s=i/\Pk.fe (Bk.errY f l ys) i=0) ?_ ?_ ⟨rfl,rfl⟩
          · rintro i s hi ⟨rfl,h0⟩
            simp only [za8]
            refine M.o_t (decide_eq_true (by omega)) (M.o_grdD (by omega) (M.o_bindE (yr_ends _ _ _ _ _) (M.o_if (fun h1=>?_) (fun h1=>?_))))
            · have e:Bk.errY f l ys s=110:=by unfold Bk.errY; rw [if_pos (by simpa using h1)]
              exact M.o_pure ⟨by decide,by rw [Pk.fe_stop h0 (by rw [e]; decide) hi,e]⟩
            · have h1:Bk.yrB f l (ys.getD s default)=true:=by simpa using h1
              refine M.o_grd (gI2 fun h=>by have:=of_decide_eq_true h; omega) (M.o_grd (gI2 fun h=>by have:=of_decide_eq_true h; omega) ?_)
              rw [show Int.toNat ((s:Int)-1)=s-1 by omega]
              refine M.o_if (fun h2=>?_) (fun h2=>?_)
              · rw [Bool.and_eq_true,decide_eq_true_eq,decide_eq_true_eq] at h2
                have e:Bk.errY f l ys s=9:=by unfold Bk.errY; rw [if_neg (by rw [h1]; simp),if_pos ⟨by omega,h2.2⟩]
                exact M.o_pure ⟨by decide,by rw [Pk.fe_stop h0 (by rw [e]; decide) hi,e]⟩
              · refine M.o_pure ⟨rfl,?_⟩
                have e:Bk.errY f l ys s=0:=by
                  unfold Bk.errY
                  rw [if_neg (by rw [h1]; simp),if_neg]
                  intro hh
                  rw [Bool.and_eq_false_iff,decide_eq_false_iff_not,decide_eq_false_iff_not] at h2
                  omega
                show (if Pk.fe (Bk.errY f l ys) s ≠ 0 then _ else _)=_
                rw [if_neg (by rw [h0]; simp),e]
          · rintro s ⟨rfl,h0⟩
            simp only [za8]
            exact M.o_f (by simp) (M.o_pure h0)
        obtain ⟨y,g1,g2⟩:=out
        refine M.i_bind g1 ?_
        cases y with
        | inl s =>
          dsimp only at g2 ⊢
          rw [← g2.2,if_pos g2.1]; exact M.i_pure
        | inr u =>
          dsimp only at g2 ⊢
          rw [g2,if_neg (by simp)]
          refine M.i_bind (every_old ho fun o _=>old_ends hfl.2 hfl.1 o) ?_
          cases os.all (Bk.oB f l) with
          | true=>exact M.i_f rfl M.i_pure
          | false=>exact M.i_t rfl M.i_pure
theorem ref_check (ys:List Yr) (os:List Old10) (f l:Int) (hy:ys.length<=1000000) (ho:os.length<=1000000):(za7 ys os f l).Ends (Bk.chkB ys os f l):=by
  unfold za7 Bk.chkB
  have e0:((decide (0<=f)&&decide (f<=3000))&&(decide (0<=l)&&decide (l<=3000))&&decide (f<=l))=((decide (0<=f)&&decide (f<=l))&&(decide (0<=l)&&decide (l<=3000))):=by
    rw [Bool.eq_iff_iff]; simp only [Bool.and_eq_true,decide_eq_true_eq]; omega
  refine M.i_bind (out_ends _ _ _) (M.i_bind (a:=(decide (0<=f)&&decide (f<=3000))&&!(decide (0<=l)&&decide (l<=3000))) (M.i_opt (fun h=>by rw [Bool.not_not] at h; rw [h]; exact out_ends _ _ _) (fun h=>by rw [Bool.not_not] at h; rw [h]; rfl)) ?_)
  have e1:(((!(decide (0<=f)&&decide (f<=3000)))||((decide (0<=f)&&decide (f<=3000))&&!(decide (0<=l)&&decide (l<=3000))))||decide (l<f)) = !((decide (0<=f)&&decide (f<=l))&&(decide (0<=l)&&decide (l<=3000))):=by
    rw [← e0,show decide (l<f) = !(decide (f<=l)) by rw [← decide_not]; exact decide_eq_decide.2 (by omega)]
    cases (decide (0<=f)&&decide (f<=3000)) <;> cases (decide (0<=l)&&decide (l<=3000)) <;> cases (decide (f<=l)) <;> rfl
  rw [e1]
  refine M.i_grd (gI2 fun h=>?_) ?_
  · rw [Bool.not_not,Bool.and_eq_true,Bool.and_eq_true,Bool.and_eq_true,decide_eq_true_eq,decide_eq_true_eq,decide_eq_true_eq,decide_eq_true_eq] at h
    omega
  have e2:((!((decide (0<=f)&&decide (f<=l))&&(decide (0<=l)&&decide (l<=3000))))||decide (999<l-f)) = !(Bk.frB f l):=by
    unfold Bk.frB
    rw [Bool.eq_iff_iff]
    simp only [Bool.or_eq_true,Bool.not_eq_true',Bool.and_eq_false_iff,decide_eq_true_eq,decide_eq_false_iff_not]
    omega
  rw [e2]
  refine M.i_if (fun h1=>?_) (fun h1=>?_)
  · rw [Bool.not_eq_true'] at h1
    rw [if_pos h1]
    exact M.i_pure
  · rw [Bool.not_eq_false'] at h1
    rw [if_neg (by rw [h1]; simp)]
    by_cases hm:60<ys.length∨8<os.length
    · have e3:(decide (60<(ys.length:Int))||decide (8<(os.length:Int)))=true:=by
        rw [Bool.or_eq_true,decide_eq_true_eq,decide_eq_true_eq]; omega
      rw [if_pos (hm.elim (fun h=>.inl h) (fun h=>.inr (.inl h)))]
      exact M.i_t e3 M.i_pure
    · have e3 : (decide (60 < (ys.length : Int)) || decide (8 < (os.length : Int))) = false := by
        rw [Bool.or_eq_false_iff,decide_eq_false_iff_not,decide_eq_false_iff_not]; omega
      refine M.i_f e3 ?_
      have out0:(M.iter (zaT os) 0).Out (fun y=>(match y with | .inl (_:Unit)=>os.all Bk.fewO=false | .inr (_:Unit)=>os.all Bk.fewO=true)):=by
        refine M.o_scan os.length (fun k=>Bk.fewO (os.getD k default)=true) ?_ ?_
        · intro s hi hp
          simp only [zaT]
          have e:os.getD s default=os[s]:=by rw [List.getD_eq_getElem?_getD,List.getElem?_eq_getElem hi,Option.getD_some]
          refine M.o_t (decide_eq_true (by omega)) (M.o_grdD (by omega) (M.o_if (fun hb=>?_) (fun hb=>?_)))
          · refine M.o_pure ?_
            rw [List.all_eq_false]
            refine ⟨os[s],List.getElem_mem hi,?_⟩
            have:=of_decide_eq_true hb
            rw [← e]
            unfold Bk.fewO
            rw [decide_eq_true_eq]
            omega
          · have:=of_decide_eq_false hb
            exact M.o_pure ⟨rfl,decide_eq_true (by omega)⟩
        · intro hp
          simp only [zaT]
          refine M.o_f (by simp) (M.o_pure ?_)
          rw [List.all_eq_true]
          intro x hx
          obtain ⟨i,hi,rfl⟩:=List.getElem_of_mem hx
          have:=hp i hi
          rwa [List.getD_eq_getElem?_getD,List.getElem?_eq_getElem hi,Option.getD_some] at this
      obtain ⟨y0,g1,g2⟩:=out0
      refine M.i_bind g1 ?_
      cases y0 with
      | inl u =>
        dsimp only at g2 ⊢
        rw [if_pos (.inr (.inr g2))]
        exact M.i_pure
      | inr u =>
        dsimp only at g2 ⊢
        rw [if_neg (fun h=>h.elim (fun h=>hm (.inl h)) (fun h=>h.elim (fun h=>hm (.inr h)) (fun h=>by rw [g2] at h; cases h)))]
        have gf:os.all Bk.fewO=true:=g2
        have out:(M.iter (zbb ys f l) 0).Out (fun y=>(match y with | .inl s=>s ≠ 0/\s=Pk.fe (Bk.errY f l ys) ys.length | .inr (_:Unit)=>Pk.fe (Bk.errY f l ys) ys.length=0)):=by
          refine M.o_for ys.length (fun i s=>s=i/\Pk.fe (Bk.errY f l ys) i=0) ?_ ?_ ⟨rfl,rfl⟩
          · rintro i s hi ⟨rfl,h0⟩
            simp only [zbb]
            have e5:((((!(decide (f<=(ys.getD s default).year)&&decide ((ys.getD s default).year<=l)))||decide ((ys.getD s default).lo<0))||decide (2000<(ys.getD s default).hi))||decide ((ys.getD s default).hi<(ys.getD s default).lo)) = !(Bk.yrB f l (ys.getD s default)):=by
              unfold Bk.yrB
              rw [Bool.eq_iff_iff]
              simp only [Bool.or_eq_true,Bool.not_eq_true',Bool.and_eq_false_iff,decide_eq_true_eq,decide_eq_false_iff_not]
              omega
            refine M.o_t (decide_eq_true (by omega)) (M.o_grdD (by omega) (M.o_bindE (out_ends _ _ _) ?_))
            rw [e5]
            refine M.o_if (fun h1=>?_) (fun h1=>?_)
            · have e:Bk.errY f l ys s=110:=by unfold Bk.errY; rw [if_pos (by simpa using h1)]
              exact M.o_pure ⟨by decide,by rw [Pk.fe_stop h0 (by rw [e]; decide) hi,e]⟩
            · have h1:Bk.yrB f l (ys.getD s default)=true:=by simpa using h1
              refine M.o_grd (gI2 fun h=>by have:=of_decide_eq_true h; omega) (M.o_grd (gI2 fun h=>by have:=of_decide_eq_true h; omega) ?_)
              rw [show Int.toNat ((s:Int)-1)=s-1 by omega]
              refine M.o_if (fun h2=>?_) (fun h2=>?_)
              · rw [Bool.and_eq_true,decide_eq_true_eq,decide_eq_true_eq] at h2
                have e:Bk.errY f l ys s=9:=by unfold Bk.errY; rw [if_neg (by rw [h1]; simp),if_pos ⟨by omega,h2.2⟩]
                exact M.o_pure ⟨by decide,by rw [Pk.fe_stop h0 (by rw [e]; decide) hi,e]⟩
              · refine M.o_pure ⟨rfl,?_⟩
                have e:Bk.errY f l ys s=0:=by
                  unfold Bk.errY
                  rw [if_neg (by rw [h1]; simp),if_neg]
                  intro hh
                  rw [Bool.and_eq_false_iff,decide_eq_false_iff_not,decide_eq_false_iff_not] at h2
                  omega
                show (if Pk.fe (Bk.errY f l ys) s ≠ 0 then _ else _)=_
                rw [if_neg (by rw [h0]; simp),e]
          · rintro s ⟨rfl,h0⟩
            simp only [zbb]
            exact M.o_f (by simp) (M.o_pure h0)
        obtain ⟨y,g1,g2⟩:=out
        refine M.i_bind g1 ?_
        cases y with
        | inl s =>
          dsimp only at g2 ⊢
          rw [← g2.2,if_pos g2.1]; exact M.i_pure
        | inr u =>
          dsimp only at g2 ⊢
          rw [g2,if_neg (by simp)]
          have out2:(M.iter (zaP os f l) 0).Out (fun y=>(match y with | .inl (_:Unit)=>os.all (Bk.oB f l)=false | .inr (_:Unit)=>os.all (Bk.oB f l)=true)):=by
            refine M.o_scan os.length (fun k=>Bk.oB f l (os.getD k default)=true) ?_ ?_
            · intro s hi hp
              simp only [zaP]
              have e:os.getD s default=os[s]:=by rw [List.getD_eq_getElem?_getD,List.getElem?_eq_getElem hi,Option.getD_some]
              generalize ho':os.getD s default=o at *
              refine M.o_t (decide_eq_true (by omega)) (M.o_grdD (by omega) (M.o_bindE (out_ends _ _ _) ?_))
              have hfo:=List.all_eq_true.1 gf os[s] (List.getElem_mem hi)
              rw [← e] at hfo
              have hfo:(o.passed.length:Int)<=10:=of_decide_eq_true hfo
              have hd:=unl_ends o.passed o.src o.dst (by omega)
              have hq:Bk.oB f l o=((((decide (f<=o.src)&&decide (o.src<=l))&&(decide (f<=o.dst)&&decide (o.dst<=l)))&&(!(decide (o.dst<o.src))))&&(decide (1<=o.stage)&&decide (o.stage<=2000))&&decide (Bk.Rin o.passed o.src o.dst)):=by
                unfold Bk.oB
                refine congrArg (fun z=>z&&decide (Bk.Rin o.passed o.src o.dst)) ?_
                rw [Bool.eq_iff_iff]
                simp only [Bool.and_eq_true,Bool.not_eq_true',decide_eq_true_eq,decide_eq_false_iff_not]
                omega
              have b1:=out_ends o.dst f l
              have c1:=out_ends o.stage 1 2000
              generalize (decide (f<=o.src)&&decide (o.src<=l))=A at *
              generalize (decide (f<=o.dst)&&decide (o.dst<=l))=B at *
              generalize (decide (1<=o.stage)&&decide (o.stage<=2000))=C at *
              generalize (decide (o.dst<o.src))=D at *
              generalize (decide (Bk.Rin o.passed o.src o.dst))=E at *
              refine M.o_bindE (a:=A&&!B) (M.i_opt (fun h=>by rw [Bool.not_not] at h; rw [h]; exact b1) (fun h=>by rw [Bool.not_not] at h; rw [h]; rfl)) ?_
              refine M.o_bindE (a:=(!((!A||(A&&!B))||D))&&!C) (M.i_opt (fun h=>by rw [h]; exact c1) (fun h=>by rw [h]; rfl)) ?_
              refine M.o_bindE (a:=(!(((!A||(A&&!B))||D)||((!((!A||(A&&!B))||D))&&!C)))&&!E) (M.i_opt (fun h=>by rw [h]; exact hd) (fun h=>by rw [h]; rfl)) ?_
              have hz:((((!A||(A&&!B))||D)||((!((!A||(A&&!B))||D))&&!C))||((!(((!A||(A&&!B))||D)||((!((!A||(A&&!B))||D))&&!C)))&&!E)) = !(Bk.oB f l o):=by
                rw [hq]
                cases A <;> cases B <;> cases C <;> cases D <;> cases E <;> rfl
              rw [hz]
              refine M.o_if (fun hb=>?_) (fun hb=>?_)
              · refine M.o_pure ?_
                rw [List.all_eq_false]
                exact ⟨os[s],List.getElem_mem hi,by rw [← e]; simpa using hb⟩
              · exact M.o_pure ⟨rfl,by simpa using hb⟩
            · intro hp
              simp only [zaP]
              refine M.o_f (by simp) (M.o_pure ?_)
              rw [List.all_eq_true]
              intro x hx
              obtain ⟨i,hi,rfl⟩:=List.getElem_of_mem hx
              have:=hp i hi
              rwa [List.getD_eq_getElem?_getD,List.getElem?_eq_getElem hi,Option.getD_some] at this
          obtain ⟨z,g3,g4⟩:=out2
          refine M.i_bind g3 ?_
          cases z with
          | inl u =>
            dsimp only at g4 ⊢
            rw [if_pos g4]; exact M.i_pure
          | inr u =>
            dsimp only at g4 ⊢
            rw [if_neg (by rw [g4]; simp)]; exact M.i_pure
end Go.Proofs.YtejefipopolccaaGreat
-- libO/BB.lean
namespace Go.Nm
theorem lookM_map {κ ν:Type} [DecidableEq κ] (g:κ->ν->ν):∀ (m:List (κ × ν)) (k:κ),lookM (m.map fun p=>(p.1,g p.1 p.2)) k=(lookM m k).map (g k)
  | [],k=>rfl
  | p :: m,k=>by
    rw [List.map_cons]
    unfold lookM
    by_cases h:p.1=k
    · rw [if_pos h,if_pos h,h]; rfl
    · rw [if_neg h,if_neg h,lookM_map g m k]
namespace Bk
/-- The first year that can have none. -/
def First (ys:List Yr) (os:List Old10) (f l y:Int):Prop:=f<=y/\y<=l/\(kn ys os y).hi<(kn ys os y).lo/\∀ z,f<=z->z<y->(kn ys os z).lo<=(kn ys os z).hi
def Fine (ys:List Yr) (os:List Old10) (f l:Int):Prop:=∀ z,f<=z->z<=l->(kn ys os z).lo<=(kn ys os z).hi
theorem First.uniq {ys:List Yr} {os:List Old10} {f l y z:Int} (h:First ys os f l y) (k:First ys os f l z):y=z:=by
  obtain ⟨h1,h2,h3,h4⟩:=h
  obtain ⟨k1,k2,k3,k4⟩:=k
  rcases Int.lt_trichotomy y z with e | e | e
  · have:=k4 y h1 e; omega
  · exact e
  · have:=h4 z k1 e; omega
theorem First.bad {ys:List Yr} {os:List Old10} {f l y:Int} (h:First ys os f l y) (k:Fine ys os f l):False:=by
  obtain ⟨h1,h2,h3,h4⟩:=h
  have:=k y h1 h2
  omega
theorem rec_take {ys:List Yr} (hu:ys.Pairwise fun a b=>a.year<b.year) {s:Nat} (hs:s<ys.length) (y:Int):rec (ys.take (s+1)) y=if y=(ys.getD s default).year then ⟨(ys.getD s default).lo,(ys.getD s default).hi⟩ else rec (ys.take s) y:=by
  have e:ys.getD s default=ys[s]:=by rw [List.getD_eq_getElem?_getD,List.getElem?_eq_getElem hs,Option.getD_some]
  rw [e]
  unfold rec
  rw [← List.take_append_getElem hs,List.find?_append]
  by_cases hy:y=ys[s].year
  · rw [if_pos hy]
    have:(ys.take s).find? (fun r=>r.year==y)=none:=by
      rw [List.find?_eq_none]
      intro r hr
      obtain ⟨i,hi,rfl⟩:=List.getElem_of_mem hr
      rw [List.length_take] at hi
      rw [List.getElem_take]
      have:=List.pairwise_iff_getElem.1 hu i s (by omega) hs (by omega)
      rw [beq_iff_eq]
      omega
    rw [this]
    simp [hy]
  · rw [if_neg hy]
    have:(ys[s].year==y)=false:=by rw [beq_eq_false_iff_ne]; exact fun h=>hy h.symm
    simp only [List.find?_cons,this,List.find?_nil,Option.or_none]
end Bk
end Go.Nm
namespace Go.Proofs.YtejefipopolccaaGreat
open Go Go.Nm
variable {ys:List Yr} {os:List Old10} {f l:Int}
theorem index_in (s:List Int) (v:Int):(zcz s v).Out (fun r=>decide (0<=r)=s.contains v):=by
  unfold zcz
  refine M.o_bind (P:=fun y=>match y with | .inl i=>0<=i/\s.contains v=true | .inr (_:Unit)=>s.contains v=false) ?_ ?_
  · refine M.o_scan s.length (fun k=>s.getD k 0 ≠ v) ?_ ?_
    · intro k hk hp
      simp only [zbE]
      have e:s.getD k 0=s[k]:=by rw [List.getD_eq_getElem?_getD,List.getElem?_eq_getElem hk,Option.getD_some]
      refine M.o_t (decide_eq_true (by omega)) (M.o_grdD (by omega) (M.o_if (fun hb=>?_) (fun hb=>?_)))
      · refine M.o_pure ⟨by omega,?_⟩
        rw [List.contains_iff_mem,(beq_iff_eq.1 hb),e]
        exact List.getElem_mem hk
      · exact M.o_pure ⟨rfl,fun h=>(beq_eq_false_iff_ne.1 hb) h.symm⟩
    · intro hp
      simp only [zbE]
      refine M.o_f (by simp) (M.o_pure ?_)
      rw [← Bool.not_eq_true,List.contains_iff_mem]
      intro hx
      obtain ⟨i,hi,e⟩:=List.getElem_of_mem hx
      have:=hp i hi
      rw [List.getD_eq_getElem?_getD,List.getElem?_eq_getElem hi,Option.getD_some] at this
      exact this e
  · intro y hy
    cases y with
    | inl i=>exact M.o_pure (by rw [hy.2]; exact decide_eq_true hy.1)
    | inr u=>exact M.o_pure (by rw [hy]; decide)
theorem contains_ends (s:List Int) (v:Int):(zc8 s v).Ends (s.contains v):=by
  unfold zc8
  obtain ⟨r,h1,h2⟩:=index_in s v
  exact M.i_bind h1 (by rw [h2]; exact M.i_pure)
theorem told_ends (h:Bk.OkO f l os) (ky:Int) (vl:Span):(zbR os ky vl).Ends (os.foldl (Bk.told ky) vl):=by
  refine M.Out.ends ?_
  unfold zbR
  refine M.o_bind (P:=fun y=>(⟨y.1,y.2⟩:Span)=os.foldl (Bk.told ky) vl) ?_ (fun y e=>M.o_pure e)
  refine M.o_for os.length (fun i (s:Nat × Int × Int)=>s.1=i/\(⟨s.2.1,s.2.2⟩:Span)=(os.take i).foldl (Bk.told ky) vl) ?_ ?_ ⟨rfl,rfl⟩
  · rintro i ⟨s,a,b⟩ hi ⟨e1,e2⟩
    dsimp only at e1 e2
    subst e1
    simp only [zcs]
    have e:os.getD s default=os[s]:=by rw [List.getD_eq_getElem?_getD,List.getElem?_eq_getElem hi,Option.getD_some]
    have ho:=h.in_ os[s] (List.getElem_mem hi)
    have et:(os.take (s+1)).foldl (Bk.told ky) vl=Bk.told ky ⟨a,b⟩ os[s]:=by
      rw [← List.take_append_getElem hi,List.foldl_append,← e2]; rfl
    rw [e]
    refine M.o_t (decide_eq_true (by omega)) (M.o_grdD (by omega) (M.o_bindE (in_ends _ _ _) (M.o_if (fun hb=>?_) (fun hb=>?_))))
    · rw [Bool.not_eq_true',Bool.and_eq_false_iff,decide_eq_false_iff_not,decide_eq_false_iff_not] at hb
      refine M.o_pure ⟨rfl,?_⟩
      rw [et,Bk.told,if_neg (by omega)]
    · rw [Bool.not_eq_false',Bool.and_eq_true,decide_eq_true_eq,decide_eq_true_eq] at hb
      refine M.o_bindE (contains_ends _ _) (M.o_if (fun hc=>?_) (fun hc=>?_))
      · refine M.o_pure ⟨rfl,?_⟩
        rw [et,Bk.told,if_pos hb,if_pos hc]
      · refine M.o_grd (gA2 (by omega) (by omega)) (M.o_pure ⟨rfl,?_⟩)
        rw [et,Bk.told,if_pos hb,if_neg (by rw [hc]; simp)]
  · rintro ⟨s,a,b⟩ ⟨e1,e2⟩
    dsimp only at e1 e2
    subst e1
    simp only [zcs]
    rw [List.take_length] at e2
    exact M.o_f (by simp) (M.o_pure e2)
/-- What a book at work knows of its years. -/
def Knows (ys:List Yr) (os:List Old10) (f l:Int) (m:List (Int × Span)):Prop:=∀ y,f<=y->y<=l->(lookM m y).getD default=Bk.kn ys os y
theorem opened_bad (hy:ys.length<=1000000) (ho:os.length<=1000000) (h:Bk.chkB ys os f l ≠ 0):(zao ys os f l).Ends (.inl (Bk.chkB ys os f l)):=by
  unfold zao
  exact M.i_bind (check_ends ys os f l hy ho) (M.i_t (bne_iff_ne.2 h) M.i_pure)
theorem opened_ok (hy:ys.length<=1000000) (ho:os.length<=1000000) (h0:Bk.chkB ys os f l=0):∃ m,(zao ys os f l).Ends (.inr (f,l,m,0))/\Knows ys os f l m:=by
  have h:=Bk.chk_ok h0
  have hf0:=h.f0
  have hfl:=h.fl
  have hl3:=h.l3
  obtain ⟨m1,g1,k1⟩:(M.iter (zaS l) (([]:List (Int × Span)),f)).Out (fun m=>∀ y,f<=y->y<=l->lookM m y=some ⟨0,2000⟩):=by
    refine M.o_for (Int.toNat (l+1-f)) (fun i (s:List (Int × Span) × Int)=>s.2=f+i/\∀ y,f<=y->y<f+i->lookM s.1 y=some ⟨0,2000⟩) ?_ ?_ ⟨by simp,fun y h1 h2=>by simp at h2; omega⟩
    · rintro i ⟨m,y⟩ hi ⟨e1,e2⟩
      dsimp only at e1 e2
      subst e1
      simp only [zaS]
      refine M.o_t (decide_eq_true (by omega)) (M.o_grd (gA2 (by omega) (by omega)) (M.o_pure ⟨by dsimp only; omega,fun z h1 h2=>?_⟩))
      rw [lookM_set]
      split
      · rfl
      · exact e2 z h1 (by omega)
    · rintro ⟨m,y⟩ ⟨e1,e2⟩
      dsimp only at e1 e2
      subst e1
      simp only [zaS]
      exact M.o_f (decide_eq_false (by omega)) (M.o_pure fun z h1 h2=>e2 z h1 (by omega))
  obtain ⟨m2,g2,k2⟩:(M.iter (za9 ys) (m1,0)).Out (fun m=>∀ y,f<=y->y<=l->lookM m y=some (Bk.rec ys y)):=by
    refine M.o_for ys.length (fun i (s:List (Int × Span) × Nat)=>s.2=i/\∀ y,f<=y->y<=l->lookM s.1 y=some (Bk.rec (ys.take i) y)) ?_ ?_ ⟨rfl,k1⟩
    · rintro i ⟨m,s⟩ hi ⟨e1,e2⟩
      dsimp only at e1 e2
      subst e1
      simp only [za9]
      have e:ys.getD s default=ys[s]:=by rw [List.getD_eq_getElem?_getD,List.getElem?_eq_getElem hi,Option.getD_some]
      have hr:=h.y.in_ ys[s] (List.getElem_mem hi)
      rw [← e] at hr
      have et:=Bk.rec_take h.y.up hi
      refine M.o_t (decide_eq_true (by omega)) (M.o_grdD (by omega) (M.o_if (fun hb=>?_) (fun hb=>?_)))
      · refine M.o_pure ⟨rfl,fun y h1 h2=>?_⟩
        rw [lookM_set,et]
        split
        · rfl
        · exact e2 y h1 h2
      · rw [Bool.not_eq_false',decide_eq_true_eq] at hb
        refine M.o_pure ⟨rfl,fun y h1 h2=>?_⟩
        rw [et]
        split
        · rename_i hy'
          have k:=e2 _ hr.1 hr.2.1
          rw [k] at hb
          rw [hy',k]
          have h5:(ys.getD s default).lo=(Bk.rec (ys.take s) (ys.getD s default).year).lo:=congrArg Yr.lo hb
          have h6:(ys.getD s default).hi=(Bk.rec (ys.take s) (ys.getD s default).year).hi:=congrArg Yr.hi hb
          refine congrArg some ?_
          rw [h5,h6]
        · exact e2 y h1 h2
    · rintro ⟨m,s⟩ ⟨e1,e2⟩
      dsimp only at e1 e2
      subst e1
      simp only [za9]
      rw [List.take_length] at e2
      exact M.o_f (by simp) (M.o_pure e2)
  have g3:=M.mapL_ends (body:=zbR os) (g:=fun ky vl=>os.foldl (Bk.told ky) vl) (m:=m2) (fun p _=>told_ends h.o p.1 p.2)
  refine ⟨m2.map fun p=>(p.1,os.foldl (Bk.told p.1) p.2),?_,fun y h1 h2=>?_⟩
  · unfold zao
    refine M.i_bind (check_ends ys os f l hy ho) ?_
    rw [h0]
    exact M.i_f rfl (M.i_bind g1 (M.i_bind g2 (M.i_bind g3 M.i_pure)))
  · have e:=lookM_map (fun ky vl=>os.foldl (Bk.told ky) vl) m2 y
    rw [e,k2 y h1 h2]
    rfl
/-- A round over the years of a book at work. -/
theorem years_out {S X:Type} {bd:S->Int × Span->M (S ⊕ X)} {Q:S ⊕ X->Prop} {m:List (Int × Span)} {a b c d:Int} {s0:S} (hd:d<=3000) (ha:0<=a) (hab:a<=b+1) (hb:b<=d) (hc:c<=a) (hm:Knows ys os c d m) (J:Int->S->Prop) (h0:J a s0)
    (hr:∀ y s,a<=y->y<=b->J y s->(bd s (y,Bk.kn ys os y)).Out (fun x=>match x with | .inl s'=>J (y+1) s' | .inr x=>Q (.inr x))) (hl:∀ s,J (b+1) s->Q (.inl s)) (yw:List Yr) (ow:List Old10) (cw dw:Int) :
    (zaj (M.yl bd) (.inl s0) a b yw ow cw dw m).Out Q:=by
  unfold zaj
  refine M.o_bind (P:=fun y=>match y with | .inl t=>Q t | .inr t=>Q t) ?_ (fun y hy=>by cases y with | inl t=>exact M.o_pure hy | inr t=>exact M.o_pure hy)
  refine M.o_for (Int.toNat (b+1-a)) (fun i (s:Int × (S ⊕ X))=>s.1=a+i/\∃ s',s.2 = .inl s'/\J (a+i) s') ?_ ?_ ⟨by simp,s0,rfl,by simpa using h0⟩
  · rintro i ⟨y,t⟩ hi ⟨e1,s',e2,hj⟩
    dsimp only at e1 e2
    subst e1 e2
    simp only [zcf]
    rw [hm (a+i) (by omega) (by omega)]
    refine M.o_t (decide_eq_true (by omega)) ?_
    obtain ⟨x,g1,g2⟩:=hr (a+i) s' (by omega) (by omega) hj
    cases x with
    | inl s2 =>
      refine M.o_bindE (a:=(true,.inl s2)) (M.i_bind g1 M.i_pure) (M.o_f rfl (M.o_grd (gA2 (by omega) (by omega)) (M.o_pure ⟨by dsimp only; omega,s2,rfl,?_⟩)))
      dsimp only at g2
      rw [show a+((i+1:Nat):Int)=a+i+1 by omega]
      exact g2
    | inr x2=>exact M.o_bindE (a:=(false,.inr x2)) (M.i_bind g1 M.i_pure) (M.o_t rfl (M.o_pure g2))
  · rintro ⟨y,t⟩ ⟨e1,s',e2,hj⟩
    dsimp only at e1 e2
    subst e1 e2
    simp only [zcf]
    refine M.o_f (decide_eq_false (by omega)) (M.o_pure ?_)
    refine hl s' ?_
    rwa [show a+(Int.toNat (b+1-a):Int)=b+1 by omega] at hj
theorem clash_out (h:Bk.Ok ys os f l) {m:List (Int × Span)} (hm:Knows ys os f l m):(zaL ys os f l m).Out (fun r=>(r=(0,false)/\Bk.Fine ys os f l)∨(r.2=true/\Bk.First ys os f l r.1)):=by
  have hf0:=h.f0
  have hfl:=h.fl
  have hl3:=h.l3
  unfold zaL zaf
  refine M.o_bindE M.i_pure (M.o_bind (P:=fun x=>match x with | .inl (_:Unit)=>Bk.Fine ys os f l | .inr y=>Bk.First ys os f l y) ?_ ?_)
  · refine years_out hl3 hf0 (by omega) (Int.le_refl _) (Int.le_refl _) hm (fun y _=>∀ z,f<=z->z<y->(Bk.kn ys os z).lo<=(Bk.kn ys os z).hi) (fun z h1 h2=>by omega) ?_ ?_ _ _ _ _
    · intro y s h1 h2 hj
      simp only [zaD]
      refine M.o_if (fun hb=>?_) (fun hb=>?_)
      · exact M.o_pure ⟨h1,h2,of_decide_eq_true hb,hj⟩
      · have:=of_decide_eq_false hb
        refine M.o_pure fun z h3 h4=>?_
        by_cases e:z=y
        · subst e; omega
        · exact hj z h3 (by omega)
    · intro s hj z h1 h2
      exact hj z h1 (by omega)
  · intro y hy
    cases y with
    | inl u=>exact M.o_pure (.inl ⟨rfl,hy⟩)
    | inr y=>exact M.o_pure (.inr ⟨rfl,hy⟩)
end Go.Proofs.YtejefipopolccaaGreat
-- libO/BC.lean
namespace Go.Nm
namespace Bk
/-- What the reference says of a year. -/
def sp (ys:List Yr) (os:List Old10) (y:Int):Int × Int:=if (kn ys os y).lo<=(kn ys os y).hi then ((kn ys os y).lo,(kn ys os y).hi) else (1,0)
/-- The first year without a truth, or the error. -/
def ClE (ys:List Yr) (os:List Old10) (f l:Int) (r:Int × Int):Prop:=(chkB ys os f l ≠ 0/\r=(0,chkB ys os f l))∨(chkB ys os f l=0/\Fine ys os f l/\r=(0,5))∨(chkB ys os f l=0/\First ys os f l r.1/\r.2=0)
theorem ClE.uniq {ys:List Yr} {os:List Old10} {f l:Int} {r s:Int × Int} (h:ClE ys os f l r) (k:ClE ys os f l s):r=s:=by
  rcases h with ⟨h1,rfl⟩ | ⟨h1,h2,rfl⟩ | ⟨h1,h2,h3⟩
  · rcases k with ⟨k1,rfl⟩ | ⟨k1,_⟩ | ⟨k1,_⟩
    · rfl
    · exact absurd k1 h1
    · exact absurd k1 h1
  · rcases k with ⟨k1,rfl⟩ | ⟨k1,k2,rfl⟩ | ⟨k1,k2,k3⟩
    · exact absurd h1 k1
    · rfl
    · exact (k2.bad h2).elim
  · rcases k with ⟨k1,rfl⟩ | ⟨k1,k2,rfl⟩ | ⟨k1,k2,k3⟩
    · exact absurd h1 k1
    · exact (h2.bad k2).elim
    · exact Prod.ext (h2.uniq k2) (by rw [h3,k3])
/-- The highest stages of a year, or the error. -/
def HiE (ys:List Yr) (os:List Old10) (f l y:Int) (r:Int × Int × Int):Prop:=(chkB ys os f l ≠ 0/\r=(0,0,chkB ys os f l))∨(chkB ys os f l=0/\¬ (f<=y/\y<=l)/\r=(0,0,2))∨(chkB ys os f l=0/\(f<=y/\y<=l)/\¬ Fine ys os f l/\r=(0,0,6)) ∨
  (chkB ys os f l=0/\(f<=y/\y<=l)/\Fine ys os f l/\r=((kn ys os y).lo,(kn ys os y).hi,0))
theorem HiE.uniq {ys:List Yr} {os:List Old10} {f l y:Int} {r s:Int × Int × Int} (h:HiE ys os f l y r) (k:HiE ys os f l y s):r=s:=by
  rcases h with ⟨h1,rfl⟩ | ⟨h1,h2,rfl⟩ | ⟨h1,h2,h3,rfl⟩ | ⟨h1,h2,h3,rfl⟩ <;> rcases k with ⟨k1,rfl⟩ | ⟨k1,k2,rfl⟩ | ⟨k1,k2,k3,rfl⟩ | ⟨k1,k2,k3,rfl⟩ <;> first | rfl | contradiction
/-- A truth that can be. -/
def Can (ys:List Yr) (os:List Old10) (f:Int) (st:List Int):Prop:=∀ i,i<st.length->(kn ys os (f+i)).lo<=st.getD i 0/\st.getD i 0<=(kn ys os (f+i)).hi
def All2 (st:List Int):Prop:=∀ i,i<st.length->0<=st.getD i 0/\st.getD i 0<=2000
def HoE (ys:List Yr) (os:List Old10) (f l:Int) (st:List Int) (r:Bool × Int):Prop:=(chkB ys os f l ≠ 0/\r=(false,chkB ys os f l))∨(chkB ys os f l=0/\(st.length:Int) ≠ l-f+1/\r=(false,2))∨(chkB ys os f l=0/\(st.length:Int)=l-f+1/\¬ All2 st/\r=(false,4)) ∨
  (chkB ys os f l=0/\(st.length:Int)=l-f+1/\All2 st/\¬ Can ys os f st/\r=(false,0))∨(chkB ys os f l=0/\(st.length:Int)=l-f+1/\All2 st/\Can ys os f st/\r=(true,0))
theorem HoE.uniq {ys:List Yr} {os:List Old10} {f l:Int} {st:List Int} {r s:Bool × Int} (h:HoE ys os f l st r) (k:HoE ys os f l st s):r=s:=by
  rcases h with ⟨h1,rfl⟩ | ⟨h1,h2,rfl⟩ | ⟨h1,h2,h3,rfl⟩ | ⟨h1,h2,h3,h4,rfl⟩ | ⟨h1,h2,h3,h4,rfl⟩ <;> rcases k with ⟨k1,rfl⟩ | ⟨k1,k2,rfl⟩ | ⟨k1,k2,k3,rfl⟩ | ⟨k1,k2,k3,k4,rfl⟩ | ⟨k1,k2,k3,k4,rfl⟩ <;> first | rfl | contradiction
end Bk
end Go.Nm
namespace Go.Proofs.YtejefipopolccaaGreat
open Go Go.Nm
variable {ys:List Yr} {os:List Old10} {f l:Int}
theorem said_ends (os:List Old10) (y:Int) (i:Nat):(M.iter (za6 os y i) (false,0)).Ends ((os.getD i default).passed.contains y):=by
  refine M.Out.ends ?_
  refine M.o_for (os.getD i default).passed.length (fun k (s:Bool × Nat)=>s.2=k/\s.1=((os.getD i default).passed.take k).contains y) ?_ ?_ ⟨rfl,rfl⟩
  · rintro k ⟨b,s⟩ hk ⟨e1,e2⟩
    dsimp only at e1 e2
    subst e1 e2
    simp only [za6]
    refine M.o_t (decide_eq_true (by omega)) (M.o_grd (by rw [Bool.or_eq_true]; exact .inr (decide_eq_true (by omega))) (M.o_pure ⟨rfl,?_⟩))
    dsimp only
    have eg:(os.getD i default).passed.getD s 0=(os.getD i default).passed[s]:=by rw [List.getD_eq_getElem?_getD,List.getElem?_eq_getElem hk,Option.getD_some]
    rw [eg,← List.take_append_getElem hk,List.contains_eq_any_beq,List.contains_eq_any_beq,List.any_append]
    simp only [List.any_cons,List.any_nil,Bool.or_false]
    rw [Bool.beq_comm (a:=y)]
  · rintro ⟨b,s⟩ ⟨e1,e2⟩
    dsimp only at e1 e2
    subst e1 e2
    simp only [za6]
    exact M.o_f (by simp) (M.o_pure (by rw [List.take_length]))
theorem can_ends (ys:List Yr) (os:List Old10) (f l y x:Int):(zci ys os f l y x).Ends (Bk.can ys os y x):=by
  refine M.Out.ends ?_
  unfold zci Bk.can
  refine M.o_bind (P:=fun z=>match z with | .inl (_:Unit)=>(ys.all fun r=>!(r.year==y&&(decide (x<r.lo)||decide (x > r.hi))))=false | .inr (_:Unit)=>(ys.all fun r=>!(r.year==y&&(decide (x<r.lo)||decide (x > r.hi))))=true) ?_ ?_
  · refine M.o_scan ys.length (fun k=>(!((ys.getD k default).year==y&&(decide (x<(ys.getD k default).lo)||decide (x > (ys.getD k default).hi))))=true) ?_ ?_
    · intro s hi hp
      simp only [zb8]
      have e:ys.getD s default=ys[s]:=by rw [List.getD_eq_getElem?_getD,List.getElem?_eq_getElem hi,Option.getD_some]
      have e2:(!(decide ((ys.getD s default).lo<=x)&&decide (x<=(ys.getD s default).hi)))=(decide (x<(ys.getD s default).lo)||decide (x > (ys.getD s default).hi)):=by
        rw [Bool.eq_iff_iff]
        simp only [Bool.or_eq_true,Bool.not_eq_true',Bool.and_eq_false_iff,decide_eq_true_eq,decide_eq_false_iff_not]
        omega
      have k:=out_ends x (ys.getD s default).lo (ys.getD s default).hi
      rw [e2] at k
      refine M.o_t (decide_eq_true (by omega)) (M.o_grdD (by omega) (M.o_bindE (a:=((ys.getD s default).year==y)&&(decide (x<(ys.getD s default).lo)||decide (x > (ys.getD s default).hi))) (M.i_opt (fun h=>by rw [h]; exact k) (fun h=>by rw [h]; rfl)) ?_))
      generalize hA:((ys.getD s default).year==y)=A
      generalize hB:(decide (x<(ys.getD s default).lo)||decide (x > (ys.getD s default).hi))=B
      refine M.o_if (fun hb=>?_) (fun hb=>?_)
      · refine M.o_pure ?_
        rw [List.all_eq_false]
        refine ⟨ys[s],List.getElem_mem hi,?_⟩
        rw [← e,hA,hB]
        cases A <;> cases B <;> simp at hb ⊢
      · exact M.o_pure ⟨rfl,by cases A <;> cases B <;> simp at hb ⊢⟩
    · intro hp
      simp only [zb8]
      refine M.o_f (by simp) (M.o_pure ?_)
      rw [List.all_eq_true]
      intro r hr
      obtain ⟨i,hi,rfl⟩:=List.getElem_of_mem hr
      have:=hp i hi
      rwa [List.getD_eq_getElem?_getD,List.getElem?_eq_getElem hi,Option.getD_some] at this
  · intro z hz
    cases z with
    | inl u=>exact M.o_pure (by dsimp only at hz; rw [hz]; rfl)
    | inr u =>
      dsimp only at hz ⊢
      rw [hz,Bool.true_and]
      refine M.o_bind (P:=fun z=>match z with | .inl (_:Unit)=>(os.all fun o=>!(decide (o.src<=y)&&decide (y<=o.dst))||(o.passed.contains y==decide (o.stage<=x)))=false | .inr (_:Unit)=>(os.all fun o=>!(decide (o.src<=y)&&decide (y<=o.dst))||(o.passed.contains y==decide (o.stage<=x)))=true) ?_ ?_
      · refine M.o_scan os.length (fun k=>(!(decide ((os.getD k default).src<=y)&&decide (y<=(os.getD k default).dst))||((os.getD k default).passed.contains y==decide ((os.getD k default).stage<=x)))=true) ?_ ?_
        · intro s hi hp
          simp only [zb4]
          have e:os.getD s default=os[s]:=by rw [List.getD_eq_getElem?_getD,List.getElem?_eq_getElem hi,Option.getD_some]
          refine M.o_t (decide_eq_true (by omega)) (M.o_grdD (by omega) (M.o_bindE (out_ends _ _ _) (M.o_if (fun hb=>?_) (fun hb=>?_))))
          · exact M.o_pure ⟨rfl,by rw [hb]; rfl⟩
          · refine M.o_bindE (said_ends os y s) (M.o_if (fun hc=>?_) (fun hc=>?_))
            · refine M.o_pure ?_
              rw [List.all_eq_false]
              refine ⟨os[s],List.getElem_mem hi,?_⟩
              rw [← e,hb,Bool.false_or]
              intro h
              rw [beq_iff_eq.1 h] at hc
              simp at hc
            · refine M.o_pure ⟨rfl,?_⟩
              rw [hb,Bool.false_or]
              simpa using hc
        · intro hp
          simp only [zb4]
          refine M.o_f (by simp) (M.o_pure ?_)
          rw [List.all_eq_true]
          intro r hr
          obtain ⟨i,hi,rfl⟩:=List.getElem_of_mem hr
          have:=hp i hi
          rwa [List.getD_eq_getElem?_getD,List.getElem?_eq_getElem hi,Option.getD_some] at this
      · intro z hz
        cases z with
        | inl u=>exact M.o_pure (by dsimp only at hz; rw [hz])
        | inr u=>exact M.o_pure (by dsimp only at hz; rw [hz])
theorem span_ends (h:Bk.OkY f l ys) (k:Bk.OkO f l os) (y:Int):(zaA ys os f l y).Ends (Bk.sp ys os y):=by
  refine M.Out.ends ?_
  unfold zaA
  have hk:=Bk.kn_in h k y
  have hcan:=fun x=>can_ends ys os f l y x
  have hiff:=fun (x:Int) (h0:0<=x) (h1:x<=2000)=>Bk.can_iff (os:=os) (y:=y) h h0 h1
  unfold Bk.sp
  generalize Bk.kn ys os y=K at *
  refine M.o_bind (P:=fun z=>z=if K.lo<=K.hi then (K.lo,K.hi) else (1,0)) ?_ (fun z e=>M.o_pure e)
  refine M.o_for 2001 (fun i (s:Int × Bool × Nat × Int)=>s.2.2.1=i/\((s.2.1=false/\s.1=1/\s.2.2.2=0/\(K.lo<=K.hi->(i:Int)<=K.lo))∨(s.2.1=true/\K.lo<=K.hi/\s.1=K.lo/\K.lo<i/\s.2.2.2=min ((i:Int)-1) K.hi))) ?_ ?_ ⟨rfl,.inl ⟨rfl,rfl,rfl,fun _=>hk.1⟩⟩
  · rintro i ⟨s,s2,st,s3⟩ hi ⟨e1,hj⟩
    dsimp only at e1 hj
    subst e1
    simp only [zb2]
    have hx:=hiff st (by omega) (by omega)
    refine M.o_t (decide_eq_true (by omega)) (M.o_bindE (hcan _) (M.o_if (fun hb=>?_) (fun hb=>?_)))
    · have hx:=hx.1 hb
      rcases hj with ⟨rfl,rfl,rfl,e5⟩ | ⟨rfl,e3,rfl,e4,rfl⟩
      · have:=e5 (by omega)
        exact M.o_t rfl (M.o_grd (gA2 (by omega) (by omega)) (M.o_pure ⟨rfl,.inr ⟨rfl,by omega,by first | omega | (dsimp only; omega),by first | omega | (dsimp only; omega),by first | omega | (dsimp only; omega)⟩⟩))
      · exact M.o_f rfl (M.o_grd (gA2 (by omega) (by omega)) (M.o_pure ⟨rfl,.inr ⟨rfl,by omega,rfl,by omega,by first | omega | (dsimp only; omega)⟩⟩))
    · have hx:¬ (K.lo<=st/\st<=K.hi):=fun hh=>by rw [hx.2 hh] at hb; cases hb
      refine M.o_grd (gA2 (by omega) (by omega)) (M.o_pure ⟨rfl,?_⟩)
      dsimp only
      rcases hj with ⟨rfl,rfl,rfl,e5⟩ | ⟨rfl,e3,rfl,e4,rfl⟩
      · exact .inl ⟨rfl,rfl,rfl,fun hh=>by have:=e5 hh; omega⟩
      · exact .inr ⟨rfl,e3,rfl,by omega,by omega⟩
  · rintro ⟨s,s2,st,s3⟩ ⟨e1,hj⟩
    dsimp only at e1 hj
    subst e1
    simp only [zb2]
    refine M.o_f (by simp) (M.o_pure ?_)
    rcases hj with ⟨rfl,rfl,rfl,e5⟩ | ⟨rfl,e3,rfl,e4,rfl⟩
    · rw [if_neg (fun hh=>by have:=e5 hh; omega)]
    · rw [if_pos e3,show min (((2001:Nat):Int)-1) K.hi=K.hi by omega]
theorem ref_clash (hy:ys.length<=1000000) (ho:os.length<=1000000):(zbh ys os f l).Out (Bk.ClE ys os f l):=by
  unfold zbh
  refine M.o_bindE (ref_check ys os f l hy ho) (M.o_if (fun hb=>?_) (fun hb=>?_))
  · exact M.o_pure (.inl ⟨bne_iff_ne.1 hb,rfl⟩)
  · have h0:Bk.chkB ys os f l=0:=by simpa using hb
    have h:=Bk.chk_ok h0
    have hf0:=h.f0
    have hfl:=h.fl
    have hl3:=h.l3
    refine M.o_bind (P:=fun z=>match z with | .inl y=>Bk.First ys os f l y | .inr (_:Unit)=>Bk.Fine ys os f l) ?_ ?_
    · refine M.o_for (Int.toNat (l+1-f)) (fun i (s:Int)=>s=f+i/\∀ z,f<=z->z<s->(Bk.kn ys os z).lo<=(Bk.kn ys os z).hi) ?_ ?_ ⟨by simp,fun z h1 h2=>by omega⟩
      · rintro i s hi ⟨e1,hj⟩
        simp only [zbU]
        refine M.o_t (decide_eq_true (by omega)) (M.o_bindE (span_ends h.y h.o s) ?_)
        unfold Bk.sp
        by_cases hc:(Bk.kn ys os s).lo<=(Bk.kn ys os s).hi
        · rw [if_pos hc]
          refine M.o_f (decide_eq_false (by omega)) (M.o_grd (gA2 (by omega) (by omega)) (M.o_pure ⟨by omega,fun z h1 h2=>?_⟩))
          by_cases e:z=s
          · subst e; exact hc
          · exact hj z h1 (by omega)
        · rw [if_neg hc]
          exact M.o_t (by decide) (M.o_pure ⟨by omega,by omega,by omega,hj⟩)
      · rintro s ⟨e1,hj⟩
        simp only [zbU]
        exact M.o_f (decide_eq_false (by omega)) (M.o_pure fun z h1 h2=>hj z h1 (by omega))
    · intro z hz
      cases z with
      | inl y=>exact M.o_pure (.inr (.inr ⟨h0,hz,rfl⟩))
      | inr u=>exact M.o_pure (.inr (.inl ⟨h0,hz,rfl⟩))
theorem of_clash (hy:ys.length<=1000000) (ho:os.length<=1000000):(zcP ys os f l).Out (Bk.ClE ys os f l):=by
  unfold zcP
  by_cases h0:Bk.chkB ys os f l=0
  · have h:=Bk.chk_ok h0
    obtain ⟨m,g1,hm⟩:=opened_ok hy ho h0
    refine M.o_bindE g1 (M.o_f rfl (M.o_bind (clash_out h hm) ?_))
    rintro ⟨y,b⟩ (⟨e,hF⟩ | ⟨e,hF⟩)
    · rw [Prod.mk.injEq] at e
      obtain ⟨rfl,rfl⟩:=e
      exact M.o_t rfl (M.o_pure (.inr (.inl ⟨h0,hF,rfl⟩)))
    · dsimp only at e hF
      subst e
      exact M.o_f rfl (M.o_pure (.inr (.inr ⟨h0,hF,rfl⟩)))
  · exact M.o_bindE (opened_bad hy ho h0) (M.o_t (bne_iff_ne.2 h0) (M.o_pure (.inl ⟨h0,rfl⟩)))
theorem ref_highest (hy:ys.length<=1000000) (ho:os.length<=1000000) (y:Int):(zcW ys os f l y).Out (Bk.HiE ys os f l y):=by
  unfold zcW
  refine M.o_bind (ref_clash hy ho) ?_
  rintro ⟨a,b⟩ hc
  rcases hc with ⟨h0,e⟩ | ⟨h0,h1,e⟩ | ⟨h0,h1,e⟩
  · rw [Prod.mk.injEq] at e
    obtain ⟨rfl,rfl⟩:=e
    by_cases h5:Bk.chkB ys os f l=5
    · exfalso
      unfold Bk.chkB at h5
      split at h5
      · cases h5
      · split at h5
        · cases h5
        · split at h5
          · have : ∀ n, Pk.fe (Bk.errY f l ys) n = 0 ∨ Pk.fe (Bk.errY f l ys) n = 9 ∨ Pk.fe (Bk.errY f l ys) n = 110 := by
              intro n
              induction n with
              | zero=>exact .inl rfl
              | succ n ih =>
                unfold Pk.fe
                split
                · exact ih
                · unfold Bk.errY
                  split
                  · exact .inr (.inr rfl)
                  · split
                    · exact .inr (.inl rfl)
                    · exact .inl rfl
            have:=this ys.length
            omega
          · split at h5 <;> cases h5
    · exact M.o_t (by rw [bne_iff_ne.2 h0,bne_iff_ne.2 h5]; rfl) (M.o_pure (.inl ⟨h0,rfl⟩))
  · rw [Prod.mk.injEq] at e
    obtain ⟨rfl,rfl⟩:=e
    refine M.o_f rfl (M.o_bindE (out_ends _ _ _) (M.o_if (fun hb=>?_) (fun hb=>?_)))
    · rw [Bool.not_eq_true',Bool.and_eq_false_iff,decide_eq_false_iff_not,decide_eq_false_iff_not] at hb
      exact M.o_pure (.inr (.inl ⟨h0,by omega,rfl⟩))
    · rw [Bool.not_eq_false',Bool.and_eq_true,decide_eq_true_eq,decide_eq_true_eq] at hb
      have h:=Bk.chk_ok h0
      refine M.o_f rfl (M.o_bindE (span_ends h.y h.o y) ?_)
      unfold Bk.sp
      rw [if_pos (h1 y hb.1 hb.2)]
      exact M.o_pure (.inr (.inr (.inr ⟨h0,hb,h1,rfl⟩)))
  · dsimp only at h1 e
    subst e
    refine M.o_f rfl (M.o_bindE (out_ends _ _ _) (M.o_if (fun hb=>?_) (fun hb=>?_)))
    · rw [Bool.not_eq_true',Bool.and_eq_false_iff,decide_eq_false_iff_not,decide_eq_false_iff_not] at hb
      exact M.o_pure (.inr (.inl ⟨h0,by omega,rfl⟩))
    · rw [Bool.not_eq_false',Bool.and_eq_true,decide_eq_true_eq,decide_eq_true_eq] at hb
      exact M.o_t rfl (M.o_pure (.inr (.inr (.inl ⟨h0,hb,fun hF=>h1.bad hF,rfl⟩))))
theorem of_highest (hy:ys.length<=1000000) (ho:os.length<=1000000) (y:Int):(zcL ys os f l y).Out (Bk.HiE ys os f l y):=by
  unfold zcL
  by_cases h0:Bk.chkB ys os f l=0
  · have h:=Bk.chk_ok h0
    obtain ⟨m,g1,hm⟩:=opened_ok hy ho h0
    refine M.o_bindE g1 (M.o_f rfl (M.o_bindE (in_ends _ _ _) (M.o_if (fun hb=>?_) (fun hb=>?_))))
    · rw [Bool.not_eq_true',Bool.and_eq_false_iff,decide_eq_false_iff_not,decide_eq_false_iff_not] at hb
      exact M.o_pure (.inr (.inl ⟨h0,by omega,rfl⟩))
    · rw [Bool.not_eq_false',Bool.and_eq_true,decide_eq_true_eq,decide_eq_true_eq] at hb
      refine M.o_bind (clash_out h hm) ?_
      rintro ⟨y',b⟩ (⟨e,hF⟩ | ⟨e,hF⟩)
      · rw [Prod.mk.injEq] at e
        obtain ⟨rfl,rfl⟩:=e
        refine M.o_f rfl (M.o_pure (.inr (.inr (.inr ⟨h0,hb,hF,?_⟩))))
        rw [hm y hb.1 hb.2]
      · dsimp only at e hF
        subst e
        exact M.o_t rfl (M.o_pure (.inr (.inr (.inl ⟨h0,hb,fun hh=>hF.bad hh,rfl⟩))))
  · exact M.o_bindE (opened_bad hy ho h0) (M.o_t (bne_iff_ne.2 h0) (M.o_pure (.inl ⟨h0,rfl⟩)))
theorem ref_holds (hy:ys.length<=1000000) (ho:os.length<=1000000) (st:List Int):(zbx ys os f l st).Out (Bk.HoE ys os f l st):=by
  unfold zbx
  refine M.o_bindE (ref_check ys os f l hy ho) (M.o_if (fun hb=>?_) (fun hb=>?_))
  · exact M.o_pure (.inl ⟨bne_iff_ne.1 hb,rfl⟩)
  · have h0 : Bk.chkB ys os f l = 0 := by simpa using hb
    have h:=Bk.chk_ok h0
    have hf0:=h.f0
    have hfl:=h.fl
    have hl3:=h.l3
    refine M.o_grd (gA2 (by omega) (by omega)) (M.o_grd (gA2 (by omega) (by omega)) (M.o_if (fun hl=>?_) (fun hl=>?_)))
    · exact M.o_pure (.inr (.inl ⟨h0,bne_iff_ne.1 hl,rfl⟩))
    · have hl : (st.length : Int) = l - f + 1 := by simpa using hl
      refine M.o_bind (P:=fun z=>match z with | .inl (_:Unit)=>¬ Bk.All2 st | .inr (_:Unit)=>Bk.All2 st) ?_ ?_
      · refine M.o_scan st.length (fun k=>0<=st.getD k 0/\st.getD k 0<=2000) ?_ ?_
        · intro s hi hp
          simp only [zb0]
          refine M.o_t (decide_eq_true (by omega)) (M.o_grdD (by omega) (M.o_bindE (out_ends _ _ _) (M.o_if (fun hb=>?_) (fun hb=>?_))))
          · rw [Bool.not_eq_true',Bool.and_eq_false_iff,decide_eq_false_iff_not,decide_eq_false_iff_not] at hb
            refine M.o_pure fun hA=>?_
            have:=hA s hi
            omega
          · rw [Bool.not_eq_false',Bool.and_eq_true,decide_eq_true_eq,decide_eq_true_eq] at hb
            exact M.o_pure ⟨rfl,hb⟩
        · intro hp
          simp only [zb0]
          exact M.o_f (by simp) (M.o_pure hp)
      · intro z hz
        cases z with
        | inl u=>exact M.o_pure (.inr (.inr (.inl ⟨h0,hl,hz,rfl⟩)))
        | inr u =>
          have hA:Bk.All2 st:=hz
          refine M.o_bind (P:=fun z=>match z with | .inl (_:Unit)=>¬ Bk.Can ys os f st | .inr (_:Unit)=>Bk.Can ys os f st) ?_ ?_
          · refine M.o_scan st.length (fun k=>(Bk.kn ys os (f+k)).lo<=st.getD k 0/\st.getD k 0<=(Bk.kn ys os (f+k)).hi) ?_ ?_
            · intro s hi hp
              simp only [zbX]
              have hx:=Bk.can_iff (os:=os) (y:=f+s) h.y (hA s hi).1 (hA s hi).2
              refine M.o_t (decide_eq_true (by omega)) (M.o_grd (gA2 (by omega) (by omega)) (M.o_grdD (by omega) (M.o_bindE (can_ends _ _ _ _ _ _) (M.o_if (fun hb=>?_) (fun hb=>?_)))))
              · rw [Bool.not_eq_true'] at hb
                refine M.o_pure fun hC=>?_
                rw [hx.2 (hC s hi)] at hb
                cases hb
              · rw [Bool.not_eq_false'] at hb
                exact M.o_pure ⟨rfl,hx.1 hb⟩
            · intro hp
              simp only [zbX]
              exact M.o_f (by simp) (M.o_pure hp)
          · intro z hz
            cases z with
            | inl u=>exact M.o_pure (.inr (.inr (.inr (.inl ⟨h0,hl,hA,hz,rfl⟩))))
            | inr u=>exact M.o_pure (.inr (.inr (.inr (.inr ⟨h0,hl,hA,hz,rfl⟩))))
theorem of_holds (hy:ys.length<=1000000) (ho:os.length<=1000000) (st:List Int) (hs:st.length<=1000000):(zbP ys os f l st).Out (Bk.HoE ys os f l st):=by
  unfold zbP
  by_cases h0:Bk.chkB ys os f l=0
  · have h := Bk.chk_ok h0
    have hf0:=h.f0
    have hfl:=h.fl
    have hl3:=h.l3
    have hln:=h.ln
    obtain ⟨m,g1,hm⟩:=opened_ok hy ho h0
    refine M.o_bindE g1 (M.o_f rfl (M.o_grd (gA2 (by omega) (by omega)) (M.o_grd (gA2 (by omega) (by omega)) (M.o_if (fun hl=>?_) (fun hl=>?_)))))
    · exact M.o_pure (.inr (.inl ⟨h0,bne_iff_ne.1 hl,rfl⟩))
    · have hl:(st.length:Int)=l-f+1:=by simpa using hl
      refine M.o_bindE (every_int (p:=fun n=>decide (0<=n)&&decide (n<=2000)) hs (fun x _=>by unfold zcH; exact M.i_bind (in_ends _ _ _) M.i_pure)) (M.o_if (fun hb=>?_) (fun hb=>?_))
      · rw [Bool.not_eq_true'] at hb
        refine M.o_pure (.inr (.inr (.inl ⟨h0,hl,fun hA=>?_,rfl⟩)))
        have:=dur_all.2 (show DuR st from hA)
        rw [hb] at this
        cases this
      · rw [Bool.not_eq_false'] at hb
        have hA:Bk.All2 st:=dur_all.1 hb
        unfold zaf
        refine M.o_bindE M.i_pure (M.o_bind (P:=fun x=>match x with | .inl (_:Unit)=>Bk.Can ys os f st | .inr (_:Unit)=>¬ Bk.Can ys os f st) ?_ ?_)
        · refine years_out hl3 hf0 (by omega) (Int.le_refl _) (Int.le_refl _) hm (fun y _=>∀ i:Nat,f+i<y->(Bk.kn ys os (f+i)).lo<=st.getD i 0/\st.getD i 0<=(Bk.kn ys os (f+i)).hi) (fun i h1=>by omega) ?_ ?_ _ _ _ _
          · intro y s h1 h2 hj
            obtain ⟨i,rfl⟩:∃ i:Nat,y=f+i:=⟨Int.toNat (y-f),by omega⟩
            simp only [zax]
            rw [show Int.toNat (f+i-f)=i by omega]
            refine M.o_grd (gA2 (by omega) (by omega)) (M.o_grd (gA2 (by omega) (by omega)) (M.o_bindE (in_ends _ _ _) (M.o_if (fun hb=>?_) (fun hb=>?_))))
            · rw [Bool.not_eq_true',Bool.and_eq_false_iff,decide_eq_false_iff_not,decide_eq_false_iff_not] at hb
              refine M.o_pure fun hC=>?_
              have:=hC i (by omega)
              omega
            · rw [Bool.not_eq_false',Bool.and_eq_true,decide_eq_true_eq,decide_eq_true_eq] at hb
              refine M.o_pure fun j h3=>?_
              by_cases e:j=i
              · subst e; exact hb
              · exact hj j (by omega)
          · intro s hj i hi
            exact hj i (by omega)
        · intro z hz
          cases z with
          | inl u=>exact M.o_pure (.inr (.inr (.inr (.inr ⟨h0,hl,hA,hz,rfl⟩))))
          | inr u=>exact M.o_pure (.inr (.inr (.inr (.inl ⟨h0,hl,hA,hz,rfl⟩))))
  · exact M.o_bindE (opened_bad hy ho h0) (M.o_t (bne_iff_ne.2 h0) (M.o_pure (.inl ⟨h0,rfl⟩)))
end Go.Proofs.YtejefipopolccaaGreat
-- libO/BD.lean
namespace Go.Proofs.YtejefipopolccaaGreat
open Go Go.Nm
variable {ys:List Yr} {os:List Old10} {f l:Int}
/-- A book that is not too long to be looked at. -/
structure Short (ys:List Yr) (os:List Old10):Prop where
  y:ys.length<=65
  o:os.length<=10
  p:∀ o∈os,o.passed.length<=12
theorem long_out (ys:List Yr) (os:List Old10) (f l:Int):(zbY ys os f l).Out (fun r=>r=false->Short ys os):=by
  unfold zbY
  refine M.o_if (fun hb=>M.o_pure (fun h=>by cases h)) (fun hb=>?_)
  rw [Bool.or_eq_false_iff,Bool.or_eq_false_iff,decide_eq_false_iff_not,decide_eq_false_iff_not] at hb
  obtain ⟨⟨b1,b2⟩,_⟩:=hb
  refine M.o_bind (P:=fun z=>match z with | .inl (_:Unit)=>True | .inr (_:Unit)=>Short ys os) ?_ ?_
  · refine M.o_scan os.length (fun k=>(os.getD k default).passed.length<=12) ?_ ?_
    · intro s hi hp
      simp only [zcd]
      refine M.o_t (decide_eq_true (by omega)) (M.o_grdD (by omega) (M.o_if (fun hb=>?_) (fun hb=>?_)))
      · exact M.o_pure trivial
      · have:=of_decide_eq_false hb
        exact M.o_pure ⟨rfl,by omega⟩
    · intro hp
      simp only [zcd]
      refine M.o_f (by simp) (M.o_pure ⟨by omega,by omega,fun o ho=>?_⟩)
      obtain ⟨i,hi,rfl⟩:=List.getElem_of_mem ho
      have:=hp i hi
      rwa [List.getD_eq_getElem?_getD,List.getElem?_eq_getElem hi,Option.getD_some] at this
  · intro z hz
    cases z with
    | inl u=>exact M.o_pure (fun h=>by cases h)
    | inr u=>exact M.o_pure (fun _=>hz)
theorem copy_yr (h:ys.length<=1000000):(zdi ys).Ends ys:=M.i_grd (decide_eq_true (by simp only [List.length_nil]; omega)) M.i_pure
theorem copyB_ends (h:Short ys os):(zbB ys os f l).Ends (ys,os,f,l):=by
  have hy:=h.y
  have ho:=h.o
  unfold zbB
  refine M.i_bind (copy_yr (by omega)) (M.i_bind (a:=(os,os)) ?_ M.i_pure)
  refine M.Out.ends ?_
  refine M.o_for os.length (fun i (s:Nat × List Old10)=>s.1=i/\s.2=os.take i) ?_ ?_ ⟨rfl,rfl⟩
  · rintro i ⟨s,q⟩ hi ⟨e1,e2⟩
    dsimp only at e1 e2
    subst e1
    subst e2
    simp only [zaB]
    have e:os.getD s default=os[s]:=by rw [List.getD_eq_getElem?_getD,List.getElem?_eq_getElem hi,Option.getD_some]
    have hp:=h.p os[s] (List.getElem_mem hi)
    rw [← e] at hp
    exact M.o_t (decide_eq_true (by omega)) (M.o_grdD (by omega) (M.o_bindE (copy_int (by omega)) (M.o_grdD (by simp [List.length_take]; omega) (M.o_pure ⟨rfl,take_succ_D os s hi default⟩))))
  · rintro ⟨s,q⟩ ⟨e1,e2⟩
    dsimp only at e1 e2
    subst e1
    simp only [zaB]
    exact M.o_f (by simp) (M.o_pure (by rw [e2,List.take_length]))
theorem bookB_ends (h:Short ys os):(zbM ys os f l).Ends (ys,os,f,l):=by
  have hy:=h.y
  have ho:=h.o
  unfold zbM
  refine M.i_bind (a:=(ys,ys)) ?_ (M.i_bind (a:=(os,os)) ?_ M.i_pure)
  · refine M.Out.ends ?_
    refine M.o_for ys.length (fun i (s:Nat × List Yr)=>s.1=i/\s.2=ys.take i) ?_ ?_ ⟨rfl,rfl⟩
    · rintro i ⟨s,q⟩ hi ⟨e1,e2⟩
      dsimp only at e1 e2
      subst e1
      subst e2
      simp only [zbF]
      exact M.o_t (decide_eq_true (by omega)) (M.o_grdD (by omega) (M.o_grdD (by simp [List.length_take]; omega) (M.o_pure ⟨rfl,take_succ_D ys s hi default⟩)))
    · rintro ⟨s,q⟩ ⟨e1,e2⟩
      dsimp only at e1 e2
      subst e1
      simp only [zbF]
      exact M.o_f (by simp) (M.o_pure (by rw [e2,List.take_length]))
  · refine M.Out.ends ?_
    refine M.o_for os.length (fun i (s:Nat × List Old10)=>s.1=i/\s.2=os.take i) ?_ ?_ ⟨rfl,rfl⟩
    · rintro i ⟨s,q⟩ hi ⟨e1,e2⟩
      dsimp only at e1 e2
      subst e1
      subst e2
      simp only [zcg]
      exact M.o_t (decide_eq_true (by omega)) (M.o_grdD (by omega) (M.o_grdD (by simp [List.length_take]; omega) (M.o_pure ⟨rfl,take_succ_D os s hi default⟩)))
    · rintro ⟨s,q⟩ ⟨e1,e2⟩
      dsimp only at e1 e2
      subst e1
      simp only [zcg]
      exact M.o_f (by simp) (M.o_pure (by rw [e2,List.take_length]))
theorem same_yr (l:List Yr):(zcM l l).Ends true:=by
  unfold zcM
  refine M.i_f (by simp) (M.i_bind (a:=(.inr ():Unit ⊕ Unit)) ?_ M.i_pure)
  refine M.i_for (fun i=>i) l.length (fun i hi=>?_) ?_
  · simp only [zcm]
    exact M.i_t (decide_eq_true (by omega)) (M.i_grd (decide_eq_true (by omega)) (M.i_grd (decide_eq_true (by omega)) (M.i_f (by simp) M.i_pure)))
  · simp only [zcm]
    exact M.i_f (by simp) M.i_pure
theorem sameB_ends (ys:List Yr) (os:List Old10) (f l:Int):(za5 ys os f l ys os f l).Ends true:=by
  unfold za5
  refine M.i_bind (M.i_opt (fun _=>same_yr ys) (fun h=>by simp at h)) (M.i_f (by simp) (M.i_bind (a:=(.inr ():Unit ⊕ Unit)) ?_ M.i_pure))
  refine M.i_for (fun i=>i) os.length (fun i hi=>?_) ?_
  · simp only [zb7]
    exact M.i_t (decide_eq_true (by omega)) (M.i_grd (decide_eq_true (by omega)) (M.i_grd (decide_eq_true (by omega)) (M.i_bind (M.i_opt (fun _=>same_int _) (fun h=>by simp at h)) (M.i_f (by simp) M.i_pure))))
  · simp only [zb7]
    exact M.i_f (by simp) M.i_pure
theorem zbe (ys:List Yr) (os:List Old10) (f l:Int) (st:List Int) (y:Int):(zan ys os f l st y).Ends true:=by
  refine M.Out.ends ?_
  unfold zan
  refine M.o_bind (long_out ys os f l) ?_
  intro r hr
  refine M.o_if (fun hb=>M.o_bindE awake_ends (M.o_pure rfl)) (fun hb=>?_)
  rw [Bool.or_eq_false_iff,decide_eq_false_iff_not] at hb
  have hs:=hr hb.1
  have h45:=hb.2
  have hy:=hs.y
  have ho:=hs.o
  refine M.o_bindE (copyB_ends hs) (M.o_bindE (copy_int (by omega)) (M.o_bindE (bookB_ends hs) (M.o_bindE (check_ends ys os f l (by omega) (by omega)) (M.o_bindE (ref_check ys os f l (by omega) (by omega)) (M.o_f (by simp) ?_)))))
  obtain ⟨a1,g1,e1⟩:=of_holds (ys:=ys) (os:=os) (f:=f) (l:=l) (by omega) (by omega) st (by omega)
  obtain ⟨a2,g2,e2⟩:=ref_holds (ys:=ys) (os:=os) (f:=f) (l:=l) (by omega) (by omega) st
  obtain rfl:=e1.uniq e2
  refine M.o_bindE g1 (M.o_bindE g2 (M.o_f (by simp) ?_))
  obtain ⟨a3,g3,e3⟩:=of_clash (ys:=ys) (os:=os) (f:=f) (l:=l) (by omega) (by omega)
  obtain ⟨a4,g4,e4⟩:=ref_clash (ys:=ys) (os:=os) (f:=f) (l:=l) (by omega) (by omega)
  obtain rfl:=e3.uniq e4
  refine M.o_bindE g3 (M.o_bindE g4 (M.o_f (by simp) ?_))
  obtain ⟨a5,g5,e5⟩:=of_highest (ys:=ys) (os:=os) (f:=f) (l:=l) (by omega) (by omega) y
  obtain ⟨a6,g6,e6⟩:=ref_highest (ys:=ys) (os:=os) (f:=f) (l:=l) (by omega) (by omega) y
  obtain rfl:=e5.uniq e6
  refine M.o_bindE g5 (M.o_bindE g6 ?_)
  obtain ⟨b1,b2,b3⟩:=a5
  have e0:((b3==b3)&&(decide ((⟨(b1:Int),(b2:Int)⟩:Span)=(⟨(b1:Int),(b2:Int)⟩:Span))))=true:=by simp
  dsimp only
  rw [e0]
  exact M.o_bindE (M.i_opt (fun _=>sameB_ends ys os f l) (fun h=>by cases h)) (M.o_bindE (M.i_opt (fun _=>same_int st) (fun h=>by cases h)) (M.o_bindE (M.i_opt (fun _=>awake_ends) (fun h=>by cases h)) (M.o_pure rfl)))
end Go.Proofs.YtejefipopolccaaGreat
-- libO/BE.lean
namespace Go.Nm
namespace Bk
/-- What the years from one on can have. -/
def kl (ys:List Yr) (os:List Old10) (a:Int) (n:Nat):List Span:=(List.range n).map fun (i:Nat)=>kn ys os (a+(i:Int))
theorem kl_succ (ys:List Yr) (os:List Old10) (a:Int) (n:Nat):kl ys os a (n+1)=kl ys os a n++[kn ys os (a+(n:Int))]:=by
  unfold kl
  rw [List.range_succ,List.map_append]
  rfl
theorem kl_len (ys:List Yr) (os:List Old10) (a:Int) (n:Nat):(kl ys os a n).length=n:=by unfold kl; rw [List.length_map,List.length_range]
theorem kl_at (ys:List Yr) (os:List Old10) (a:Int) {n i:Nat} (h:i<n):(kl ys os a n)[i]?=some (kn ys os (a+(i:Int))):=by
  unfold kl
  rw [List.getElem?_map,List.getElem?_range h]
  rfl
theorem kl_mem {ys:List Yr} {os:List Old10} {a:Int} {n:Nat} {s:Span} (h:s∈kl ys os a n):∃ i:Nat,i<n/\s=kn ys os (a+(i:Int)):=by
  unfold kl at h
  obtain ⟨i,hi,rfl⟩:=List.mem_map.1 h
  exact ⟨i,List.mem_range.1 hi,rfl⟩
def In (f l fr to:Int):Prop:=f<=fr/\fr<=to/\to<=l
/-- The first error of a book, two years, a number, and that no truth can be. -/
def WrE (ys:List Yr) (os:List Old10) (f l fr to n a b e:Int):Prop:=(chkB ys os f l ≠ 0/\e=chkB ys os f l)∨(chkB ys os f l=0/\¬ In f l fr to/\e=2)∨(chkB ys os f l=0/\In f l fr to/\¬ (a<=n/\n<=b)/\e=4) ∨
  (chkB ys os f l=0/\In f l fr to/\(a<=n/\n<=b)/\¬ Fine ys os f l/\e=6)∨(chkB ys os f l=0/\In f l fr to/\(a<=n/\n<=b)/\Fine ys os f l/\e=0)
theorem WrE.uniq {ys:List Yr} {os:List Old10} {f l fr to n a b e e':Int} (h:WrE ys os f l fr to n a b e) (k:WrE ys os f l fr to n a b e'):e=e':=by
  rcases h with ⟨h1,rfl⟩ | ⟨h1,h2,rfl⟩ | ⟨h1,h2,h3,rfl⟩ | ⟨h1,h2,h3,h4,rfl⟩ | ⟨h1,h2,h3,h4,rfl⟩ <;> rcases k with ⟨k1,rfl⟩ | ⟨k1,k2,rfl⟩ | ⟨k1,k2,k3,rfl⟩ | ⟨k1,k2,k3,k4,rfl⟩ | ⟨k1,k2,k3,k4,rfl⟩ <;> first | rfl | contradiction
theorem WrE.ok {ys:List Yr} {os:List Old10} {f l fr to n a b:Int} (h:WrE ys os f l fr to n a b 0):chkB ys os f l=0/\In f l fr to/\(a<=n/\n<=b)/\Fine ys os f l:=by
  rcases h with ⟨h1,h2⟩ | ⟨h1,h2,h3⟩ | ⟨h1,h2,h3,h4⟩ | ⟨h1,h2,h3,h4,h5⟩ | ⟨h1,h2,h3,h4,h5⟩
  · exact absurd h2.symm h1
  · cases h3
  · cases h4
  · cases h5
  · exact ⟨h1,h2,h3,h4⟩
theorem WrE.last {ys:List Yr} {os:List Old10} {f l fr to n a b b' e:Int} (h:WrE ys os f l fr to n a b e) (hb:chkB ys os f l=0->In f l fr to->b=b'):WrE ys os f l fr to n a b' e:=by
  rcases h with ⟨h1,h2⟩ | ⟨h1,h2,h3⟩ | ⟨h1,h2,h3,h4⟩ | ⟨h1,h2,h3,h4,h5⟩ | ⟨h1,h2,h3,h4,h5⟩
  · exact .inl ⟨h1,h2⟩
  · exact .inr (.inl ⟨h1,h2,h3⟩)
  · exact .inr (.inr (.inl ⟨h1,h2,by rw [← hb h1 h2]; exact h3,h4⟩))
  · exact .inr (.inr (.inr (.inl ⟨h1,h2,by rw [← hb h1 h2]; exact h3,h4,h5⟩)))
  · exact .inr (.inr (.inr (.inr ⟨h1,h2,by rw [← hb h1 h2]; exact h3,h4,h5⟩)))
def many (p:Span->Bool) (ys:List Yr) (os:List Old10) (fr to:Int):Int:=((kl ys os fr (Int.toNat (to+1-fr))).countP p:Nat)
def lop (x:Int) (s:Span):Bool:=decide (x<=s.lo)
def hip (x:Int) (s:Span):Bool:=decide (x<=s.hi)
def PaE (ys:List Yr) (os:List Old10) (f l fr to st:Int) (r:Int × Int × Int):Prop:=(r.2.2 ≠ 0/\WrE ys os f l fr to st 0 2000 r.2.2/\r.1=0/\r.2.1=0)∨(r.2.2=0/\WrE ys os f l fr to st 0 2000 0/\r.1=many (lop st) ys os fr to/\r.2.1=many (hip st) ys os fr to)
theorem PaE.wr {ys:List Yr} {os:List Old10} {f l fr to st:Int} {r:Int × Int × Int} (h:PaE ys os f l fr to st r):WrE ys os f l fr to st 0 2000 r.2.2:=by
  rcases h with ⟨h1,h2,h3⟩ | ⟨h1,h2,h3⟩
  · exact h2
  · rw [h1]; exact h2
theorem PaE.uniq {ys:List Yr} {os:List Old10} {f l fr to st:Int} {r s:Int × Int × Int} (h:PaE ys os f l fr to st r) (k:PaE ys os f l fr to st s):r=s:=by
  have e:=h.wr.uniq k.wr
  obtain ⟨r1,r2,r3⟩:=r
  obtain ⟨s1,s2,s3⟩:=s
  dsimp only at e
  subst e
  rcases h with ⟨h1,h2,h3,h4⟩ | ⟨h1,h2,h3,h4⟩ <;> rcases k with ⟨k1,k2,k3,k4⟩ | ⟨k1,k2,k3,k4⟩ <;> dsimp only at h1 h3 h4 k1 k3 k4
  · rw [h3,h4,k3,k4]
  · exact absurd k1 h1
  · exact absurd h1 k1
  · rw [h3,h4,k3,k4]
def ofs (most:Bool) (s:Span):Int:=if most=true then s.hi else s.lo
def ToE (ys:List Yr) (os:List Old10) (f l fr to st:Int) (most:Bool) (r:List Int × Int):Prop:=(r.2 ≠ 0/\WrE ys os f l fr to st 0 2000 r.2/\r.1=[])∨(r.2=0/\WrE ys os f l fr to st 0 2000 0/\r.1=(kl ys os f (Int.toNat (l+1-f))).map (ofs most))
/-- The highest number that so many have. -/
def Top (L:List Int) (t v:Int):Prop:=0<=v/\v<=2000/\t<=(L.countP (fun x=>decide (v<=x)):Nat)/\((L.countP (fun x=>decide (v+1<=x)):Nat):Int)<t
theorem cnt_mono {L:List Int} {v w:Int} (h:v<=w):L.countP (fun x=>decide (w<=x))<=L.countP (fun x=>decide (v<=x)):=by
  refine List.countP_mono_left fun x _ hx=>?_
  have:=of_decide_eq_true hx
  exact decide_eq_true (by omega)
theorem Top.uniq {L:List Int} {t v w:Int} (h:Top L t v) (k:Top L t w):v=w:=by
  obtain ⟨h1,h2,h3,h4⟩:=h
  obtain ⟨k1,k2,k3,k4⟩:=k
  rcases Int.lt_trichotomy v w with e | e | e
  · have:=cnt_mono (L:=L) (v:=v+1) (w:=w) (by omega)
    omega
  · exact e
  · have:=cnt_mono (L:=L) (v:=w+1) (w:=v) (by omega)
    omega
theorem top_sort {L:List Int} (hL:∀ x∈L,0<=x/\x<=2000) {t:Nat} (h1:1<=t) (h2:t<=L.length):Top L t ((isort L).getD (L.length-t) 0):=by
  have hp:=isort_perm L
  have hlen:(isort L).length=L.length:=hp.length_eq
  have ha:=isort_asc L
  have hm:∀ x∈isort L,0<=x/\x<=2000:=fun x hx=>hL x (hp.mem_iff.1 hx)
  unfold Top
  rw [← hp.countP_eq,← hp.countP_eq]
  generalize isort L=s at *
  have hk:L.length-t<s.length:=by omega
  have e:s.getD (L.length-t) 0=s[L.length-t]:=by rw [List.getD_eq_getElem?_getD,List.getElem?_eq_getElem hk,Option.getD_some]
  rw [e]
  have hv:=hm s[L.length-t] (List.getElem_mem hk)
  refine ⟨hv.1,hv.2,?_,?_⟩
  · have e1:s.countP (fun x=>decide (s[L.length-t]<=x))=(s.take (L.length-t)).countP (fun x=>decide (s[L.length-t]<=x))+(s.drop (L.length-t)).countP (fun x=>decide (s[L.length-t]<=x)):=by
      rw [← List.countP_append,List.take_append_drop]
    have e2:(s.drop (L.length-t)).countP (fun x=>decide (s[L.length-t]<=x))=(s.drop (L.length-t)).length:=by
      rw [List.countP_eq_length]
      intro x hx
      obtain ⟨i,hi,rfl⟩:=List.getElem_of_mem hx
      rw [List.length_drop] at hi
      rw [List.getElem_drop]
      refine decide_eq_true ?_
      by_cases h0:i=0
      · subst h0; exact Int.le_refl _
      · exact List.pairwise_iff_getElem.1 ha (L.length-t) (L.length-t+i) hk (by omega) (by omega)
    rw [List.length_drop] at e2
    omega
  · have e1:s.countP (fun x=>decide (s[L.length-t]+1<=x))=(s.take (L.length-t+1)).countP (fun x=>decide (s[L.length-t]+1<=x))+(s.drop (L.length-t+1)).countP (fun x=>decide (s[L.length-t]+1<=x)):=by
      rw [← List.countP_append,List.take_append_drop]
    have e2:(s.take (L.length-t+1)).countP (fun x=>decide (s[L.length-t]+1<=x))=0:=by
      rw [List.countP_eq_zero]
      intro x hx
      obtain ⟨i,hi,rfl⟩:=List.getElem_of_mem hx
      rw [List.length_take] at hi
      rw [List.getElem_take,decide_eq_true_eq]
      by_cases h0:i=L.length-t
      · subst h0; omega
      · have:=List.pairwise_iff_getElem.1 ha i (L.length-t) (by omega) hk (by omega)
        omega
    have e3:=List.countP_le_length (p:=fun x=>decide (s[L.length-t]+1<=x)) (l:=s.drop (L.length-t+1))
    rw [List.length_drop] at e3
    omega
def ReE (ys:List Yr) (os:List Old10) (f l fr to t:Int) (r:Int × Int × Int):Prop:=(r.2.2 ≠ 0/\WrE ys os f l fr to t 1 (to-fr+1) r.2.2/\r.1=0/\r.2.1=0) ∨
  (r.2.2=0/\WrE ys os f l fr to t 1 (to-fr+1) 0/\Top ((kl ys os fr (Int.toNat (to+1-fr))).map Span.lo) t r.1/\Top ((kl ys os fr (Int.toNat (to+1-fr))).map Span.hi) t r.2.1)
theorem ReE.wr {ys:List Yr} {os:List Old10} {f l fr to t:Int} {r:Int × Int × Int} (h:ReE ys os f l fr to t r):WrE ys os f l fr to t 1 (to-fr+1) r.2.2:=by
  rcases h with ⟨h1,h2,h3⟩ | ⟨h1,h2,h3⟩
  · exact h2
  · rw [h1]; exact h2
theorem ReE.uniq {ys:List Yr} {os:List Old10} {f l fr to t:Int} {r s:Int × Int × Int} (h:ReE ys os f l fr to t r) (k:ReE ys os f l fr to t s):r=s:=by
  have e:=h.wr.uniq k.wr
  obtain ⟨r1,r2,r3⟩:=r
  obtain ⟨s1,s2,s3⟩:=s
  dsimp only at e
  subst e
  rcases h with ⟨h1,h2,h3,h4⟩ | ⟨h1,h2,h3,h4⟩ <;> rcases k with ⟨k1,k2,k3,k4⟩ | ⟨k1,k2,k3,k4⟩ <;> dsimp only at h1 h3 h4 k1 k3 k4
  · rw [h3,h4,k3,k4]
  · exact absurd k1 h1
  · exact absurd h1 k1
  · rw [h3.uniq k3,h4.uniq k4]
end Bk
end Go.Nm
namespace Go.Proofs.YtejefipopolccaaGreat
open Go Go.Nm
variable {ys:List Yr} {os:List Old10} {f l:Int}
theorem between_out (hy:ys.length<=1000000) (ho:os.length<=1000000) (fr to n a b:Int):(zaR ys os f l fr to n a b).Out (fun r=>match r with | .inl e=>e ≠ 0/\Bk.WrE ys os f l fr to n a b e | .inr (f',l',m,z)=>f'=f/\l'=l/\z=0/\Bk.WrE ys os f l fr to n a b 0/\Knows ys os f l m):=by
  unfold zaR
  by_cases h0:Bk.chkB ys os f l=0
  · have h:=Bk.chk_ok h0
    obtain ⟨m,g1,hm⟩:=opened_ok hy ho h0
    refine M.o_bindE g1 (M.o_f rfl (M.o_bindE (in_ends _ _ _) (M.o_bindE (a:=(decide (f<=fr)&&decide (fr<=to))&&(decide (f<=to)&&decide (to<=l))) (M.i_opt (fun h=>by rw [Bool.not_not] at h; rw [h]; exact in_ends _ _ _) (fun h=>by rw [Bool.not_not] at h; rw [h]; rfl)) (M.o_if (fun hb=>?_) (fun hb=>?_)))))
    · have hI:¬ Bk.In f l fr to:=by
        rintro ⟨i1,i2,i3⟩
        rw [decide_eq_true i1,decide_eq_true i2,decide_eq_true i3,decide_eq_true (show f<=to by omega)] at hb
        cases hb
      exact M.o_pure ⟨by decide,.inr (.inl ⟨h0,hI,rfl⟩)⟩
    · have hI:Bk.In f l fr to:=by
        rw [Bool.or_eq_false_iff,Bool.not_eq_false',Bool.not_eq_false'] at hb
        have:=hb.2
        rw [Bool.and_eq_true,Bool.and_eq_true,Bool.and_eq_true,decide_eq_true_eq,decide_eq_true_eq,decide_eq_true_eq,decide_eq_true_eq] at this
        exact ⟨this.1.1,this.1.2,this.2.2⟩
      refine M.o_bindE (in_ends _ _ _) (M.o_if (fun hb=>?_) (fun hb=>?_))
      · rw [Bool.not_eq_true',Bool.and_eq_false_iff,decide_eq_false_iff_not,decide_eq_false_iff_not] at hb
        exact M.o_pure ⟨by decide,.inr (.inr (.inl ⟨h0,hI,by omega,rfl⟩))⟩
      · rw [Bool.not_eq_false',Bool.and_eq_true,decide_eq_true_eq,decide_eq_true_eq] at hb
        refine M.o_bind (clash_out h hm) ?_
        rintro ⟨y',c⟩ (⟨e,hF⟩ | ⟨e,hF⟩)
        · rw [Prod.mk.injEq] at e
          obtain ⟨rfl,rfl⟩:=e
          exact M.o_f rfl (M.o_pure ⟨rfl,rfl,rfl,.inr (.inr (.inr (.inr ⟨h0,hI,hb,hF,rfl⟩))),hm⟩)
        · dsimp only at e hF
          subst e
          exact M.o_t rfl (M.o_pure ⟨by decide,.inr (.inr (.inr (.inl ⟨h0,hI,hb,fun hh=>hF.bad hh,rfl⟩)))⟩)
  · exact M.o_bindE (opened_bad hy ho h0) (M.o_t (bne_iff_ne.2 h0) (M.o_pure ⟨h0,.inl ⟨h0,rfl⟩⟩))
theorem chk_ne5:Bk.chkB ys os f l ≠ 5:=by
  intro h5
  unfold Bk.chkB at h5
  split at h5
  · cases h5
  · split at h5
    · cases h5
    · split at h5
      · have : ∀ n, Pk.fe (Bk.errY f l ys) n = 0 ∨ Pk.fe (Bk.errY f l ys) n = 9 ∨ Pk.fe (Bk.errY f l ys) n = 110 := by
          intro n
          induction n with
          | zero=>exact .inl rfl
          | succ n ih =>
            unfold Pk.fe
            split
            · exact ih
            · unfold Bk.errY
              split
              · exact .inr (.inr rfl)
              · split
                · exact .inr (.inl rfl)
                · exact .inl rfl
        have:=this ys.length
        omega
      · split at h5 <;> cases h5
theorem ref_wrong (hy:ys.length<=1000000) (ho:os.length<=1000000) (fr to n a b:Int):(zce ys os f l fr to n a b).Out (Bk.WrE ys os f l fr to n a b):=by
  unfold zce
  refine M.o_bind (ref_clash hy ho) ?_
  rintro ⟨u,v⟩ hc
  have hin:((decide (fr<f)||decide (l<to))||decide (to<fr))=false↔Bk.In f l fr to:=by
    unfold Bk.In
    simp only [Bool.or_eq_false_iff,decide_eq_false_iff_not]
    omega
  rcases hc with ⟨h0,e⟩ | ⟨h0,h1,e⟩ | ⟨h0,h1,e⟩
  · rw [Prod.mk.injEq] at e
    obtain ⟨rfl,rfl⟩:=e
    exact M.o_t (by rw [bne_iff_ne.2 h0,bne_iff_ne.2 chk_ne5]; rfl) (M.o_pure (.inl ⟨h0,rfl⟩))
  · rw [Prod.mk.injEq] at e
    obtain ⟨rfl,rfl⟩:=e
    refine M.o_f rfl (M.o_if (fun hb=>?_) (fun hb=>?_))
    · exact M.o_pure (.inr (.inl ⟨h0,fun hI=>(by rw [hin.2 hI] at hb; cases hb),rfl⟩))
    · have hI:=hin.1 hb
      refine M.o_bindE (out_ends _ _ _) (M.o_if (fun hb=>?_) (fun hb=>?_))
      · rw [Bool.not_eq_true',Bool.and_eq_false_iff,decide_eq_false_iff_not,decide_eq_false_iff_not] at hb
        exact M.o_pure (.inr (.inr (.inl ⟨h0,hI,by omega,rfl⟩)))
      · rw [Bool.not_eq_false',Bool.and_eq_true,decide_eq_true_eq,decide_eq_true_eq] at hb
        exact M.o_f rfl (M.o_pure (.inr (.inr (.inr (.inr ⟨h0,hI,hb,h1,rfl⟩)))))
  · dsimp only at h1 e
    subst e
    refine M.o_f rfl (M.o_if (fun hb=>?_) (fun hb=>?_))
    · exact M.o_pure (.inr (.inl ⟨h0,fun hI=>(by rw [hin.2 hI] at hb; cases hb),rfl⟩))
    · have hI:=hin.1 hb
      refine M.o_bindE (out_ends _ _ _) (M.o_if (fun hb=>?_) (fun hb=>?_))
      · rw [Bool.not_eq_true',Bool.and_eq_false_iff,decide_eq_false_iff_not,decide_eq_false_iff_not] at hb
        exact M.o_pure (.inr (.inr (.inl ⟨h0,hI,by omega,rfl⟩)))
      · rw [Bool.not_eq_false',Bool.and_eq_true,decide_eq_true_eq,decide_eq_true_eq] at hb
        exact M.o_t rfl (M.o_pure (.inr (.inr (.inr (.inl ⟨h0,hI,hb,fun hF=>h1.bad hF,rfl⟩)))))
theorem cnt_succ (p:Span->Bool) (a:Int) (n:Nat):((Bk.kl ys os a (n+1)).countP p:Int)=((Bk.kl ys os a n).countP p:Int)+(if p (Bk.kn ys os (a+(n:Int)))=true then 1 else 0):=by
  rw [Bk.kl_succ,List.countP_append]
  simp only [List.countP_cons,List.countP_nil]
  split <;> simp
theorem cnt_le (p:Span->Bool) (a:Int) (n:Nat):(Bk.kl ys os a n).countP p<=n:=by
  have:=List.countP_le_length (p:=p) (l:=Bk.kl ys os a n)
  rwa [Bk.kl_len] at this
theorem of_passed (hy:ys.length<=1000000) (ho:os.length<=1000000) (fr to st:Int):(zak ys os f l fr to st).Out (Bk.PaE ys os f l fr to st):=by
  unfold zak
  refine M.o_bind (between_out hy ho fr to st 0 2000) ?_
  rintro (e | ⟨f',l',m,z⟩) h
  · exact M.o_t (bne_iff_ne.2 h.1) (M.o_pure (.inl ⟨h.1,h.2,rfl,rfl⟩))
  · obtain ⟨rfl,rfl,rfl,hw,hm⟩:=h
    obtain ⟨h0,⟨i1,i2,i3⟩,hn,hF⟩:=hw.ok
    have h:=Bk.chk_ok h0
    have hf0:=h.f0
    have hl3:=h.l3
    have hln:=h.ln
    unfold zaf
    refine M.o_f rfl (M.o_bindE M.i_pure (M.o_bind (P:=fun x=>match x with | .inl s=>s=(Bk.many (Bk.lop st) ys os fr to,Bk.many (Bk.hip st) ys os fr to) | .inr (_:Unit)=>False) ?_ ?_))
    · refine years_out (s0:=((0:Int),(0:Int))) hl3 (by omega) (by omega) i3 i1 hm (fun y s=>∃ n:Nat,y=fr+n/\s=(((Bk.kl ys os fr n).countP (Bk.lop st):Int),((Bk.kl ys os fr n).countP (Bk.hip st):Int))) ⟨0,by omega,rfl⟩ ?_ ?_ _ _ _ _
      · rintro y ⟨s,s2⟩ h1 h2 ⟨n,rfl,e⟩
        obtain ⟨rfl,rfl⟩:=Prod.mk.inj e
        have c1:=cnt_le (ys:=ys) (os:=os) (Bk.lop st) fr n
        have c2:=cnt_le (ys:=ys) (os:=os) (Bk.hip st) fr n
        have d1:=cnt_succ (ys:=ys) (os:=os) (Bk.lop st) fr n
        have d2:=cnt_succ (ys:=ys) (os:=os) (Bk.hip st) fr n
        simp only [zaH]
        refine M.o_bindE M.i_pure (M.o_bindE M.i_pure (M.o_bindE M.i_pure (M.o_if (fun hb=>?_) (fun hb=>?_))))
        · have hb':Bk.lop st (Bk.kn ys os (fr+(n:Int)))=true:=hb
          rw [if_pos hb'] at d1
          refine M.o_grd (gA2 (by omega) (by omega)) (M.o_bindE M.i_pure (M.o_bindE M.i_pure (M.o_bindE M.i_pure (M.o_if (fun hc=>?_) (fun hc=>?_)))))
          · have hc':Bk.hip st (Bk.kn ys os (fr+(n:Int)))=true:=hc
            rw [if_pos hc'] at d2
            exact M.o_grd (gA2 (by omega) (by omega)) (M.o_pure ⟨n+1,by omega,by rw [d1,d2]⟩)
          · have hc':Bk.hip st (Bk.kn ys os (fr+(n:Int)))=false:=hc
            rw [if_neg (by rw [hc']; simp)] at d2
            exact M.o_pure ⟨n+1,by omega,by rw [d1,d2,Int.add_zero]⟩
        · have hb':Bk.lop st (Bk.kn ys os (fr+(n:Int)))=false:=hb
          rw [if_neg (by rw [hb']; simp)] at d1
          refine M.o_bindE M.i_pure (M.o_bindE M.i_pure (M.o_bindE M.i_pure (M.o_if (fun hc=>?_) (fun hc=>?_))))
          · have hc':Bk.hip st (Bk.kn ys os (fr+(n:Int)))=true:=hc
            rw [if_pos hc'] at d2
            exact M.o_grd (gA2 (by omega) (by omega)) (M.o_pure ⟨n+1,by omega,by rw [d1,d2,Int.add_zero]⟩)
          · have hc':Bk.hip st (Bk.kn ys os (fr+(n:Int)))=false:=hc
            rw [if_neg (by rw [hc']; simp)] at d2
            exact M.o_pure ⟨n+1,by omega,by rw [d1,d2,Int.add_zero,Int.add_zero]⟩
      · rintro s ⟨n,e,rfl⟩
        unfold Bk.many
        rw [show Int.toNat (to+1-fr)=n by omega]
    · intro x hx
      cases x with
      | inl s=>subst hx; exact M.o_pure (.inr ⟨rfl,hw,rfl,rfl⟩)
      | inr u=>exact hx.elim
theorem ref_passed (hy:ys.length<=1000000) (ho:os.length<=1000000) (fr to st:Int):(zbG ys os f l fr to st).Out (Bk.PaE ys os f l fr to st):=by
  unfold zbG
  refine M.o_bind (ref_wrong hy ho fr to st 0 2000) ?_
  intro e hw
  refine M.o_if (fun hb=>?_) (fun hb=>?_)
  · exact M.o_pure (.inl ⟨bne_iff_ne.1 hb,hw,rfl,rfl⟩)
  · obtain rfl:e=0:=by simpa using hb
    obtain ⟨h0,⟨i1,i2,i3⟩,hn,hF⟩:=hw.ok
    have h:=Bk.chk_ok h0
    have hf0:=h.f0
    have hl3:=h.l3
    have hln:=h.ln
    refine M.o_bind (P:=fun s=>s=(Bk.many (Bk.lop st) ys os fr to,Bk.many (Bk.hip st) ys os fr to)) ?_ (fun s e=>by subst e; exact M.o_pure (.inr ⟨rfl,hw,rfl,rfl⟩))
    refine M.o_for (Int.toNat (to+1-fr)) (fun i (s:Int × Int × Int)=>s=(((Bk.kl ys os fr i).countP (Bk.lop st):Int),((Bk.kl ys os fr i).countP (Bk.hip st):Int),fr+i)) ?_ ?_ (by simp [Bk.kl])
    · rintro n ⟨s,s2,y⟩ hi e
      simp only [Prod.mk.injEq] at e
      obtain ⟨rfl,rfl,rfl⟩:=e
      have c1:=cnt_le (ys:=ys) (os:=os) (Bk.lop st) fr n
      have c2:=cnt_le (ys:=ys) (os:=os) (Bk.hip st) fr n
      have d1:=cnt_succ (ys:=ys) (os:=os) (Bk.lop st) fr n
      have d2:=cnt_succ (ys:=ys) (os:=os) (Bk.hip st) fr n
      have hff:=hF (fr+n) (by omega) (by omega)
      simp only [zbV]
      refine M.o_t (decide_eq_true (by omega)) (M.o_bindE (span_ends h.y h.o _) ?_)
      unfold Bk.sp
      rw [if_pos hff]
      have hs:(fr+((n+1:Nat):Int))=fr+n+1:=by omega
      refine M.o_if (fun hb=>?_) (fun hb=>?_)
      · have hb':Bk.lop st (Bk.kn ys os (fr+(n:Int)))=true:=hb
        rw [if_pos hb'] at d1
        refine M.o_grd (gA2 (by omega) (by omega)) (M.o_if (fun hc=>?_) (fun hc=>?_))
        · have hc':Bk.hip st (Bk.kn ys os (fr+(n:Int)))=true:=hc
          rw [if_pos hc'] at d2
          exact M.o_grd (gA2 (by omega) (by omega)) (M.o_grd (gA2 (by omega) (by omega)) (M.o_pure (by dsimp only; rw [d1,d2,hs])))
        · have hc':Bk.hip st (Bk.kn ys os (fr+(n:Int)))=false:=hc
          rw [if_neg (by rw [hc']; simp)] at d2
          exact M.o_grd (gA2 (by omega) (by omega)) (M.o_pure (by dsimp only; rw [d1,d2,hs,Int.add_zero]))
      · have hb':Bk.lop st (Bk.kn ys os (fr+(n:Int)))=false:=hb
        rw [if_neg (by rw [hb']; simp)] at d1
        refine M.o_if (fun hc=>?_) (fun hc=>?_)
        · have hc':Bk.hip st (Bk.kn ys os (fr+(n:Int)))=true:=hc
          rw [if_pos hc'] at d2
          exact M.o_grd (gA2 (by omega) (by omega)) (M.o_grd (gA2 (by omega) (by omega)) (M.o_pure (by dsimp only; rw [d1,d2,hs,Int.add_zero])))
        · have hc':Bk.hip st (Bk.kn ys os (fr+(n:Int)))=false:=hc
          rw [if_neg (by rw [hc']; simp)] at d2
          exact M.o_grd (gA2 (by omega) (by omega)) (M.o_pure (by dsimp only; rw [d1,d2,hs,Int.add_zero,Int.add_zero]))
    · rintro ⟨s,s2,y⟩ e
      simp only [Prod.mk.injEq] at e
      obtain ⟨rfl,rfl,rfl⟩:=e
      simp only [zbV]
      exact M.o_f (decide_eq_false (by omega)) (M.o_pure rfl)
end Go.Proofs.YtejefipopolccaaGreat
-- libO/BF.lean
namespace Go.Proofs.YtejefipopolccaaGreat
open Go Go.Nm
variable {ys:List Yr} {os:List Old10} {f l:Int}
theorem told_list {m:List (Int × Span)} {c d fr to:Int} {bd:List Int->Int × Span->M (List Int ⊕ Unit)} (g:Span->Int) (hb:∀ q x s,q.length<=100000->(bd q (x,s)).Ends (.inl (q++[g s]))) (hd:d<=3000) (ha:0<=fr) (hab:fr<=to+1) (hto:to<=d) (hc:c<=fr) (hm:Knows ys os c d m) (yw:List Yr) (ow:List Old10) (cw dw:Int) :
    (zaj (M.yl bd) (.inl []) fr to yw ow cw dw m).Ends (.inl ((Bk.kl ys os fr (Int.toNat (to+1-fr))).map g)):=by
  refine M.Out.ends ?_
  refine years_out (s0:=([]:List Int)) hd ha hab hto hc hm (fun y s=>∃ n:Nat,y=fr+n/\s=(Bk.kl ys os fr n).map g) ⟨0,by omega,rfl⟩ ?_ ?_ _ _ _ _
  · rintro y s h1 h2 ⟨n,rfl,rfl⟩
    refine M.o_of (hb _ _ _ (by rw [List.length_map,Bk.kl_len]; omega)) ⟨n+1,by omega,?_⟩
    rw [Bk.kl_succ,List.map_append]
    rfl
  · rintro s ⟨n,e,rfl⟩
    rw [show Int.toNat (to+1-fr)=n by omega]
theorem of_told (hy:ys.length<=1000000) (ho:os.length<=1000000) (fr to st:Int) (most:Bool):(zaI ys os f l fr to st most).Out (Bk.ToE ys os f l fr to st most):=by
  unfold zaI
  refine M.o_bind (between_out hy ho fr to st 0 2000) ?_
  rintro (e | ⟨f',l',m,z⟩) h
  · exact M.o_t (bne_iff_ne.2 h.1) (M.o_pure (.inl ⟨h.1,h.2,rfl⟩))
  · obtain ⟨rfl,rfl,rfl,hw,hm⟩:=h
    obtain ⟨h0,⟨i1,i2,i3⟩,hn,hF⟩:=hw.ok
    have h:=Bk.chk_ok h0
    have hf0:=h.f0
    have hl3:=h.l3
    have hln:=h.ln
    unfold zaf
    refine M.o_f rfl (M.o_bindE M.i_pure (M.o_if (fun hb=>?_) (fun hb=>?_)))
    · refine M.o_bindE M.i_pure (M.o_bindE M.i_pure (M.o_bindE (told_list Span.hi (fun q x s hq=>?_) hl3 (by omega) (by omega) (by omega) (by omega) hm _ _ _ _) (M.o_pure (.inr ⟨rfl,hw,?_⟩))))
      · simp only [zaO]
        exact M.i_bind M.i_pure (M.i_grd (decide_eq_true (by simp only [List.length_cons,List.length_nil]; omega)) M.i_pure)
      · refine List.map_congr_left fun s _=>?_
        unfold Bk.ofs
        rw [if_pos hb]
    · refine M.o_bindE M.i_pure (M.o_bindE (told_list Span.lo (fun q x s hq=>?_) hl3 (by omega) (by omega) (by omega) (by omega) hm _ _ _ _) (M.o_pure (.inr ⟨rfl,hw,?_⟩)))
      · simp only [zaJ]
        exact M.i_bind M.i_pure (M.i_grd (decide_eq_true (by simp only [List.length_cons,List.length_nil]; omega)) M.i_pure)
      · refine List.map_congr_left fun s _=>?_
        unfold Bk.ofs
        rw [if_neg (by rw [hb]; simp)]
/-! ### Shares -/
theorem share_ends {n d:Nat} (hn:n<=1000000) (hd:d<=1000000) (h0:0<d):(zcn (n:Int) (d:Int)).Ends (((n / Nat.gcd n d:Nat):Int),((d / Nat.gcd n d:Nat):Int)):=by
  refine M.Out.ends ?_
  unfold zcn
  have hg:0<Nat.gcd n d:=Nat.gcd_pos_of_pos_right _ h0
  refine M.o_bind (P:=fun a=>a=((Nat.gcd n d:Nat):Int)) ?_ ?_
  · refine M.o_iter (fun k (s:Int × Int)=>∃ a b:Nat,s=((a:Int),(b:Int))/\k=b/\Nat.gcd a b=Nat.gcd n d) ?_ d _ ⟨n,d,rfl,rfl,rfl⟩
    rintro k ⟨x,y⟩ ⟨a,b,e,hk,e2⟩
    subst hk
    obtain ⟨rfl,rfl⟩:=Prod.mk.inj e
    simp only [zc0]
    refine M.o_if (fun hb=>?_) (fun hb=>?_)
    · have hb:k ≠ 0:=fun e=>by subst e; simp at hb
      refine M.o_grd (gA2 (by omega) (by omega)) (M.o_pure ⟨a % k,Nat.mod_lt _ (by omega),k,a % k,?_,rfl,?_⟩)
      · rw [Prod.mk.injEq]
        exact ⟨rfl,(Int.natCast_emod a k).symm⟩
      · rw [← e2,Nat.gcd_comm a k,Nat.gcd_rec k a,Nat.gcd_comm]
    · have hb:k=0:=by
        have:(k:Int)=0:=by simpa using hb
        omega
      subst hb
      rw [Nat.gcd_zero_right] at e2
      exact M.o_pure (by rw [e2]; rfl)
  · rintro a rfl
    exact M.o_grd (gA3 (by omega) (by omega) (by omega)) (M.o_grd (gA3 (by omega) (by omega) (by omega)) (M.o_pure (by rw [Int.natCast_ediv,Int.natCast_ediv])))
theorem shared_ends {n:Nat} (hfl:f<=l) (hln:l-f<1000) (hn:n<=100000):(zco ys os f l (⟨((n / Nat.gcd n (Int.toNat (l-f+1)):Nat):Int),((Int.toNat (l-f+1) / Nat.gcd n (Int.toNat (l-f+1)):Nat):Int)⟩:Rto) (n:Int)).Ends true:=by
  refine M.Out.ends ?_
  obtain ⟨d,hd⟩:∃ d:Nat,Int.toNat (l-f+1)=d:=⟨_,rfl⟩
  have hd1:l-f+1=(d:Int):=by omega
  have h0:0<d:=by omega
  have hd2:d<=1000:=by omega
  rw [hd]
  have hg:0<Nat.gcd n d:=Nat.gcd_pos_of_pos_right _ h0
  have hN:n / Nat.gcd n d*Nat.gcd n d=n:=Nat.div_mul_cancel (Nat.gcd_dvd_left n d)
  have hD:d / Nat.gcd n d*Nat.gcd n d=d:=Nat.div_mul_cancel (Nat.gcd_dvd_right n d)
  have hco:Nat.Coprime (n / Nat.gcd n d) (d / Nat.gcd n d):=Nat.coprime_div_gcd_div_gcd hg
  generalize hgg:Nat.gcd n d=g at *
  generalize n / g=N at *
  generalize d / g=D at *
  have hD0:0<D:=by
    rcases Nat.eq_zero_or_pos D with e | e
    · subst e; omega
    · exact e
  have hNn:N<=n:=by rw [← hN]; exact Nat.le_mul_of_pos_right _ hg
  have hDd:D<=d:=by
    have:=Nat.le_mul_of_pos_right D hg
    omega
  have e1:N*d=n*D:=by
    have:N*(D*g)=N*g*D:=by rw [Nat.mul_comm D g,Nat.mul_assoc]
    rw [hN,hD] at this
    exact this
  have e2:N*d<=100000*1000:=Nat.mul_le_mul (by omega) hd2
  have e3:n*D<=100000*1000:=Nat.mul_le_mul hn (by omega)
  have c1:(N:Int)*(d:Int)=((N*d:Nat):Int):=(Int.natCast_mul N d).symm
  have c2:(n:Int)*(D:Int)=((n*D:Nat):Int):=(Int.natCast_mul n D).symm
  unfold zco
  rw [hd1]
  dsimp only
  rw [c1,c2,e1]
  refine M.o_grd (gA2 (by omega) (by omega)) (M.o_grd (gA2 (by omega) (by omega)) (M.o_grd (gI2 fun _=>by omega) (M.o_grd (gI2 fun _=>by omega) (M.o_f ?_ ?_))))
  · rw [decide_eq_false (by omega:¬ ((D:Int)<1))]
    simp
  refine M.o_bind (P:=fun y=>match y with | .inl (_:Unit)=>False | .inr (_:Unit)=>True) ?_ ?_
  · refine M.o_iter (fun m (k:Nat)=>2<=k/\m=D+1-k) ?_ (D+1-2) _ ⟨Nat.le_refl _,rfl⟩
    rintro m k ⟨hk,rfl⟩
    simp only [zcU]
    refine M.o_if (fun hb=>?_) (fun hb=>?_)
    · have hb:=of_decide_eq_true hb
      refine M.o_grd (gA2 (by omega) (by omega)) (M.o_grd (gI2 fun _=>⟨by omega,by omega⟩) (M.o_if (fun hc=>?_) (fun hc=>?_)))
      · exfalso
        rw [Bool.and_eq_true,beq_iff_eq,beq_iff_eq] at hc
        have d1:k ∣ N:=by
          have:=Int.dvd_of_emod_eq_zero hc.1
          exact Int.natCast_dvd_natCast.1 this
        have d2:k ∣ D:=by
          have:=Int.dvd_of_emod_eq_zero hc.2
          exact Int.natCast_dvd_natCast.1 this
        have:=Nat.dvd_gcd d1 d2
        rw [hco.gcd_eq_one,Nat.dvd_one] at this
        omega
      · exact M.o_grd (gA2 (by omega) (by omega)) (M.o_pure ⟨D+1-(k+1),by omega,by omega,rfl⟩)
    · exact M.o_pure trivial
  · intro y hy
    cases y with
    | inl u=>exact hy.elim
    | inr u=>exact M.o_pure rfl
/-! ### The highest stage that is passed so often -/
theorem wr64_id {a:Int} (h:-9223372036854775808<=a/\a<=9223372036854775807):wr64 a=a:=wrap64 h
theorem reach_one (g:Span->Int) (hg:∀ s:Span,(0<=s.lo/\s.lo<=2000/\0<=s.hi/\s.hi<=2000)->0<=g s/\g s<=2000) {fr to t:Int} (h:Bk.Ok ys os f l) (hI:Bk.In f l fr to) (ht:1<=t/\t<=to-fr+1) {L:List Int} (hL:L=(Bk.kl ys os fr (Int.toNat (to+1-fr))).map g) :
    (M.grd (decide (L.length<=1000000))<|M.grd (decide ((-9223372036854775808:Int)<=(((isort L).length:Int)-t))&&decide ((((isort L).length:Int)-t)<=(9223372036854775807:Int))) <|
      M.grd (decide ((0:Int)<=(((isort L).length:Int)-t))&&decide ((((isort L).length:Int)-t)<((isort L).length:Int)))<|M.pure ((isort L).getD (Int.toNat (((isort L).length:Int)-t)) 0)).Out (Bk.Top L t):=by
  obtain ⟨i1,i2,i3⟩:=hI
  have hl3:=h.l3
  have hf0:=h.f0
  have hlen:L.length=Int.toNat (to+1-fr):=by rw [hL,List.length_map,Bk.kl_len]
  have hsl:(isort L).length=L.length:=(isort_perm L).length_eq
  have hall:∀ x∈L,0<=x/\x<=2000:=by
    intro x hx
    rw [hL] at hx
    obtain ⟨s,hs,rfl⟩:=List.mem_map.1 hx
    obtain ⟨i,hi,rfl⟩:=Bk.kl_mem hs
    exact hg _ (Bk.kn_in h.y h.o _)
  have k:=Bk.top_sort hall (t:=Int.toNat t) (by omega) (by omega)
  rw [hsl]
  refine M.o_grdD (by omega) (M.o_grd (gA2 (by omega) (by omega)) (M.o_grd (gA2 (by omega) (by omega)) (M.o_pure ?_)))
  rw [show Int.toNat ((L.length:Int)-t)=L.length-Int.toNat t by omega]
  rwa [show ((Int.toNat t:Nat):Int)=t by omega] at k
theorem of_reaches (hy:ys.length<=1000000) (ho:os.length<=1000000) (fr to t:Int):(zap ys os f l fr to t).Out (Bk.ReE ys os f l fr to t):=by
  unfold zap
  have hlast:Bk.chkB ys os f l=0->Bk.In f l fr to->wr64 (wr64 (to-fr)+1)=to-fr+1:=by
    rintro h0 ⟨i1,i2,i3⟩
    have h:=Bk.chk_ok h0
    have hf0:=h.f0
    have hl3:=h.l3
    rw [wr64_id (a:=to-fr) (by omega),wr64_id (by omega)]
  refine M.o_bind (between_out hy ho fr to t 1 (wr64 (wr64 (to-fr)+1))) ?_
  rintro (e | ⟨f',l',m,z⟩) h
  · exact M.o_t (bne_iff_ne.2 h.1) (M.o_pure (.inl ⟨h.1,h.2.last hlast,rfl,rfl⟩))
  · obtain ⟨rfl,rfl,rfl,hw,hm⟩:=h
    have hw:=hw.last hlast
    obtain ⟨h0,hI,hn,hF⟩:=hw.ok
    have h:=Bk.chk_ok h0
    have hf0:=h.f0
    have hl3:=h.l3
    have hln:=h.ln
    obtain ⟨i1,i2,i3⟩:=id hI
    have r1:(zbu ys os f' l' m fr to t).Out (Bk.Top ((Bk.kl ys os fr (Int.toNat (to+1-fr))).map Span.lo) t):=by
      unfold zbu zaf
      refine M.o_bindE M.i_pure (M.o_bindE (told_list Span.lo (fun q x s hq=>?_) hl3 (by omega) (by omega) (by omega) (by omega) hm _ _ _ _) (reach_one Span.lo (fun s hs=>by omega) h hI hn rfl))
      simp only [zay]
      exact M.i_bind M.i_pure (M.i_grd (decide_eq_true (by simp only [List.length_cons,List.length_nil]; omega)) M.i_pure)
    have r2:(zbm ys os f' l' m fr to t).Out (Bk.Top ((Bk.kl ys os fr (Int.toNat (to+1-fr))).map Span.hi) t):=by
      unfold zbm zaf
      refine M.o_bindE M.i_pure (M.o_bindE (told_list Span.hi (fun q x s hq=>?_) hl3 (by omega) (by omega) (by omega) (by omega) hm _ _ _ _) (reach_one Span.hi (fun s hs=>by omega) h hI hn rfl))
      simp only [zaK]
      exact M.i_bind M.i_pure (M.i_grd (decide_eq_true (by simp only [List.length_cons,List.length_nil]; omega)) M.i_pure)
    refine M.o_f rfl (M.o_bindE M.i_pure (M.o_bind r1 fun a ha=>M.o_bindE M.i_pure (M.o_bind r2 fun b hb=>M.o_pure (.inr ⟨rfl,hw,ha,hb⟩))))
theorem ref_counts (L:List Span) (hL:L.length<=100000) (st:Nat):(M.iter (zaQ L st) (0,0,0)).Ends (((L.map Span.lo).countP (fun x=>decide ((st:Int)<=x)):Nat),(((L.map Span.hi).countP (fun x=>decide ((st:Int)<=x)):Nat):Int)):=by
  refine M.Out.ends ?_
  refine M.o_for L.length (fun i (s:Int × Nat × Nat)=>s=(((((L.take i).map Span.lo).countP (fun x=>decide ((st:Int)<=x)):Nat):Int),((L.take i).map Span.hi).countP (fun x=>decide ((st:Int)<=x)),i)) ?_ ?_ rfl
  · rintro i ⟨a',b,k⟩ hi e
    simp only [Prod.mk.injEq] at e
    obtain ⟨ea',eb,rfl⟩:=e
    obtain ⟨a,rfl⟩:∃ a:Nat,a'=a:=⟨_,ea'⟩
    have ea:a=((L.take k).map Span.lo).countP (fun x=>decide ((st:Int)<=x)):=by omega
    simp only [zaQ]
    have e:L.getD k default=L[k]:=by rw [List.getD_eq_getElem?_getD,List.getElem?_eq_getElem hi,Option.getD_some]
    have c1:=List.countP_le_length (p:=fun x=>decide ((st:Int)<=x)) (l:=(L.take k).map Span.lo)
    have c2:=List.countP_le_length (p:=fun x=>decide ((st:Int)<=x)) (l:=(L.take k).map Span.hi)
    rw [List.length_map,List.length_take,← ea] at c1
    rw [List.length_map,List.length_take,← eb] at c2
    have d1:((L.take (k+1)).map Span.lo).countP (fun x=>decide ((st:Int)<=x))=a+(if (st:Int)<=L[k].lo then 1 else 0):=by
      rw [← List.take_append_getElem hi,List.map_append,List.countP_append,ea]
      simp [List.countP_cons]
    have d2:((L.take (k+1)).map Span.hi).countP (fun x=>decide ((st:Int)<=x))=b+(if (st:Int)<=L[k].hi then 1 else 0):=by
      rw [← List.take_append_getElem hi,List.map_append,List.countP_append,eb]
      simp [List.countP_cons]
    have j6:∀ q:Int,q=(((L.take (k+1)).map Span.lo).countP (fun x=>decide ((st:Int)<=x)):Nat)->(za1 L st b k q).Out (fun x=>match x with
        | .inl s'=>s'=(((((L.take (k+1)).map Span.lo).countP (fun x=>decide ((st:Int)<=x)):Nat):Int),((L.take (k+1)).map Span.hi).countP (fun x=>decide ((st:Int)<=x)),k+1)
        | .inr r=>r=((((L.map Span.lo).countP (fun x=>decide ((st:Int)<=x)):Nat):Int),(((L.map Span.hi).countP (fun x=>decide ((st:Int)<=x)):Nat):Int))):=by
      rintro q rfl
      unfold za1
      rw [e]
      refine M.o_if (fun hc=>?_) (fun hc=>?_)
      · rw [if_pos (of_decide_eq_true hc)] at d2
        exact M.o_grd (gA2 (by omega) (by omega)) (M.o_pure (by dsimp only; rw [d2]))
      · rw [if_neg (of_decide_eq_false hc)] at d2
        exact M.o_pure (by simp only [d2,Nat.add_zero])
    rw [e]
    refine M.o_t (decide_eq_true (by omega)) (M.o_grdD (by omega) (M.o_if (fun hb=>?_) (fun hb=>?_)))
    · rw [if_pos (of_decide_eq_true hb)] at d1
      exact M.o_grd (gA2 (by omega) (by omega)) (M.o_mono (j6 ((a:Int)+1) (by omega)) fun x hx=>by cases x <;> exact hx)
    · rw [if_neg (of_decide_eq_false hb)] at d1
      exact M.o_mono (j6 (a:Int) (by omega)) fun x hx=>by cases x <;> exact hx
  · rintro ⟨a,b,k⟩ e
    simp only [Prod.mk.injEq] at e
    obtain ⟨ea,eb,rfl⟩:=e
    simp only [zaQ]
    rw [List.take_length] at ea eb
    exact M.o_f (by simp) (M.o_pure (by rw [ea,eb]))
theorem top_some {L:List Int} {t:Int} (hL:∀ x∈L,0<=x/\x<=2000) (h:1<=t/\t<=L.length):∃ v,Bk.Top L t v:=by
  have k:=Bk.top_sort hL (t:=Int.toNat t) (by omega) (by omega)
  rw [show ((Int.toNat t:Nat):Int)=t by omega] at k
  exact ⟨_,k⟩
theorem ref_tops {L:List Span} {t u v:Int} (hl:L.length<=100000) (hu:Bk.Top (L.map Span.lo) t u) (hv:Bk.Top (L.map Span.hi) t v):(M.iter (zaW t L) (0,0,0)).Ends (u,v):=by
  refine M.Out.ends ?_
  obtain ⟨u0,u1,u2,u3⟩:=id hu
  obtain ⟨v0,v1,v2,v3⟩:=id hv
  refine M.o_for 2001 (fun i (s:Nat × Int × Int)=>s.1=i/\((i=0/\s.2.1=0)∨(0<i/\(i:Int)-1<=u/\s.2.1=(i:Int)-1)∨(u<(i:Int)-1/\s.2.1=u))/\((i=0/\s.2.2=0)∨(0<i/\(i:Int)-1<=v/\s.2.2=(i:Int)-1)∨(v<(i:Int)-1/\s.2.2=v))) ?_ ?_ ⟨rfl,.inl ⟨rfl,rfl⟩,.inl ⟨rfl,rfl⟩⟩
  · rintro i ⟨k,a,b⟩ hi ⟨e1,e2,e3⟩
    dsimp only at e1 e2 e3
    subst e1
    simp only [zaW]
    have g1:(t<=(((L.map Span.lo).countP (fun x=>decide ((k:Int)<=x)):Nat):Int))↔(k:Int)<=u:=by
      constructor
      · intro h
        refine Int.not_lt.1 fun hn=>?_
        have:=Bk.cnt_mono (L:=L.map Span.lo) (v:=u+1) (w:=k) (by omega)
        omega
      · intro h
        have:=Bk.cnt_mono (L:=L.map Span.lo) (v:=k) (w:=u) h
        omega
    have g2:(t<=(((L.map Span.hi).countP (fun x=>decide ((k:Int)<=x)):Nat):Int))↔(k:Int)<=v:=by
      constructor
      · intro h
        refine Int.not_lt.1 fun hn=>?_
        have:=Bk.cnt_mono (L:=L.map Span.hi) (v:=v+1) (w:=k) (by omega)
        omega
      · intro h
        have:=Bk.cnt_mono (L:=L.map Span.hi) (v:=k) (w:=v) h
        omega
    refine M.o_t (decide_eq_true (by omega)) (M.o_bindE (ref_counts L hl k) ?_)
    unfold zbK
    refine M.o_if (fun hb=>?_) (fun hb=>?_)
    · have hb:=g1.1 (of_decide_eq_true hb)
      refine M.o_if (fun hc=>?_) (fun hc=>?_)
      · have hc:=g2.1 (of_decide_eq_true hc)
        exact M.o_grd (gA2 (by omega) (by omega)) (M.o_pure ⟨rfl,.inr (.inl ⟨by omega,by omega,by dsimp only; omega⟩),.inr (.inl ⟨by omega,by omega,by dsimp only; omega⟩)⟩)
      · have hc:¬ (k:Int)<=v:=fun h=>of_decide_eq_false hc (g2.2 h)
        exact M.o_grd (gA2 (by omega) (by omega)) (M.o_pure ⟨rfl,.inr (.inl ⟨by omega,by omega,by dsimp only; omega⟩),.inr (.inr ⟨by omega,by dsimp only; omega⟩)⟩)
    · have hb:¬ (k:Int)<=u:=fun h=>of_decide_eq_false hb (g1.2 h)
      refine M.o_if (fun hc=>?_) (fun hc=>?_)
      · have hc:=g2.1 (of_decide_eq_true hc)
        exact M.o_grd (gA2 (by omega) (by omega)) (M.o_pure ⟨rfl,.inr (.inr ⟨by omega,by dsimp only; omega⟩),.inr (.inl ⟨by omega,by omega,by dsimp only; omega⟩)⟩)
      · have hc:¬ (k:Int)<=v:=fun h=>of_decide_eq_false hc (g2.2 h)
        exact M.o_grd (gA2 (by omega) (by omega)) (M.o_pure ⟨rfl,.inr (.inr ⟨by omega,by dsimp only; omega⟩),.inr (.inr ⟨by omega,by dsimp only; omega⟩)⟩)
  · rintro ⟨k,a,b⟩ ⟨e1,e2,e3⟩
    dsimp only at e1 e2 e3
    subst e1
    simp only [zaW]
    refine M.o_f (by simp) (M.o_pure ?_)
    show (a,b)=(u,v)
    rw [Prod.mk.injEq]
    omega
theorem ref_spans (h:Bk.Ok ys os f l) (hF:Bk.Fine ys os f l) {fr to:Int} (hI:Bk.In f l fr to):(M.iter (zbg ys os f l to) (fr,[])).Ends (Bk.kl ys os fr (Int.toNat (to+1-fr)),Bk.kl ys os fr (Int.toNat (to+1-fr))):=by
  obtain ⟨i1,i2,i3⟩:=hI
  have hl3:=h.l3
  have hf0:=h.f0
  refine M.Out.ends ?_
  refine M.o_for (Int.toNat (to+1-fr)) (fun i (s:Int × List Span)=>s=(fr+(i:Int),Bk.kl ys os fr i)) ?_ ?_ (by simp [Bk.kl])
  · rintro n ⟨y,q⟩ hi e
    obtain ⟨rfl,rfl⟩:=Prod.mk.inj e
    simp only [zbg]
    refine M.o_t (decide_eq_true (by omega)) (M.o_bindE (span_ends h.y h.o _) ?_)
    unfold Bk.sp
    rw [if_pos (hF (fr+n) (by omega) (by omega))]
    refine M.o_grdD (by rw [Bk.kl_len]; simp only [List.length_cons,List.length_nil]; omega) (M.o_grd (gA2 (by omega) (by omega)) (M.o_pure ?_))
    dsimp only
    rw [Bk.kl_succ,show fr+((n+1:Nat):Int)=fr+n+1 by omega]
  · rintro ⟨y,q⟩ e
    obtain ⟨rfl,rfl⟩:=Prod.mk.inj e
    simp only [zbg]
    exact M.o_f (decide_eq_false (by omega)) (M.o_pure rfl)
theorem ref_reaches (hy:ys.length<=1000000) (ho:os.length<=1000000) (fr to t:Int):(zb5 ys os f l fr to t).Out (Bk.ReE ys os f l fr to t):=by
  have j10:∀ q:Int,(Bk.chkB ys os f l=0->Bk.In f l fr to->q=to-fr+1)->(zbc ys os f l fr to t q).Out (Bk.ReE ys os f l fr to t):=by
    intro q hq
    unfold zbc
    refine M.o_bind (ref_wrong hy ho fr to t 1 q) ?_
    intro e hw
    have hw:=hw.last hq
    refine M.o_if (fun hb=>?_) (fun hb=>?_)
    · exact M.o_pure (.inl ⟨bne_iff_ne.1 hb,hw,rfl,rfl⟩)
    · obtain rfl:e=0:=by simpa using hb
      obtain ⟨h0,hI,hn,hF⟩:=hw.ok
      have h:=Bk.chk_ok h0
      obtain ⟨i1,i2,i3⟩:=id hI
      have hl3:=h.l3
      have hf0:=h.f0
      have hlen:=Bk.kl_len ys os fr (Int.toNat (to+1-fr))
      have hin:∀ s∈Bk.kl ys os fr (Int.toNat (to+1-fr)),0<=s.lo/\s.lo<=2000/\0<=s.hi/\s.hi<=2000:=by
        intro s hs
        obtain ⟨i,hi,rfl⟩:=Bk.kl_mem hs
        exact Bk.kn_in h.y h.o _
      obtain ⟨u,hu⟩:=top_some (L:=(Bk.kl ys os fr (Int.toNat (to+1-fr))).map Span.lo) (t:=t) (fun x hx=>by obtain ⟨s,hs,rfl⟩:=List.mem_map.1 hx; have:=hin s hs; omega) (by rw [List.length_map,hlen]; omega)
      obtain ⟨v,hv⟩:=top_some (L:=(Bk.kl ys os fr (Int.toNat (to+1-fr))).map Span.hi) (t:=t) (fun x hx=>by obtain ⟨s,hs,rfl⟩:=List.mem_map.1 hx; have:=hin s hs; omega) (by rw [List.length_map,hlen]; omega)
      exact M.o_bindE (ref_spans h hF hI) (M.o_bindE (ref_tops (by rw [hlen]; omega) hu hv) (M.o_pure (.inr ⟨rfl,hw,hu,hv⟩)))
  unfold zb5
  refine M.o_if (fun hb=>?_) (fun hb=>?_)
  · rw [Bool.and_eq_true,Bool.and_eq_true,decide_eq_true_eq,decide_eq_true_eq,decide_eq_true_eq] at hb
    exact M.o_grd (gA2 (by omega) (by omega)) (M.o_grd (gA2 (by omega) (by omega)) (j10 _ fun _ _=>rfl))
  · refine j10 _ ?_
    rintro h0 ⟨i1,i2,i3⟩
    have h:=Bk.chk_ok h0
    have hl3:=h.l3
    have hf0:=h.f0
    rw [decide_eq_true (by omega),decide_eq_true (by omega),decide_eq_true (by omega)] at hb
    cases hb
end Go.Proofs.YtejefipopolccaaGreat
-- libO/BG.lean
namespace Go.Nm
namespace Bk
/-- The shares of all years, or the error. -/
def RtE (ys:List Yr) (os:List Old10) (f l st:Int) (r:Int × Int × Int × Int × Int):Prop:=(r.2.2.2.2 ≠ 0/\WrE ys os f l f l st 0 2000 r.2.2.2.2/\r.1=0/\r.2.1=0/\r.2.2.1=0/\r.2.2.2.1=0) ∨
  (r.2.2.2.2=0/\WrE ys os f l f l st 0 2000 0/\∃ a b:Nat,a<=100000/\b<=100000/\many (lop st) ys os f l=a/\many (hip st) ys os f l=b/\r.1=((a / Nat.gcd a (Int.toNat (l-f+1)):Nat):Int)/\r.2.1=((Int.toNat (l-f+1) / Nat.gcd a (Int.toNat (l-f+1)):Nat):Int) ∧
    r.2.2.1=((b / Nat.gcd b (Int.toNat (l-f+1)):Nat):Int)/\r.2.2.2.1=((Int.toNat (l-f+1) / Nat.gcd b (Int.toNat (l-f+1)):Nat):Int))
end Bk
end Go.Nm
namespace Go.Proofs.YtejefipopolccaaGreat
open Go Go.Nm
variable {ys:List Yr} {os:List Old10} {f l:Int}
theorem of_returns (hy:ys.length<=1000000) (ho:os.length<=1000000) (st:Int):(zaM ys os f l st).Out (Bk.RtE ys os f l st):=by
  unfold zaM
  refine M.o_bind (of_passed hy ho f l st) ?_
  rintro ⟨a,b,e⟩ (⟨h1,h2,h3,h4⟩ | ⟨h1,h2,h3,h4⟩)
  · dsimp only at h1 h2 ⊢
    exact M.o_t (bne_iff_ne.2 h1) (M.o_pure (.inl ⟨h1,h2,rfl,rfl,rfl,rfl⟩))
  · dsimp only at h1 h3 h4 ⊢
    subst h1 h3 h4
    obtain ⟨h0,hI,hn,hF⟩:=h2.ok
    have h:=Bk.chk_ok h0
    have hf0:=h.f0
    have hfl:=h.fl
    have hl3:=h.l3
    have hln:=h.ln
    have c1:=cnt_le (ys:=ys) (os:=os) (Bk.lop st) f (Int.toNat (l+1-f))
    have c2:=cnt_le (ys:=ys) (os:=os) (Bk.hip st) f (Int.toNat (l+1-f))
    have k1:=share_ends (n:=(Bk.kl ys os f (Int.toNat (l+1-f))).countP (Bk.lop st)) (d:=Int.toNat (l-f+1)) (by omega) (by omega) (by omega)
    have k2:=share_ends (n:=(Bk.kl ys os f (Int.toNat (l+1-f))).countP (Bk.hip st)) (d:=Int.toNat (l-f+1)) (by omega) (by omega) (by omega)
    rw [show ((Int.toNat (l-f+1):Nat):Int)=l-f+1 by omega] at k1 k2
    exact M.o_f rfl (M.o_grd (gA2 (by omega) (by omega)) (M.o_grd (gA2 (by omega) (by omega)) (M.o_bindE k1 (M.o_bindE k2 (M.o_pure (.inr ⟨rfl,h2,_,_,by omega,by omega,rfl,rfl,rfl,rfl,rfl,rfl⟩))))))
theorem zdI (hs:Short ys os) (fr to st t:Int):(za3 ys os f l fr to st t ys os f l ys os f l).Out (fun r=>r=true):=by
  have hy:=hs.y
  have ho:=hs.o
  have fin:(M.bind (zap ys os f l fr to t) fun (r005,r015,r18)=>M.bind (zb5 ys os f l fr to t) fun (r006,r016,r19) =>
      M.bind (M.opt ((r18==r19)&&(decide ((⟨(r005:Int),(r015:Int)⟩:Span)=(⟨(r006:Int),(r016:Int)⟩:Span)))) (za5 ys os f l ys os f l) false) fun r6 =>
      M.bind (M.opt (((r18==r19)&&(decide ((⟨(r005:Int),(r015:Int)⟩:Span)=(⟨(r006:Int),(r016:Int)⟩:Span))))&&r6) (zag) false) fun r7 =>
      M.pure ((((r18==r19)&&(decide ((⟨(r005:Int),(r015:Int)⟩:Span)=(⟨(r006:Int),(r016:Int)⟩:Span))))&&r6)&&r7)).Out (fun r=>r=true):=by
    obtain ⟨a5,g5,e5⟩:=of_reaches (ys:=ys) (os:=os) (f:=f) (l:=l) (by omega) (by omega) fr to t
    obtain ⟨a6,g6,e6⟩:=ref_reaches (ys:=ys) (os:=os) (f:=f) (l:=l) (by omega) (by omega) fr to t
    obtain rfl:=e5.uniq e6
    refine M.o_bindE g5 (M.o_bindE g6 ?_)
    obtain ⟨b1,b2,b3⟩:=a5
    have e0:((b3==b3)&&(decide ((⟨(b1:Int),(b2:Int)⟩:Span)=(⟨(b1:Int),(b2:Int)⟩:Span))))=true:=by simp
    dsimp only
    rw [e0]
    exact M.o_bindE (M.i_opt (fun _=>sameB_ends ys os f l) (fun h=>by cases h)) (M.o_bindE (M.i_opt (fun _=>awake_ends) (fun h=>by cases h)) (M.o_pure rfl))
  unfold za3
  obtain ⟨⟨r1,r2,r3,r4,e⟩,g1,e1⟩:=of_returns (ys:=ys) (os:=os) (f:=f) (l:=l) (by omega) (by omega) st
  obtain ⟨⟨p1,p2,e'⟩,g2,e2⟩:=ref_passed (ys:=ys) (os:=os) (f:=f) (l:=l) (by omega) (by omega) f l st
  refine M.o_bindE g1 (M.o_bindE g2 ?_)
  dsimp only
  rcases e1 with ⟨h1,h2,h3,h4,h5,h6⟩ | ⟨h1,h2,a,b,ha,hb,h3,h4,h5,h6,h7,h8⟩
  · dsimp only at h1 h2 h3 h4 h5 h6
    subst h3 h4 h5 h6
    have ee:e=e':=h2.uniq e2.wr
    subst ee
    have z1:(e==0)=false:=beq_eq_false_iff_ne.2 h1
    have z2:(e != e)=false:=by simp
    have z3:(decide ((⟨(0:Int),(0:Int)⟩:Rto)=(⟨(0:Int),(0:Int)⟩:Rto)))=true:=decide_eq_true rfl
    rw [z1,z2,z3]
    refine M.o_bindE (M.i_opt (fun h=>by simp at h) (fun _=>rfl)) (M.o_bindE (M.i_opt (fun h=>by simp at h) (fun _=>rfl)) (M.o_f (by simp) fin))
  · dsimp only at h1 h5 h6 h7 h8
    subst h1 h5 h6 h7 h8
    have ee:0=e':=h2.uniq e2.wr
    subst ee
    rcases e2 with ⟨k1,_⟩ | ⟨k1,k2,k3,k4⟩
    · exact absurd rfl k1
    · dsimp only at k3 k4
      rw [h3] at k3
      rw [h4] at k4
      subst k3 k4
      obtain ⟨h0,hI,hn,hF⟩:=h2.ok
      have h:=Bk.chk_ok h0
      exact M.o_bindE (M.i_opt (fun _=>shared_ends h.fl h.ln ha) (fun h=>by simp at h)) (M.o_bindE (M.i_opt (fun _=>shared_ends h.fl h.ln hb) (fun h=>by simp at h)) (M.o_f (by simp) fin))
theorem zaU (ys:List Yr) (os:List Old10) (f l fr to st t:Int) (most:Bool):(zal ys os f l fr to st t most).Ends true:=by
  refine M.Out.ends ?_
  unfold zal
  refine M.o_bind (long_out ys os f l) ?_
  intro r hr
  refine M.o_if (fun hb=>M.o_bindE awake_ends (M.o_pure rfl)) (fun hb=>?_)
  have hs:=hr hb
  have hy:=hs.y
  have ho:=hs.o
  refine M.o_bindE (copyB_ends hs) (M.o_bindE (bookB_ends hs) ?_)
  unfold zcF
  obtain ⟨⟨a1,a2,a3⟩,g1,e1⟩:=of_passed (ys:=ys) (os:=os) (f:=f) (l:=l) (by omega) (by omega) fr to st
  obtain ⟨b,g2,e2⟩:=ref_passed (ys:=ys) (os:=os) (f:=f) (l:=l) (by omega) (by omega) fr to st
  obtain rfl:=e1.uniq e2
  obtain ⟨⟨L,e⟩,g3,e3⟩:=of_told (ys:=ys) (os:=os) (f:=f) (l:=l) (by omega) (by omega) fr to st most
  refine M.o_bindE g1 (M.o_bindE g2 (M.o_f (by simp) (M.o_bindE g3 ?_)))
  dsimp only
  rcases e3 with ⟨h1,h2,h3⟩ | ⟨h1,h2,h3⟩
  · dsimp only at h1 h2 h3
    subst h3
    have ee:e=a3:=h2.uniq e1.wr
    subst ee
    exact M.o_f (by simp) (M.o_f (beq_eq_false_iff_ne.2 h1) (zdI hs fr to st t))
  · dsimp only at h1 h3
    subst h1 h3
    have ee:0=a3:=h2.uniq e1.wr
    subst ee
    rcases e1 with ⟨k1,_⟩ | ⟨k1,k2,k3,k4⟩
    · exact absurd rfl k1
    · dsimp only at k3 k4
      subst k3 k4
      obtain ⟨h0,⟨i1,i2,i3⟩,hn,hF⟩:=h2.ok
      have h:=Bk.chk_ok h0
      have hf0:=h.f0
      have hfl:=h.fl
      have hl3:=h.l3
      have hln:=h.ln
      have hlen:((Bk.kl ys os f (Int.toNat (l+1-f))).map (Bk.ofs most)).length=Int.toNat (l+1-f):=by rw [List.length_map,Bk.kl_len]
      have hget:∀ i,i<Int.toNat (l+1-f)->((Bk.kl ys os f (Int.toNat (l+1-f))).map (Bk.ofs most)).getD i 0=Bk.ofs most (Bk.kn ys os (f+i)):=by
        intro i hi
        rw [List.getD_eq_getElem?_getD,List.getElem?_map,Bk.kl_at ys os f hi]
        rfl
      obtain ⟨hv,g4,e4⟩:=ref_holds (ys:=ys) (os:=os) (f:=f) (l:=l) (by omega) (by omega) ((Bk.kl ys os f (Int.toNat (l+1-f))).map (Bk.ofs most))
      have hok:Bk.HoE ys os f l ((Bk.kl ys os f (Int.toNat (l+1-f))).map (Bk.ofs most)) (true,0):=by
        refine .inr (.inr (.inr (.inr ⟨h0,by rw [hlen]; omega,fun i hi=>?_,fun i hi=>?_,rfl⟩)))
        · rw [hlen] at hi
          rw [hget i hi]
          have:=Bk.kn_in h.y h.o (f+i)
          unfold Bk.ofs
          split <;> omega
        · rw [hlen] at hi
          rw [hget i hi]
          have:=hF (f+i) (by omega) (by omega)
          unfold Bk.ofs
          split <;> omega
      obtain rfl:=e4.uniq hok
      refine M.o_f (by simp) (M.o_t rfl (M.o_bindE g4 (M.o_f rfl (M.o_grd (gA2 (by omega) (by omega)) (M.o_grd (gA2 (by omega) (by omega)) (M.o_f (by rw [hlen]; simp; omega) ?_))))))
      refine M.o_bind (P:=fun n=>n=if most=true then Bk.many (Bk.hip st) ys os fr to else Bk.many (Bk.lop st) ys os fr to) ?_ ?_
      · refine M.o_for (Int.toNat (to+1-fr)) (fun i (s:Nat × Int)=>s.2=fr+i/\(s.1:Int)=((Bk.kl ys os fr i).countP (fun s=>decide (st<=Bk.ofs most s)):Nat)) ?_ ?_ ⟨by simp,rfl⟩
        · rintro i ⟨n,y⟩ hi ⟨e5,e6⟩
          dsimp only at e5 e6
          subst e5
          simp only [zbL]
          have d1:=cnt_succ (ys:=ys) (os:=os) (fun s=>decide (st<=Bk.ofs most s)) fr i
          have c1:=cnt_le (ys:=ys) (os:=os) (fun s=>decide (st<=Bk.ofs most s)) fr i
          have hg:=hget (Int.toNat (fr+i-f)) (by omega)
          rw [show f+((Int.toNat (fr+i-f):Nat):Int)=fr+i by omega] at hg
          refine M.o_t (decide_eq_true (by omega)) (M.o_grd (gA2 (by omega) (by omega)) (M.o_grd (gA2 (by omega) (by rw [hlen]; omega)) ?_))
          rw [hg]
          refine M.o_if (fun hb=>?_) (fun hb=>?_)
          · rw [if_pos hb] at d1
            exact M.o_grd (gA2 (by omega) (by omega)) (M.o_grd (gA2 (by omega) (by omega)) (M.o_pure ⟨by dsimp only; omega,by dsimp only; omega⟩))
          · rw [if_neg (by rw [hb]; simp)] at d1
            exact M.o_grd (gA2 (by omega) (by omega)) (M.o_pure ⟨by dsimp only; omega,by dsimp only; omega⟩)
        · rintro ⟨n,y⟩ ⟨e5,e6⟩
          dsimp only at e5 e6
          subst e5
          simp only [zbL]
          refine M.o_f (decide_eq_false (by omega)) (M.o_pure ?_)
          show (n:Int)=_
          rw [e6]
          cases most <;> rfl
      · rintro n rfl
        refine M.o_f ?_ (zdI hs fr to st t)
        cases most <;> simp
end Go.Proofs.YtejefipopolccaaGreat
-- libO/BH.lean
namespace Go.Nm
namespace Bk
theorem chk_of {ys:List Yr} {os:List Old10} {f l:Int} (h:Ok ys os f l):chkB ys os f l=0:=by
  have h1:=h.f0
  have h2:=h.fl
  have h3:=h.l3
  have h4:=h.ln
  have h5:=h.y60
  have h6:=h.o8
  have hfr:frB f l=true:=by
    simp only [frB,Bool.and_eq_true,decide_eq_true_eq]
    omega
  have hfew:os.all fewO=true:=by
    rw [List.all_eq_true]
    intro o ho
    have:=h.few o ho
    exact decide_eq_true (by omega)
  have hb:os.all (oB f l)=true:=by
    rw [List.all_eq_true]
    intro o ho
    have k1:=h.o.in_ o ho
    have k2:=h.ris o ho
    simp only [oB,Bool.and_eq_true,decide_eq_true_eq]
    exact ⟨⟨⟨⟨k1.1,k1.2.1⟩,by omega,k1.2.2.1⟩,k1.2.2.2.1,k1.2.2.2.2⟩,k2⟩
  have he:Pk.fe (errY f l ys) ys.length=0:=by
    rw [Pk.fe_all]
    intro i hi
    have e:ys.getD i default=ys[i]:=by rw [List.getD_eq_getElem?_getD,List.getElem?_eq_getElem hi,Option.getD_some]
    have k1:=h.y.in_ ys[i] (List.getElem_mem hi)
    unfold errY
    rw [if_neg,if_neg]
    · rintro ⟨h0,hle⟩
      have e2:ys.getD (i-1) default=ys[i-1]:=by rw [List.getD_eq_getElem?_getD,List.getElem?_eq_getElem (by omega),Option.getD_some]
      rw [e,e2] at hle
      have:=List.pairwise_iff_getElem.1 h.y.up (i-1) i (by omega) hi (by omega)
      omega
    · rw [e]
      have:yrB f l ys[i]=true:=by
        simp only [yrB,Bool.and_eq_true,decide_eq_true_eq]
        omega
      rw [this]
      simp
  unfold chkB
  rw [if_neg (by rw [hfr]; simp),if_neg (by rw [hfew]; simp; omega),if_neg (by rw [he]; simp),if_neg (by rw [hb]; simp)]
/-- A truth of a book. -/
structure Tr (ys:List Yr) (os:List Old10) (f l:Int) (t:List Int):Prop where
  ok:Ok ys os f l
  len:(t.length:Int)=l-f+1
  all:All2 t
  can:Can ys os f t
theorem Tr.at_ {ys:List Yr} {os:List Old10} {f l:Int} {t:List Int} (h:Tr ys os f l t) {y:Int} (h1:f<=y) (h2:y<=l):(kn ys os y).lo<=t.getD (Int.toNat (y-f)) 0/\t.getD (Int.toNat (y-f)) 0<=(kn ys os y).hi:=by
  have hl:=h.len
  have k:=h.can (Int.toNat (y-f)) (by omega)
  rwa [show f+((Int.toNat (y-f):Nat):Int)=y by omega] at k
theorem Tr.fine {ys:List Yr} {os:List Old10} {f l:Int} {t:List Int} (h:Tr ys os f l t):Fine ys os f l:=fun z h1 h2=>by
  have:=h.at_ h1 h2
  omega
/-- An old note that a truth bears out. -/
structure Nt (f l:Int) (t:List Int) (o:Old10):Prop where
  a:f<=o.src
  b:o.src<=o.dst
  c:o.dst<=l
  s1:1<=o.stage
  s2:o.stage<=2000
  few:o.passed.length<=10
  up:o.passed.Pairwise (· < ·)
  mem:∀ y,y∈o.passed↔(o.src<=y/\y<=o.dst)/\o.stage<=t.getD (Int.toNat (y-f)) 0
theorem Nt.rin {f l:Int} {t:List Int} {o:Old10} (h:Nt f l t o):Rin o.passed o.src o.dst:=by
  intro i hi
  have e:o.passed.getD i 0=o.passed[i]:=by rw [List.getD_eq_getElem?_getD,List.getElem?_eq_getElem hi,Option.getD_some]
  rw [e]
  refine ⟨((h.mem _).1 (List.getElem_mem hi)).1,fun h0=>?_⟩
  have e2:o.passed.getD (i-1) 0=o.passed[i-1]:=by rw [List.getD_eq_getElem?_getD,List.getElem?_eq_getElem (by omega),Option.getD_some]
  rw [e2]
  exact List.pairwise_iff_getElem.1 h.up (i-1) i (by omega) hi (by omega)
/-- Recorded years that a truth bears out. -/
structure Yt (f l:Int) (t:List Int) (ys:List Yr):Prop where
  in_:∀ r∈ys,(f<=r.year/\r.year<=l/\0<=r.lo/\r.lo<=r.hi/\r.hi<=2000)/\r.lo<=t.getD (Int.toNat (r.year-f)) 0/\t.getD (Int.toNat (r.year-f)) 0<=r.hi
  up:ys.Pairwise fun a b=>a.year<b.year
/-- What is borne out is a book with a truth. -/
theorem Tr.of {ys:List Yr} {os:List Old10} {f l:Int} {t:List Int} (h0:0<=f) (h1:f<=l) (h2:l<=3000) (h3:l-f<1000) (hy:ys.length<=60) (ho:os.length<=8) (hl:(t.length:Int)=l-f+1) (ha:All2 t) (hY:Yt f l t ys) (hO:∀ o∈os,Nt f l t o):Tr ys os f l t:=by
  have oky:OkY f l ys:=⟨fun r hr=>(hY.in_ r hr).1,hY.up⟩
  refine ⟨⟨h0,h1,h2,h3,hy,ho,fun o h=>(hO o h).few,oky,⟨fun o h=>?_⟩,fun o h=>(hO o h).rin⟩,hl,ha,fun i hi=>?_⟩
  · have k:=hO o h
    exact ⟨k.a,k.b,k.c,k.s1,k.s2⟩
  · rw [← can_iff oky (ha i hi).1 (ha i hi).2]
    unfold Bk.can
    rw [Bool.and_eq_true,List.all_eq_true,List.all_eq_true]
    refine ⟨fun r hr=>?_,fun o hm=>?_⟩
    · have k:=(hY.in_ r hr).2
      by_cases e:r.year=f+i
      · rw [e,show Int.toNat (f+(i:Int)-f)=i by omega] at k
        rw [decide_eq_false (by omega),decide_eq_false (by omega)]
        simp
      · rw [beq_eq_false_iff_ne.2 e]
        rfl
    · have k:=hO o hm
      by_cases e:o.src<=f+i/\f+i<=o.dst
      · have m:=k.mem (f+i)
        rw [show Int.toNat (f+(i:Int)-f)=i by omega] at m
        rw [Bool.or_eq_true]
        right
        rw [beq_iff_eq,Bool.eq_iff_iff,List.contains_iff_mem,m,decide_eq_true_eq]
        exact ⟨fun h=>h.2,fun h=>⟨e,h⟩⟩
      · rw [Bool.or_eq_true]
        left
        rw [Bool.not_eq_true',Bool.and_eq_false_iff,decide_eq_false_iff_not,decide_eq_false_iff_not]
        omega
end Bk
end Go.Nm
namespace Go.Proofs.YtejefipopolccaaGreat
open Go Go.Nm
variable {ys:List Yr} {os:List Old10} {f l:Int} {t:List Int} {b:List UInt8}
end Go.Proofs.YtejefipopolccaaGreat
-- libO/BI.lean
namespace Go.Nm
namespace Bk
/-- What a truth has from one year on. -/
def vl (t:List Int) (f a:Int) (n:Nat):List Int:=(List.range n).map fun (i:Nat)=>t.getD (Int.toNat (a+(i:Int)-f)) 0
theorem Top.le {A B:List Int} {t u v:Int} (hc:∀ x,A.countP (fun y=>decide (x<=y))<=B.countP (fun y=>decide (x<=y))) (hu:Top A t u) (hv:Top B t v):u<=v:=by
  obtain ⟨h1,h2,h3,h4⟩:=hu
  obtain ⟨k1,k2,k3,k4⟩:=hv
  refine Int.not_lt.1 fun e=>?_
  have:=cnt_mono (L:=B) (v:=v+1) (w:=u) (by omega)
  have:=hc u
  omega
/-- What is told of a book with a truth. -/
theorem Tr.wr {ys:List Yr} {os:List Old10} {f l:Int} {t:List Int} (h:Tr ys os f l t) {fr to n a b:Int} (hI:In f l fr to) (hn:a<=n/\n<=b):WrE ys os f l fr to n a b 0:=.inr (.inr (.inr (.inr ⟨chk_of h.ok,hI,hn,h.fine,rfl⟩)))
end Bk
end Go.Nm
namespace Go.Proofs.YtejefipopolccaaGreat
open Go Go.Nm
variable {ys:List Yr} {os:List Old10} {f l:Int} {t:List Int}
end Go.Proofs.YtejefipopolccaaGreat
namespace Go.Nm
open Go
/-- A value that takes one cell. -/
def PtV (p:Value):Prop:=p.cells=[p].toArray/\p.oneCell'=true
theorem ptB (a:Addr):PtV (.pointer (some a)):=⟨rfl,rfl⟩
theorem ptE {p:Value} (h:∃ b o,p = .pointer (some ⟨b,o,none⟩)):PtV p:=by
  obtain ⟨b,o,rfl⟩:=h
  exact ptB _
theorem ptF {p:Value} {off:Nat} (h:∃ b o,p = .pointer (some ⟨b,o,none⟩)):PtV (fat p off):=by
  obtain ⟨b,o,rfl⟩:=h
  exact ptB _
theorem ptr_fat {p:Value} {off:Nat} (h:∃ b o,p = .pointer (some ⟨b,o,none⟩)):∃ b o,fat p off = .pointer (some ⟨b,o,none⟩):=by
  obtain ⟨b,o,rfl⟩:=h
  exact ⟨b,o+off,by simp [fat,add_lit]⟩
def rawV (p:Value) (h:PtV p):Raw 0:=⟨[p],rfl,fun v hv=>by rw [List.mem_singleton.1 hv]; exact h.2⟩
theorem raw_at {C:Cells} {v p:Value} {l:List (Raw 0)} {i:Int} {k:Nat} (h:Sl C v l) (hi:i=k) (hk:(l[k]?).map Raw.cs=some [p]):At C (vat v 1 i.toNat) [p]:=by
  subst hi
  obtain ⟨r,h1,h2⟩:=Option.map_eq_some_iff.1 hk
  obtain ⟨cs,ha,hr⟩:=h.at h1
  rw [show cs=r.cs from hr,h2] at ha
  exact ha
theorem W.byc {r:Option Nat} {P:Program} {n:Nat} {Q:Post} {σ:Env} {w:World} {c:Code} (b:Bool) (ht:b=true->WR r P n c Q σ w) (hf:b=false->WR r P n c Q σ w):WR r P n c Q σ w:=by
  cases b with
  | true=>exact ht rfl
  | false=>exact hf rfl
end Go.Nm
namespace Go.Nm
open Go
def ivO (r:Raw 3):Value:=r.cs.getD 3 (.bool false)
def OldM (r:Raw 3) (o:Old10):Prop:=r.cs=[I o.src,I o.dst,I o.stage,ivO r]
def psd (dl:List Old10):List (List Int):=dl.map (·.passed)
theorem psd_len (dl:List Old10):(psd dl).length=dl.length:=List.length_map _
theorem psd_get (dl:List Old10) (i:Nat):(psd dl).getD i []=(dl.getD i default).passed:=by
  simp only [psd,List.getD,List.getElem?_map]
  cases dl[i]? <;> rfl
def cDO (e1 e2:TypeId) (v:Value) (us:List (Raw 3)) (dl:List Old10):Chunk where
  D b:=(cDp ivO e1 e2 v us (psd dl)).D b
  ex:=true
  ok w:=(cDp ivO e1 e2 v us (psd dl)).ok w/\us.length=dl.length/\∀ i,i<dl.length->OldM (us.getD i default) (dl.getD i default)
  st w w' h hs k:=⟨(cDp ivO e1 e2 v us (psd dl)).st w w' h.1 hs k,h.2⟩
  bd w b h hb:=(cDp ivO e1 e2 v us (psd dl)).bd w b h.1 hb
theorem St.reS {w0 w:World} {L L' R:List Chunk} {k:Nat} {c c':Chunk} (H:St w0 w L R) (hk:L[k]?=some c) (hx:c.ex=true) (hD:∀ b,c'.D b->c.D b) (ho:c'.ok w) (hL:L.set k c'=L'):St w0 w L' R :=
  H.set hk hx (.refl w) (fun _ _ _=>rfl) (fun b hb=>.inl (hD b hb)) ho hL
theorem setGet {α:Type} {L:List α} {k:Nat} {c:α} (h:k<L.length):(L.set k c)[k]?=some c:=by simp [h]
/-- The cells of the inner rows. -/
def inC:List (Raw 3)->List (List Int)->Cells
  | u :: us,t :: T=>Cells.sup (rowC (ivO u) (t.flatMap Flat.enc)) (inC us T)
  | _,_=>fun _=>none
def deC (v:Value) (us:List (Raw 3)) (dl:List Old10):Cells:=Cells.sup (rowC v (us.flatMap Flat.enc)) (inC us (psd dl))
section
variable {e1 e2:TypeId} {v:Value} {us:List (Raw 3)} {dl:List Old10} {w0 w:World} {L L' R:List Chunk}
theorem inLe:∀ (us:List (Raw 3)) (T:List (List Int)),(∀ p∈us.zip T,(cOwn e2 (ivO p.1) p.2).ok w)->(inC us T).Le w.cell?
  | [],_,_=>fun _ _ h=>by simp [inC] at h
  | _ :: _,[],_=>fun _ _ h=>by simp [inC] at h
  | u :: us,t :: T,h=>Cells.sup_le (ownLe w (h (u,t) (by simp))) (inLe us T fun p hp=>h p (by simp [hp]))
theorem inGet:∀ (us:List (Raw 3)) (T:List (List Int)),(∀ p∈us.zip T,(cOwn e2 (ivO p.1) p.2).ok w)->∀ i,i<us.length->i<T.length->(rowC (ivO (us.getD i default)) ((T.getD i []).flatMap Flat.enc)).Le (inC us T)
  | [],_,_,_,h,_=>by simp at h
  | _ :: _,[],_,_,_,h=>by simp at h
  | u :: us,t :: T,h,0,_,_=>Cells.sup_l _ _
  | u :: us,t :: T,h,i+1,h1,h2=>by
    have ih:=inGet us T (fun p hp=>h p (by simp [hp])) i (by simpa using h1) (by simpa using h2)
    exact ih.trans (Cells.sup_r (ownLe w (h (u,t) (by simp))) (inLe us T fun p hp=>h p (by simp [hp])))
theorem doRows (h:(cDO e1 e2 v us dl).ok w):∀ p∈us.zip (psd dl),(cOwn e2 (ivO p.1) p.2).ok w:=fun p hp =>
  (show Sep w (dpL ivO e1 e2 v us (psd dl)) from h.1).get (List.mem_cons_of_mem _ (List.mem_map.2 ⟨p,hp,rfl⟩))
theorem doOuter (h:(cDO e1 e2 v us dl).ok w):(cOwn e1 v us).ok w:=dpOuter h.1
theorem doLen (h:(cDO e1 e2 v us dl).ok w):us.length=dl.length:=h.2.1
theorem doRow (h:(cDO e1 e2 v us dl).ok w) {i:Nat} (hi:i<dl.length):(cOwn e2 (ivO (us.getD i default)) (dl.getD i default).passed).ok w:=by
  have:=dpRow h.1 (by rw [psd_len]; exact h.2.1) (i:=i) (by rw [psd_len]; exact hi)
  rw [psd_get] at this
  exact this
theorem deLe:∀ w,(cDO e1 e2 v us dl).ok w->(deC v us dl).Le w.cell?:=fun w h=>Cells.sup_le (ownLe w (doOuter h)) (inLe us _ (doRows h))
theorem repR_of {C:Cells}:∀ (us:List (Raw 3)) (dl:List Old10),us.length=dl.length->(∀ i,i<dl.length->OldM (us.getD i default) (dl.getD i default)/\Sl C (ivO (us.getD i default)) (dl.getD i default).passed)->RepR (α:=Old10) C us dl
  | [],[],_,_=>.nil
  | [],_ :: _,h,_=>by simp at h
  | _ :: _,[],h,_=>by simp at h
  | u :: us,o :: dl,h,k=>by
    have h0:=k 0 (by simp)
    refine .cons ⟨ivO u,h0.1,h0.2⟩ (repR_of us dl (by simpa using h) fun i hi=>?_)
    have:=k (i+1) (by simpa using hi)
    exact this
theorem deRep (h:(cDO e1 e2 v us dl).ok w):RepR (α:=Old10) (inC us (psd dl)) us dl:=repR_of us dl h.2.1 fun i hi=>⟨h.2.2 i hi,by
  have hl:=h.2.1
  have:=(ownSl (doRow h hi)).mono (inGet (e2:=e2) (w:=w) us (psd dl) (doRows h) i (by omega) (by rw [psd_len]; exact hi) |> fun x=>by rw [psd_get] at x; exact x)
  exact this⟩
theorem deSl (h:(cDO e1 e2 v us dl).ok w):Sl (deC v us dl) v dl:=rowSl rfl (doOuter h) (inLe us _ (doRows h)) (deRep h)
theorem doAt (h:(cDO e1 e2 v us dl).ok w) {i:Int} (h0:0<=i) (h1:i<dl.length):At w.cell? (vat v 4 i.toNat) (us.getD i.toNat default).cs:=by
  have hl:=doLen h
  obtain ⟨cs,ha,hr⟩:=(ownSl (doOuter h)).atI h0 (by omega) default
  have:cs=(us.getD i.toNat default).cs:=hr
  subst this
  exact ha.mono (ownLe w (doOuter h))
theorem at_one {C D:Cells} {X:Cells} (hC:C.Le X) (hD:D.Le X) {p:Value} {xs ys:List Value} (h:At C p xs) (k:At D p ys) {j:Nat} {x y:Value} (hx:xs[j]?=some x) (hy:ys[j]?=some y):x=y:=by
  obtain ⟨b,o,rfl,h⟩:=h
  obtain ⟨b',o',e,k⟩:=k
  cases e
  have h1:=hC _ _ (h j x hx)
  have h2:=hD _ _ (k j y hy)
  rw [h1] at h2
  exact Option.some.inj h2
/-- What was found in the last cell of an element is the row that is its own. -/
theorem doU (h:(cDO e1 e2 v us dl).ok w) {C:Cells} (hC:C.Le w.cell?) {i:Int} (h0:0<=i) (h1:i<dl.length) {u:Value} (ha:At C (fat (vat v 4 i.toNat) 3) [u]):u=ivO (us.getD i.toNat default):=by
  have hm:=h.2.2 i.toNat (by omega)
  have ht:=(doAt h h0 h1).fld 3 1
  unfold OldM at hm
  rw [hm] at ht
  exact at_one hC (fun _ _ h=>h) ha ht (j:=0) rfl rfl
variable {P:Program} {all rest:List Oper} {Q:Post} {σ:Env} {d:Nat} {ty:TypeId} {pos:String} {af:Array Edge}
/-- A store into an inner row. -/
theorem t_dost {dst:Option Nat} {t k:Nat} {x y:Operand} {val u:Value} (H:St w0 w L R) (hk:L[k]?=some (cDO e1 e2 v us dl)) (hs:(P.info? t).map (·.size)=some 1) {i j:Int} (hi0:0<=i) (hi:i<dl.length) {C:Cells} (hC:C.Le w.cell?) (ha:At C (fat (vat v 4 i.toNat) 3) [u])
    (h0:0<=j) (h1:j<(dl.getD i.toNat default).passed.length) (a:Int) (hx:ev σ x=vat u 1 j.toNat) (hy:ev σ y=val) (hv:val=I a) {dl':List Old10} (hT:dl.set i.toNat { dl.getD i.toNat default with passed:=(dl.getD i.toNat default).passed.set j.toNat a }=dl') (hL:L.set k (cDO e1 e2 v us dl')=L')
    (kk:∀ w',St w0 w' L' R->SL P all Q rest (updo σ dst undef) w'):SL P all Q (⟨dst,.store t x y,ty,pos,af,none⟩ :: rest) σ w:=by
  have hok:=H.get hk
  obtain rfl:=doU hok hC hi0 hi ha
  have hkl:=(List.getElem?_eq_some_iff.1 hk).1
  have H1:St w0 w (L.set k (cDp ivO e1 e2 v us (psd dl))) R:=H.reS (c':=cDp ivO e1 e2 v us (psd dl)) hk rfl (fun b hb=>hb) hok.1 rfl
  have hin:i.toNat<dl.length:=by omega
  refine t_dpst (α:=Int) H1 (setGet hkl) (by rw [psd_len]; exact hok.2.1) hs (i:=i.toNat) (by rw [psd_len]; exact hin) h0 (by rw [psd_get]; exact h1) a hx hy (by subst hv; rfl) rfl rfl fun w' H2=>kk w' ?_
  rw [List.set_set] at H2
  have hpe:(psd dl).set i.toNat (((psd dl).getD i.toNat []).set j.toNat a)=psd dl':=by
    subst hT
    rw [psd_get,psd,psd,List.map_set]
  rw [hpe] at H2
  refine H2.reS (k:=k) (c:=cDp ivO e1 e2 v us (psd dl')) (c':=cDO e1 e2 v us dl') (setGet hkl) rfl (fun b hb=>hb) ⟨H2.get (setGet hkl),?_,?_⟩ (by rw [List.set_set]; exact hL)
  · subst hT; rw [List.length_set]; exact hok.2.1
  · subst hT
    intro q hq
    rw [List.length_set] at hq
    have:=hok.2.2 q hq
    by_cases e:i.toNat=q
    · subst e
      rw [show (dl.set i.toNat { dl.getD i.toNat default with passed:=(dl.getD i.toNat default).passed.set j.toNat a }).getD i.toNat default={ dl.getD i.toNat default with passed:=(dl.getD i.toNat default).passed.set j.toNat a } from by simp [List.getD,hin]]
      exact this
    · rw [show (dl.set i.toNat { dl.getD i.toNat default with passed:=(dl.getD i.toNat default).passed.set j.toNat a }).getD q default=dl.getD q default from by simp [List.getD,List.getElem?_set_ne e]]
      exact this
/-- A store into the outer row, the inner ones beside it. -/
theorem t_outst {X:List Chunk} {dst:Option Nat} {t k n off:Nat} {x y:Operand} {val:Value} (H:St w0 w L R) (hk:L[k]?=some (cAll (cOwn (α:=Raw 3) e1 v us :: X))) (hs:(P.info? t).map (·.size)=some n) {i:Int} (h0:0<=i) (h1:i<us.length)
    (a':Raw 3) (hx:ev σ x=fat (vat v 4 i.toNat) off) (hy:ev σ y=val) (vs:List Value) (hv:val.cells=vs.toArray) (hn:vs.length=n) (hoff:off+n<=4) (hone:∀ u∈vs,u.oneCell'=true)
    (he:a'.cs=(us.getD i.toNat default).cs.take off++vs++(us.getD i.toNat default).cs.drop (off+vs.length))
    (kk:∀ w',St w0 w' (L.set k (cAll (cOwn (α:=Raw 3) e1 v (us.set i.toNat a') :: X))) R->SL P all Q rest (updo σ dst undef) w'):SL P all Q (⟨dst,.store t x y,ty,pos,af,none⟩ :: rest) σ w:=by
  have hok:Sep w (cOwn (α:=Raw 3) e1 v us :: X):=H.get hk
  obtain ⟨w',hr,ho,hg⟩:=OwnF.fst (P:=P) (t:=t) (hok.1:OwnF 0 e1 w v us) hs (k:=i.toNat) (by omega) _ a' (getD_some us (k:=i.toNat) (by omega) default) vs hv hn hoff hone he
  refine s_skp (w':=w') ?_ (kk w' ?_)
  · have hx':ev σ x=fat (vat v (Elt.sz (Raw 3)) i.toNat) off:=hx
    simp [execOp,hx',hy,hr]
  refine H.set (c':=cAll (cOwn (α:=Raw 3) e1 v (us.set i.toNat a') :: X)) hk rfl hg.keep (fun b hb hne=>hg.blk b hb (fun hc=>hne ⟨cOwn (α:=Raw 3) e1 v us,by simp,hc⟩)) (fun b hb=>?_) ?_ rfl
  · obtain ⟨c,hc,hd⟩:=hb
    rcases List.mem_cons.1 hc with rfl | hc
    · exact .inl ⟨cOwn (α:=Raw 3) e1 v us,by simp,hd⟩
    · exact .inl ⟨c,List.mem_cons_of_mem _ hc,hd⟩
  · exact Sep.set (c:=cOwn (α:=Raw 3) e1 v us) (c':=cOwn (α:=Raw 3) e1 v (us.set i.toNat a')) rfl hg.size (fun b hb hne=>hg.blk b hb hne) (fun b hb=>.inl hb) ho 0 _ hok rfl
/-- The chunk as its outer row and the inner ones. -/
theorem St.doOpen {k:Nat} (H:St w0 w L R) (hk:L[k]?=some (cDO e1 e2 v us dl)):St w0 w (L.set k (cAll (cOwn (α:=Raw 3) e1 v us :: dpIn ivO e2 us (psd dl)))) R :=
  H.reS (c':=cAll (cOwn (α:=Raw 3) e1 v us :: dpIn ivO e2 us (psd dl))) hk rfl (fun _ hb=>hb) (H.get hk).1 rfl
theorem St.doShut {k:Nat} {us':List (Raw 3)} {dl':List Old10} (hkl:k<L.length) (H:St w0 w (L.set k (cAll (cOwn (α:=Raw 3) e1 v us' :: dpIn ivO e2 us (psd dl)))) R) (hp:(dpIn ivO e2 us' (psd dl')).Perm (dpIn ivO e2 us (psd dl))) (hl:us'.length=dl'.length)
    (hm:∀ i,i<dl'.length->OldM (us'.getD i default) (dl'.getD i default)) (hL:L.set k (cDO e1 e2 v us' dl')=L'):St w0 w L' R:=by
  refine H.reS (k:=k) (c:=cAll (cOwn (α:=Raw 3) e1 v us' :: dpIn ivO e2 us (psd dl))) (c':=cDO e1 e2 v us' dl') (by simp [hkl]) rfl (fun b hb=>?_) ⟨?_,hl,hm⟩ (by rw [List.set_set]; exact hL)
  · obtain ⟨c,hc,hd⟩:=hb
    refine ⟨c,?_,hd⟩
    rcases List.mem_cons.1 hc with rfl | hc
    · simp
    · exact List.mem_cons_of_mem _ (hp.mem_iff.1 hc)
  · have:=H.get (k:=k) (c:=cAll (cOwn (α:=Raw 3) e1 v us' :: dpIn ivO e2 us (psd dl))) (by simp [hkl])
    exact Sep.perm (show Sep w (cOwn (α:=Raw 3) e1 v us' :: dpIn ivO e2 us (psd dl)) from this) (List.Perm.cons _ hp)
/-- A number of an element is stored. -/
theorem t_dofs {dst:Option Nat} {t k off:Nat} {x y:Operand} {val:Value} (H:St w0 w L R) (hk:L[k]?=some (cDO e1 e2 v us dl)) (hs:(P.info? t).map (·.size)=some 1) {i:Int} (h0:0<=i) (h1:i<dl.length) (hx:ev σ x=fat (vat v 4 i.toNat) off) (hy:ev σ y=val) (hof:off<3) {n:Int} (hv:val=I n)
    {o':Old10} (hp:o'.passed=(dl.getD i.toNat default).passed) (he:[I o'.src,I o'.dst,I o'.stage]=[I (dl.getD i.toNat default).src,I (dl.getD i.toNat default).dst,I (dl.getD i.toNat default).stage].set off val)
    (kk:∀ w' us',us'.length=(dl.set i.toNat o').length->St w0 w' (L.set k (cDO e1 e2 v us' (dl.set i.toNat o'))) R->SL P all Q rest (updo σ dst undef) w'):SL P all Q (⟨dst,.store t x y,ty,pos,af,none⟩ :: rest) σ w:=by
  subst hv
  have hok:=H.get hk
  have hkl:=(List.getElem?_eq_some_iff.1 hk).1
  have hl:=hok.2.1
  have hin:i.toNat<dl.length:=by omega
  have hm:=hok.2.2 i.toNat hin
  have hoff:Nat.ble (off+[I n].length) (3+1)=true:=by simp; omega
  have hpu:(Raw.put (us.getD i.toNat default) off [I n] hoff rfl).cs=[I o'.src,I o'.dst,I o'.stage,ivO (us.getD i.toNat default)]:=by
    show (us.getD i.toNat default).cs.take off++[I n]++(us.getD i.toNat default).cs.drop (off+[I n].length)=_
    unfold OldM at hm
    generalize hu:ivO (us.getD i.toNat default)=u at hm ⊢
    rw [hm]
    rcases (show off=0∨off=1∨off=2 by omega) with rfl | rfl | rfl <;> simp at he ⊢ <;> simp [he]
  have hivp:ivO (Raw.put (us.getD i.toNat default) off [I n] hoff rfl)=ivO (us.getD i.toNat default):=by
    conv=>lhs; unfold ivO
    rw [hpu]; rfl
  refine t_outst (H.doOpen hk) (setGet hkl) hs h0 (by omega) (Raw.put (us.getD i.toNat default) off [I n] hoff rfl) hx hy [I n] rfl rfl (by omega) (by simp [Value.oneCell']) rfl fun w' H2=>kk w' (us.set i.toNat (Raw.put (us.getD i.toNat default) off [I n] hoff rfl)) (by simp [hl]) ?_
  rw [List.set_set] at H2
  refine St.doShut hkl H2 ?_ (by simp [hl]) (fun q hq=>?_) rfl
  · rw [show psd (dl.set i.toNat o')=psd dl from by
      rw [psd,List.map_set,hp]
      apply List.ext_getElem?
      intro j
      by_cases e:i.toNat=j
      · subst e
        simp [psd,List.getElem?_set,hin,List.getD]
      · rw [List.getElem?_set_ne e]; rfl]
    rw [dpIn_same (us':=us)]
    rw [List.map_set,hivp]
    apply List.ext_getElem?
    intro j
    by_cases e:i.toNat=j
    · subst e
      simp [List.getElem?_set,List.getD,show i.toNat<us.length by omega]
    · rw [List.getElem?_set_ne e]
  · rw [List.length_set] at hq
    by_cases e:i.toNat=q
    · subst e
      rw [show (us.set i.toNat (Raw.put (us.getD i.toNat default) off [I n] hoff rfl)).getD i.toNat default=Raw.put (us.getD i.toNat default) off [I n] hoff rfl from by simp [List.getD,show i.toNat<us.length by omega],show (dl.set i.toNat o').getD i.toNat default=o' from by simp [List.getD,hin]]
      unfold OldM
      rw [hivp,hpu]
    · rw [show (us.set i.toNat (Raw.put (us.getD i.toNat default) off [I n] hoff rfl)).getD q default=us.getD q default from by simp [List.getD,List.getElem?_set_ne e],show (dl.set i.toNat o').getD q default=dl.getD q default from by simp [List.getD,List.getElem?_set_ne e]]
      exact hok.2.2 q hq
end
end Go.Nm
namespace Go.Nm
open Go
theorem St.doLit {w0 w:World} {L R:List Chunk} {e1 e2:TypeId} {v rv:Value} {sv:Raw 3} (o:Old10) (hr:sv.cs=[I o.src,I o.dst,I o.stage,rv]) (H:St w0 w (cOwn (α:=Raw 3) e1 v [sv] :: cOwn e2 rv o.passed :: L) R):St w0 w (cDO e1 e2 v [sv] [o] :: L) R:=by
  have hiv:ivO sv=rv:=by unfold ivO; rw [hr]; rfl
  have H1:St w0 w (cDp ivO e1 e2 v [sv] (psd [o]) :: L) R:=St.dpShut (α:=Int) (iv:=ivO) (us':=[sv]) (T':=psd [o]) (X:=[cOwn e2 rv o.passed]) (by
    show ([cOwn e2 rv o.passed]:List Chunk).Perm [cOwn e2 (ivO sv) o.passed]
    rw [hiv]) H
  refine H1.reS (k:=0) (c':=cDO e1 e2 v [sv] [o]) rfl rfl (fun b hb=>hb) ⟨H1.get (k:=0) rfl,rfl,fun i hi=>?_⟩ rfl
  obtain rfl:i=0:=by
    rw [List.length_singleton] at hi
    omega
  show OldM sv o
  unfold OldM
  rw [hiv]
  exact hr
theorem map_zip_set {α β γ:Type _} (f:α × β->γ) (r:α) (row:β):∀ (us:List α) (T:List β) (i:Nat),i<us.length->i<T.length->((us.zip T).map f).set i (f (r,row))=((us.set i r).zip (T.set i row)).map f
  | [],_,_,h,_=>by simp at h
  | _ :: _,[],_,_,h=>by simp at h
  | _ :: us,_ :: T,0,_,_=>rfl
  | _ :: us,_ :: T,i+1,h,h'=>by
    simp only [List.length_cons,Nat.add_lt_add_iff_right] at h h'
    simp only [List.zip_cons_cons,List.map_cons,List.set_cons_succ]
    rw [map_zip_set f r row us T i h h']
theorem psd_set (dl:List Old10) (i:Nat) (o:Old10):psd (dl.set i o)=(psd dl).set i o.passed:=List.map_set
variable {P:Program} {all rest:List Oper} {Q:Post} {σ:Env} {ty:TypeId} {pos:String} {af:Array Edge}
/-- An inner row grows; its element does not know of it yet. -/
theorem t_diapp {w0 w:World} {L R:List Chunk} {d t by' e1 e2:Nat} {z v vy:Value} {us:List (Raw 3)} {dl:List Old10} {x y:Operand} (S:SlT P t e2 (Elt.sz Int) by' z) (hb:Nat.blt 0 by'=true) {C:Cells} {l2:List Int} {i:Int}
    (H:St w0 w (cDO e1 e2 v us dl :: L) R) (h0:0<=i) (h1:i<dl.length) {u:Value} (hu:u=ivO (us.getD i.toNat default)) (hx:ev σ x=u) (hy:ev σ y=vy) (hs:Sl C vy l2) (hle:C.Le w.cell?)
    (hn:((dl.getD i.toNat default).passed.length+l2.length)*by'<=140737488355328)
    (kk:∀ v' w' (r:Raw 3),r.cs=(us.getD i.toNat default).cs.take 3++[v']->v'.cells=[v'].toArray->v'.oneCell'=true →
      St w0 w' (cAll (cOwn (α:=Raw 3) e1 v us :: dpIn ivO e2 (us.set i.toNat r) (psd (dl.set i.toNat { (dl.getD i.toNat default) with passed:=(dl.getD i.toNat default).passed++l2 }))) :: L) R->SL P all Q rest (upd σ d v') w') :
    SL P all Q (⟨some d,.call ⟨.builtin .append,#[x,y],#[t,t]⟩,ty,pos,af,none⟩ :: rest) σ w:=by
  subst hu
  have hok:=H.get (k:=0) rfl
  have hin:i.toNat<dl.length:=by omega
  have hl:=hok.2.1
  have H1:=(H.doOpen (k:=0) rfl).unbundle
  have hpl:i.toNat<(psd dl).length:=by rw [psd_len]; exact hin
  have hk1:((cOwn (α:=Raw 3) e1 v us :: dpIn ivO e2 us (psd dl))++L)[i.toNat+1]?=some (cOwn e2 (ivO (us.getD i.toNat default)) ((psd dl).getD i.toNat [])):=by
    rw [List.getElem?_append_left (by simp [dpIn,hl]; omega)]
    exact dpGet (by rw [psd_len]; exact hl) hpl
  refine t_app S hb H1 hk1 hx hy hs hle rfl ?_ fun v' w' H2=>?_
  · rw [psd_get]; exact hn
  · have hc:=H2.get (k:=i.toNat+1) (c:=cOwn e2 v' ((psd dl).getD i.toNat []++l2)) (by
      rw [List.getElem?_set_self]
      simp [dpIn,hl]
      omega)
    have hone:=Sl.oc (ownSl hc)
    have hput:(Raw.put (us.getD i.toNat default) 3 [v'] (by rfl) (by simp [hone])).cs=(us.getD i.toNat default).cs.take 3++[v']:=by
      show (us.getD i.toNat default).cs.take 3++[v']++(us.getD i.toNat default).cs.drop (3+[v'].length)=_
      rw [List.drop_of_length_le (by rw [(us.getD i.toNat default).len]; simp),List.append_nil]
    have hiv:ivO (Raw.put (us.getD i.toNat default) 3 [v'] (by rfl) (by simp [hone]))=v':=by
      conv=>lhs; unfold ivO
      rw [hput,hok.2.2 i.toNat hin]
      rfl
    refine kk v' w' _ hput (Sl.cells (ownSl hc)) hone ?_
    rw [psd_set]
    refine St.bundle (fun c hc=>?_) ?_
    · rcases List.mem_cons.1 hc with rfl | hc
      · rfl
      · obtain ⟨p,_,rfl⟩:=List.mem_map.1 hc
        rfl
    · have hz:=map_zip_set (fun p:Raw 3 × List Int=>cOwn e2 (ivO p.1) p.2) (Raw.put (us.getD i.toNat default) 3 [v'] (by rfl) (by simp [hone])) ((dl.getD i.toNat default).passed++l2) us (psd dl) i.toNat (by omega) hpl
      simp only [hiv] at hz
      have H3:=H2
      rw [List.set_append_left _ _ (by simp [dpIn,hl]; omega),List.set_cons_succ,psd_get] at H3
      unfold dpIn at H3 ⊢
      rw [hz] at H3
      exact H3
/-- The element gets to know. -/
theorem t_diast {w0 w:World} {L R:List Chunk} {dst:Option Nat} {t e1 e2:Nat} {v v':Value} {us:List (Raw 3)} {dl:List Old10} {x y:Operand} {i:Int} {r:Raw 3} {o':Old10}
    (H:St w0 w (cAll (cOwn (α:=Raw 3) e1 v us :: dpIn ivO e2 (us.set i.toNat r) (psd (dl.set i.toNat o'))) :: L) R) (hr:r.cs=(us.getD i.toNat default).cs.take 3++[v']) (hc:v'.cells=[v'].toArray) (hone:v'.oneCell'=true)
    (hl:us.length=dl.length) (hm:∀ j,j<dl.length->OldM (us.getD j default) (dl.getD j default)) (hs:(P.info? t).map (·.size)=some 1) (h0:0<=i) (h1:i<dl.length) (ho:[o'.src,o'.dst,o'.stage]=[(dl.getD i.toNat default).src,(dl.getD i.toNat default).dst,(dl.getD i.toNat default).stage])
    (hx:ev σ x=fat (vat v 4 i.toNat) 3) (hy:ev σ y=v')
    (kk:∀ w' us',us'.length=(dl.set i.toNat o').length->St w0 w' (cDO e1 e2 v us' (dl.set i.toNat o') :: L) R->SL P all Q rest (updo σ dst undef) w'):SL P all Q (⟨dst,.store t x y,ty,pos,af,none⟩ :: rest) σ w:=by
  have hin:i.toNat<dl.length:=by omega
  refine t_outst H (k:=0) rfl hs h0 (by omega) r hx hy [v'] hc rfl (by omega) (by simp [hone]) (by rw [hr,List.drop_of_length_le (by rw [(us.getD i.toNat default).len]; simp),List.append_nil]) fun w' H2=>kk w' (us.set i.toNat r) (by simp [hl]) ?_
  refine St.reS (k:=0) H2 (c':=cDO e1 e2 v (us.set i.toNat r) (dl.set i.toNat o')) rfl rfl (fun b hb=>hb) ⟨H2.get (k:=0) rfl,by simp [hl],fun q hq=>?_⟩ rfl
  rw [List.length_set] at hq
  by_cases e:i.toNat=q
  · subst e
    rw [show (us.set i.toNat r).getD i.toNat default=r from by simp [List.getD,show i.toNat<us.length by omega],show (dl.set i.toNat o').getD i.toNat default=o' from by simp [List.getD,hin]]
    have hm':=hm _ hq
    unfold OldM at hm' ⊢
    simp only [List.cons.injEq,and_true] at ho
    have hiv:ivO r=v':=by unfold ivO; rw [hr,hm']; rfl
    rw [hiv,hr,hm',ho.1,ho.2.1,ho.2.2]
    rfl
  · rw [show (us.set i.toNat r).getD q default=us.getD q default from by simp [List.getD,List.getElem?_set_ne e],show (dl.set i.toNat o').getD q default=dl.getD q default from by simp [List.getD,List.getElem?_set_ne e]]
    exact hm q hq
/-- A row of zeros, under a guard: it is read on only. -/
theorem t_gmk {w0 w:World} {L R:List Chunk} {d:Nat} {α:Type} [Flat α] {t e by':Nat} {z:Value} {x y:Operand} (T:SlT P t e (Elt.sz α) by' z) (a:α) (hz:z.cells=(Flat.enc a:List Value).toArray) {j:Nat} {want:Bool} (c:Bool) (hy:(yieldedE all σ j==some want)=c) {n:Int} (H:St w0 w L R)
    (hx:c=true->ev σ x = .int .i64 n) (hm:c=true->ev σ y = .int .i64 n) (h0:0<=n) (hn:(by':Int)*n<=281474976710656) (h63:n<=9223372036854775807)
    (k:∀ u B w',St w0 w' (cRo B :: L) R->(c=true->Sl B.cells u (List.replicate n.toNat a))->SL P all Q rest (upd σ d (gd c u)) w'):SL P all Q (⟨some d,.makeSlice t x y,ty,pos,af,some (j,want)⟩ :: rest) σ w:=by
  refine g_split rfl c hy (fun e=>?_) (fun e=>?_)
  · refine t_mk (α:=α) T a hz H (hx e) (hm e) h0 hn h63 fun u w' H'=>?_
    obtain ⟨B,H2,hs⟩:=H'.freezeE (k:=0) rfl
    have:=k u B w' H2 (fun _=>hs)
    rwa [gd_of e] at this
  · have:=k undef ⟨w,fun _=>False⟩ w (H.push (c:=cRo ⟨w,fun _=>False⟩) (Ext.refl w) ⟨Nat.le_refl _,fun _ h=>h.elim⟩ (fun _ h=>h.1.elim)) (fun h=>by rw [e] at h; cases h)
    rwa [gd_no e] at this
theorem lst6 {a a' b b' c c' d d' e e' f f':Value} (h1:a=a') (h2:b=b') (h3:c=c') (h4:d=d') (h5:e=e') (h6:f=f'):[a,b,c,d,e,f]=[a',b',c',d',e',f']:=by rw [h1,h2,h3,h4,h5,h6]
theorem daSl {w:World} {e1:TypeId} {v:Value} {us:List (Raw 3)} {X:List Chunk} (h:(cAll (cOwn (α:=Raw 3) e1 v us :: X)).ok w):Sl (rowC v (us.flatMap Flat.enc)) v us:=ownSl (e:=e1) ((show Sep w (_ :: _) from h).1)
end Go.Nm
section
set_option maxRecDepth 100000
set_option maxHeartbeats 16000000
namespace Go.Proofs.YtejefipopolccaaGreat
open Go Go.Nm
attribute [local irreducible] gd execOp SL SLD SLT WR
abbrev vl41:List Int:=((-1:Int) :: (0:Int) :: (1:Int) :: (2:Int) :: (3:Int) :: (4:Int) :: (6:Int) :: (7:Int) :: (9:Int) :: (10:Int) :: (11:Int) :: (14:Int) :: (59:Int) :: (60:Int) :: (61:Int) :: (199:Int) :: (200:Int) :: (300:Int) :: (301:Int) :: (349:Int) :: (400:Int) :: (410:Int) :: (420:Int) :: (500:Int) :: (1899:Int) :: (1900:Int) :: (1902:Int) :: (1905:Int) :: (1906:Int) :: (1909:Int) :: (1910:Int) :: (2000:Int) :: (2001:Int) :: (2899:Int) :: (2900:Int) :: (3000:Int) :: (3001:Int) :: (4000:Int) :: (4001:Int) :: (9223372036854775807:Int) :: (-9223372036854775808:Int) :: [])
abbrev vl12:List Int:=[(0:Int),(1:Int),(8:Int),(9:Int),(10:Int),(11:Int),(39:Int),(40:Int),(41:Int),(59:Int),(60:Int),(61:Int)]
def zdq:M ((List Yr) × (List Old10) × Int × Int) :=
  M.pure (([(⟨(1905:Int),(400:Int),(420:Int)⟩:Yr),(⟨(1906:Int),(250:Int),(250:Int)⟩:Yr)]),([(⟨(1900:Int),(1904:Int),(500:Int),([(1902:Int)])⟩:Old10)]),1900,1909)
theorem zd3 {R:List Chunk}    {r:((List Yr) × (List Old10) × Int × Int)} (hM:(zdq).Ends r) (w:World) (H:St w w [] R):Ret Tryz.prog 5 #[] w fun v w'=>∃ (y0:List Yr) (y1:List Old10) (y2:Int) (y3:Int) (u0:Value) (u1:Value) (rr2:List (Raw 3)) (Bs3:Base),(y0,y1,y2,y3)=r/\v = .agg #[u0,u1,I y2,I y3]/\St w w' [cOwn (α:=Yr) 36 u0 y0,cDO 38 3 u1 rr2 y1,cRo Bs3] R/\rr2.length=y1.length:=by
 refine ret_of_W Tryz.func5 rfl rfl rfl ?_
 refine kg 2 ?_
 refine t_alloc (cs:=[.slice none 0 0,.slice none 0 0,I 0,I 0]) H Al28 rfl ?_
 intro b_1 w1z H
 refine kg 3 ?_
 refine s_val (x_bld (ps:=[(0,I 400),(1,I 420)]) (zs:=[I 0,I 0]) (L':=[I 400,I 420]) rfl Tryz.underlying34 Al34 rfl (Bd34 Tryz.underlying34) (.cons (cs:=[I 400]) rfl rfl rfl rfl rfl<|.cons (cs:=[I 420]) rfl rfl rfl rfl rfl<|.nil)) ?_
 refine s_val (x_bld (ps:=[(0,I 1905),(1,.agg #[I 400,I 420])]) (zs:=[I 0,I 0,I 0]) (L':=[I 1905,I 400,I 420]) rfl Tryz.underlying36 Al36 rfl (Bd36 Tryz.underlying36) (.cons (cs:=[I 1905]) rfl rfl rfl rfl rfl<|.cons (cs:=[I 400,I 420]) rfl rfl rfl rfl rfl<|.nil)) ?_
 refine s_val (x_bld (ps:=[(0,I 250),(1,I 250)]) (zs:=[I 0,I 0]) (L':=[I 250,I 250]) rfl Tryz.underlying34 Al34 rfl (Bd34 Tryz.underlying34) (.cons (cs:=[I 250]) rfl rfl rfl rfl rfl<|.cons (cs:=[I 250]) rfl rfl rfl rfl rfl<|.nil)) ?_
 refine s_val (x_bld (ps:=[(0,I 1906),(1,.agg #[I 250,I 250])]) (zs:=[I 0,I 0,I 0]) (L':=[I 1906,I 250,I 250]) rfl Tryz.underlying36 Al36 rfl (Bd36 Tryz.underlying36) (.cons (cs:=[I 1906]) rfl rfl rfl rfl rfl<|.cons (cs:=[I 250,I 250]) rfl rfl rfl rfl rfl<|.nil)) ?_
 refine t_bs (α:=Yr) T25 [.agg #[I 1905,I 400,I 420],.agg #[I 1906,I 250,I 250]] [(⟨(1905:Int),(400:Int),(420:Int)⟩:Yr),(⟨(1906:Int),(250:Int),(250:Int)⟩:Yr)] H rfl (.cons rfl (Flat.rep_enc _ (⟨(1905:Int),(400:Int),(420:Int)⟩:Yr))<|.cons rfl (Flat.rep_enc _ (⟨(1906:Int),(250:Int),(250:Int)⟩:Yr))<|.nil) rfl rfl rfl ?_
 intro v2z w3z H
 refine t_bs (α:=Int) T22 [I 1902] [(1902:Int)] H rfl (.cons rfl (Flat.rep_enc _ (1902:Int))<|.nil) rfl rfl rfl ?_
 intro v4z w5z H
 refine s_val (x_bld (ps:=[(0,I 1900),(1,I 1904),(2,I 500),(3,v4z)]) (zs:=[I 0,I 0,I 0,.slice none 0 0]) (L':=[I 1900,I 1904,I 500,v4z]) rfl Tryz.underlying38 Al38 rfl (Bd38 Tryz.underlying38) (.cons (cs:=[I 1900]) rfl rfl rfl rfl rfl<|.cons (cs:=[I 1904]) rfl rfl rfl rfl rfl<|.cons (cs:=[I 500]) rfl rfl rfl rfl rfl<|.cons (cs:=[v4z]) (Sl.cells (H.os 0)) rfl rfl rfl rfl<|.nil)) ?_
 obtain ⟨rw6z,hrw_rw6z⟩:∃ r:Raw 3,r.cs=[I 1900,I 1904,I 500,v4z]:=⟨Raw.of [I 1900,I 1904,I 500,v4z] rfl (by simp only [List.all_cons,List.all_nil,Bool.true_and,Bool.and_true,Sl.oc (H.os 0)]; try rfl),rfl⟩
 refine t_bs (α:=Raw 3) T26 [.agg #[I 1900,I 1904,I 500,v4z]] [rw6z] H rfl (.cons (by rw [show (Flat.enc rw6z:List Value)=rw6z.cs from rfl,hrw_rw6z]; rfl) (Flat.rep_enc _ _)<|.nil) rfl rfl rfl ?_
 intro v7z w8z H
 replace H:=H.nf
 obtain ⟨Bs_5,H⟩:=H.emptyE
 replace H:=H.pk [1,2,0,3,4]
 replace H:St w w8z [cDO 38 3 v7z ([rw6z]) ([(⟨(1900:Int),(1904:Int),(500:Int),([(1902:Int)])⟩:Old10)]),cRo Bs_5,cOwn (α:=Yr) 36 v2z ([(⟨(1905:Int),(400:Int),(420:Int)⟩:Yr),(⟨(1906:Int),(250:Int),(250:Int)⟩:Yr)]),cBlk b_1 [.slice none 0 0,.slice none 0 0,I 0,I 0] 28] R:=St.doLit (⟨(1900:Int),(1904:Int),(500:Int),([(1902:Int)])⟩:Old10) hrw_rw6z H
 have hr9z:=doLen (H.get (k:=0) rfl)
 refine s_val (x_bld (ps:=[(2,I 1900),(3,I 1909),(0,v2z),(1,v7z)]) (zs:=[.slice none 0 0,.slice none 0 0,I 0,I 0]) (L':=[v2z,v7z,I 1900,I 1909]) rfl Tryz.underlying28 Al28 rfl (Bd28 Tryz.underlying28) (.cons (cs:=[I 1900]) rfl rfl rfl rfl rfl<|.cons (cs:=[I 1909]) rfl rfl rfl rfl rfl<|.cons (cs:=[v2z]) (Sl.cells (H.os 2)) rfl rfl rfl rfl<|.cons (cs:=[v7z]) (Sl.cells (deSl (H.get (k:=0) rfl))) rfl rfl rfl rfl<|.nil)) ?_
 refine t_sw 3 0 [v2z,v7z,I 1900,I 1909] (.agg #[v2z,v7z,I 1900,I 1909]) H rfl rfl Sz28 rfl rfl rfl (by simp only [List.all_cons,List.all_nil,Bool.true_and,Bool.and_true,Sl.oc (H.os 2),Sl.oc (deSl (H.get (k:=0) rfl))]; try rfl) ?_
 intro w10z H
 refine s_nil ?_
 refine W.ret ?_
 have hb11z:=(H.bl 3)
 have hr_:=M.e_pure hM
 exact ⟨_,(resE_of1 (v:=.agg #[v2z,v7z,I 1900,I 1909]) rfl (.cell (v:=.agg #[v2z,v7z,I 1900,I 1909]) rfl (run_loadVar_ag (ds:=[v2z,v7z,I 1900,I 1909]) Ag28 Sz28 hb11z rfl rfl)<|.nil)),⟨([(⟨(1905:Int),(400:Int),(420:Int)⟩:Yr),(⟨(1906:Int),(250:Int),(250:Int)⟩:Yr)]),([(⟨(1900:Int),(1904:Int),(500:Int),([(1902:Int)])⟩:Old10)]),1900,1909,v2z,v7z,[rw6z],Bs_5,hr_,rfl,(H.pk [2,0,1]),hr9z⟩⟩

end Go.Proofs.YtejefipopolccaaGreat
end
