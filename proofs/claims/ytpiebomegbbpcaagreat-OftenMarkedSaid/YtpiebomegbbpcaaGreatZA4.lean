/- Part 4 of the texts on which the proof rests. Conditions: none. -/
import Derived.KernelRfl
import Derived.Test.YtpiebomegbbpcaaGreatZA3
set_option linter.unusedVariables false
set_option linter.unusedSimpArgs false
set_option linter.unusedSectionVars false
-- libL/PN.lean
namespace Go.Nm
namespace M
variable {α β σ ρ:Type}
def Out (m:M α) (Q:α->Prop):Prop:=∃ r,m.Ends r/\Q r
theorem o_of {m:M α} {a:α} {Q:α->Prop} (h:m.Ends a) (q:Q a):m.Out Q:=⟨a,h,q⟩
theorem o_pure {a:α} {Q:α->Prop} (h:Q a):(pure a).Out Q:=⟨a,i_pure,h⟩
theorem o_mono {m:M α} {P Q:α->Prop} (h:m.Out P) (k:∀ a,P a->Q a):m.Out Q:=by
  obtain ⟨a,h1,h2⟩:=h
  exact ⟨a,h1,k a h2⟩
theorem o_bind {m:M α} {k:α->M β} {P:α->Prop} {Q:β->Prop} (h:m.Out P) (h':∀ a,P a->(k a).Out Q):(bind m k).Out Q:=by
  obtain ⟨a,h1,h2⟩:=h
  obtain ⟨b,h3,h4⟩:=h' a h2
  exact ⟨b,i_bind h1 h3,h4⟩
theorem o_bindE {m:M α} {k:α->M β} {a:α} {Q:β->Prop} (h:m.Ends a) (h':(k a).Out Q):(bind m k).Out Q:=o_bind (o_of (Q:=fun x=>x=a) h rfl) (fun _ e=>by subst e; exact h')
theorem o_grd {b:Bool} {k:M α} {Q:α->Prop} (hb:b=true) (h:k.Out Q):(grd b k).Out Q:=by subst hb; exact h
theorem o_grdD {p:Prop} [Decidable p] {k:M α} {Q:α->Prop} (hp:p) (h:k.Out Q):(grd (decide p) k).Out Q:=o_grd (decide_eq_true hp) h
theorem o_if {b:Bool} {x y:M α} {Q:α->Prop} (h:b=true->x.Out Q) (h':b=false->y.Out Q):(bif b then x else y).Out Q:=by
  cases b with
  | true=>exact h rfl
  | false=>exact h' rfl
theorem o_t {b:Bool} {x y:M α} {Q:α->Prop} (hb:b=true) (h:x.Out Q):(bif b then x else y).Out Q:=by subst hb; exact h
theorem o_f {b:Bool} {x y:M α} {Q:α->Prop} (hb:b=false) (h:y.Out Q):(bif b then x else y).Out Q:=by subst hb; exact h
theorem o_opt {b:Bool} {m:M α} {d:α} {Q:α->Prop} (h:b=true->m.Out Q) (h':b=false->Q d):(opt b m d).Out Q:=by
  cases b with
  | true=>exact h rfl
  | false=>exact o_pure (h' rfl)
/-- What a round leaves. -/
def Rd (J:Nat->σ->Prop) (Q:ρ->Prop) (m:Nat):σ ⊕ ρ->Prop
  | .inl s=>∃ m',m'<m/\J m' s
  | .inr r=>Q r
theorem o_iter {body:σ->M (σ ⊕ ρ)} {Q:ρ->Prop} (J:Nat->σ->Prop) (round:∀ m s,J m s->(body s).Out (Rd J Q m)):∀ (m:Nat) (s:σ),J m s->(iter body s).Out Q:=by
  intro m
  induction m using Nat.strongRecOn with
  | _ m ih =>
    intro s hs
    obtain ⟨x,h1,h2⟩:=round m s hs
    cases x with
    | inl s' =>
      obtain ⟨m',hlt,hj⟩:=h2
      obtain ⟨r,h3,h4⟩:=ih m' hlt s' hj
      exact ⟨r,i_next h1 h3,h4⟩
    | inr r=>exact ⟨r,i_stop h1,h2⟩
/-- A loop that counts from 0 to n. -/
theorem o_for {body:σ->M (σ ⊕ ρ)} {Q:ρ->Prop} (n:Nat) (J:Nat->σ->Prop) (round:∀ i s,i<n->J i s->(body s).Out (fun x=>match x with | .inl s'=>J (i+1) s' | .inr r=>Q r))
    (last:∀ s,J n s->(body s).Out (fun x=>match x with | .inl _=>False | .inr r=>Q r)) {s:σ} (h:J 0 s):(iter body s).Out Q:=by
  refine o_iter (fun m s=>∃ i,i<=n/\m=n-i/\J i s) ?_ n s ⟨0,Nat.zero_le _,rfl,h⟩
  rintro m s ⟨i,hi,rfl,hj⟩
  by_cases e:i<n
  · refine o_mono (round i s e hj) ?_
    intro x hx
    cases x with
    | inl s'=>exact ⟨n-(i+1),by omega,i+1,e,rfl,hx⟩
    | inr r=>exact hx
  · obtain rfl:i=n:=by omega
    refine o_mono (last s hj) ?_
    intro x hx
    cases x with
    | inl s'=>exact hx.elim
    | inr r=>exact hx
end M
theorem M.i_f {α:Type} {b:Bool} {x y:M α} {r:α} (hb:b=false) (h:y.Ends r):(bif b then x else y).Ends r:=by subst hb; exact h
theorem M.i_for {σ ρ:Type} {body:σ->M (σ ⊕ ρ)} {r:ρ} (st:Nat->σ) (n:Nat) (step:∀ i,i<n->(body (st i)).Ends (.inl (st (i+1)))) (fin:(body (st n)).Ends (.inr r)):(M.iter body (st 0)).Ends r:=by
  refine M.i_loop (r:=r) (fun m s=>∃ i,i<=n/\m=n-i/\s=st i) ?_ n (st 0) ⟨0,Nat.zero_le _,rfl,rfl⟩
  rintro m s ⟨i,hi,rfl,rfl⟩
  by_cases h:i<n
  · exact .inl ⟨_,n-(i+1),by omega,step i h,i+1,h,rfl,rfl⟩
  · obtain rfl:i=n:=by omega
    exact .inr fin
theorem M.i_t {α:Type} {b:Bool} {x y:M α} {r:α} (hb:b=true) (h:x.Ends r):(bif b then x else y).Ends r:=by subst hb; exact h
theorem take_succ_D {α:Type} (l:List α) (i:Nat) (h:i<l.length) (d:α):l.take i++[l.getD i d]=l.take (i+1):=by
  rw [List.take_succ_eq_append_getElem h]
  simp [List.getD,h]
theorem getD_el {α:Type} (l:List α) {k:Nat} (h:k<l.length) (d:α):l.getD k d=l[k]:=by rw [List.getD_eq_getElem?_getD,List.getElem?_eq_getElem h,Option.getD_some]
theorem gOr2 {c:Bool} {p q:Prop} [Decidable p] [Decidable q] (hp:p) (hq:q):(!c||(decide p&&decide q))=true:=by rw [decide_eq_true hp,decide_eq_true hq]; cases c <;> rfl
theorem gA2 {p q:Prop} [Decidable p] [Decidable q] (hp:p) (hq:q):(decide p&&decide q)=true:=by rw [decide_eq_true hp,decide_eq_true hq]; rfl
theorem gA3 {p q r:Prop} [Decidable p] [Decidable q] [Decidable r] (hp:p) (hq:q) (hr:r):(decide p&&decide q&&decide r)=true:=by rw [decide_eq_true hp,decide_eq_true hq,decide_eq_true hr]; rfl
theorem mem_getD {α:Type} {l:List α} {x:α} (h:x∈l) (d:α):∃ i,i<l.length/\l.getD i d=x:=by
  obtain ⟨i,hi,e⟩:=List.getElem_of_mem h
  exact ⟨i,hi,by rw [getD_el l hi d]; exact e⟩
end Go.Nm
-- libO/OP.lean
namespace Go.Nm
namespace Pk
/-- The first peak behind the flood of each one, and how many floods are over when a peak comes. -/
structure Fl (n:Nat) (nx kk:Nat->Nat):Prop where
  lt:∀ i,i<n->i<nx i
  le:∀ i,i<n->nx i<=n
  kle:∀ m,kk m<=m
  iff:∀ i m,i<n->m<=n->(i<kk m↔nx i<=m)
namespace Fl
variable {n:Nat} {nx kk:Nat->Nat}
theorem kmono (F:Fl n nx kk) {a b:Nat} (h:a<=b) (hb:b<=n):kk a<=kk b:=by
  rcases Nat.lt_or_ge (kk b) (kk a) with hlt | hge
  · have h1:=F.kle a
    have h2:=(F.iff (kk b) a (by omega) (by omega)).1 hlt
    have h3:=(F.iff (kk b) b (by omega) (by omega)).2 (by omega)
    omega
  · exact hge
end Fl
/-- The greatest worth of the peaks ahead of one. -/
structure IsS (n:Nat) (v:Nat->Int) (kk:Nat->Nat) (S:Nat->Int):Prop where
  z:S 0=0
  s:∀ i,i<n->S (i+1)=max (S i) (S (kk i)+v i)
variable {n:Nat} {nx kk:Nat->Nat} {v S B:Nat->Int}
theorem IsS.mono (h:IsS n v kk S):∀ {a b:Nat},a<=b->b<=n->S a<=S b:=by
  intro a b hab
  induction hab with
  | refl=>intro _; exact Int.le_refl _
  | @step m k ih =>
    intro hb
    have:=ih (by omega)
    have e:=h.s m (by omega)
    rw [Nat.succ_eq_add_one]
    omega
/-- The sum of a function's values from a to b. -/
def sm (d:Nat->Int) (a:Nat):Nat->Int
  | 0=>0
  | k+1=>sm d a k+d (a+k)
theorem sm_add (d:Nat->Int) (a j k:Nat):sm d a (j+k)=sm d a j+sm d (a+j) k:=by
  induction k with
  | zero=>simp [sm]
  | succ k ih=>rw [← Nat.add_assoc]; simp only [sm]; rw [ih,Nat.add_assoc]; omega
end Pk
end Go.Nm
-- libO/OQ.lean
namespace Go.Nm
namespace Pk
def dayAt (l:List Pk) (i:Nat):Int:=(l.getD i default).day
def stAt (l:List Pk) (i:Nat):Int:=(l.getD i default).stage
/-- Days that rise. -/
def Up (l:List Pk):Prop:=∀ i j,i<j->j<l.length->dayAt l i<dayAt l j
theorem Up.le {l:List Pk} (h:Up l) {i j:Nat} (hij:i<=j) (hj:j<l.length):dayAt l i<=dayAt l j:=by
  rcases Nat.lt_or_eq_of_le hij with e | e
  · have:=h i j e hj
    omega
  · subst e; exact Int.le_refl _
theorem tw_lt {l:List Pk} {p:Pk->Bool}:∀ {j:Nat},j<(l.takeWhile p).length↔j<l.length/\∀ k,k<=j->p (l.getD k default)=true:=by
  induction l with
  | nil=>intro j; simp
  | cons a l ih =>
    intro j
    rw [List.takeWhile_cons]
    by_cases e:p a=true
    · rw [if_pos e]
      cases j with
      | zero=>simp [e]
      | succ j =>
        simp only [List.length_cons,Nat.succ_lt_succ_iff,ih]
        refine and_congr_right fun _=>⟨fun h k hk=>?_,fun h k hk=>?_⟩
        · cases k with
          | zero=>simpa using e
          | succ k=>simpa using h k (by omega)
        · simpa using h (k+1) (by omega)
    · rw [if_neg e]
      simp only [List.length_nil,Nat.not_lt_zero,false_iff]
      intro h
      exact e (by simpa using h.2 0 (Nat.zero_le _))
theorem tw_le (l:List Pk) (p:Pk->Bool):(l.takeWhile p).length<=l.length:=by
  induction l with
  | nil=>simp
  | cons a l ih =>
    rw [List.takeWhile_cons]
    split
    · simpa using ih
    · simp
/-- The first peak whose day is not ahead of a day. -/
def fst (l:List Pk) (t:Int):Nat:=(l.takeWhile fun p=>decide (p.day<t)).length
theorem fst_le (l:List Pk) (t:Int):fst l t<=l.length:=tw_le l _
theorem fst_lt {l:List Pk} (h:Up l) {t:Int} {j:Nat} (hj:j<l.length):j<fst l t↔dayAt l j<t:=by
  unfold fst
  rw [tw_lt]
  constructor
  · rintro ⟨_,k⟩
    simpa [dayAt] using k j (Nat.le_refl _)
  · intro e
    refine ⟨hj,fun k hk=>?_⟩
    have:=h.le hk hj
    show decide (dayAt l k<t)=true
    exact decide_eq_true (by omega)
def nx (l:List Pk) (A:Int) (i:Nat):Nat:=fst l (dayAt l i+A)
def kk (l:List Pk) (A:Int) (m:Nat):Nat:=if m<l.length then fst l (dayAt l m-A+1) else l.length
theorem fl {l:List Pk} (h:Up l) {A:Int} (hA:1<=A):Fl l.length (nx l A) (kk l A) where
  lt i hi:=(fst_lt h hi).2 (by omega)
  le i _:=fst_le _ _
  kle m:=by
    unfold kk
    split
    · rename_i hm
      rcases Nat.lt_or_ge m (fst l (dayAt l m-A+1)) with e | e
      · have:=(fst_lt h hm).1 e
        omega
      · exact e
    · omega
  iff i m hi hm:=by
    unfold kk nx
    split
    · rename_i hm
      rw [fst_lt h hi]
      have:=fst_lt h (t:=dayAt l i+A) hm
      omega
    · have:=fst_le l (dayAt l i+A)
      omega
end Pk
end Go.Nm
namespace Go.Nm
namespace Pk
theorem IsS.uniq {n:Nat} {nx kk:Nat->Nat} {v S S':Nat->Int} (F:Fl n nx kk) (h:IsS n v kk S) (h':IsS n v kk S'):∀ i,i<=n->S i=S' i:=by
  intro i
  induction i using Nat.strongRecOn with
  | _ i ih =>
    intro hi
    cases i with
    | zero=>rw [h.z,h'.z]
    | succ i =>
      have:=F.kle i
      rw [h.s i (by omega),h'.s i (by omega),ih i (by omega) (by omega),ih (kk i) (by omega) (by omega)]
variable {n:Nat} {nx kk:Nat->Nat} {v S:Nat->Int}
/-- Dues behind so many peaks. -/
def Du (n:Nat) (kk:Nat->Nat) (S:Nat->Int) (i:Nat) (out:Nat->Int):Prop:=∀ m,m<=n->sm out 0 m=S (min i (kk m))
theorem sm_range (d:Nat->Int) {a b:Nat} (h:a<=b):sm d a (b-a)=sm d 0 b-sm d 0 a:=by
  have:=sm_add d 0 a (b-a)
  rw [show a+(b-a)=b by omega,Nat.zero_add] at this
  omega
theorem sm_set (d:Nat->Int) (p:Nat) (x:Int) (m:Nat):sm (fun k=>if k=p then d k+x else d k) 0 m=sm d 0 m+(if p<m then x else 0):=by
  induction m with
  | zero=>simp [sm]
  | succ m ih =>
    simp only [sm,ih,Nat.zero_add]
    by_cases e:m=p
    · subst e; simp; omega
    · by_cases e':p<m
      · rw [if_neg e,if_pos e',if_pos (by omega)]; omega
      · rw [if_neg e,if_neg e',if_neg (by omega)]; omega
theorem sm_zero (a m:Nat):sm (fun _=>0) a m=0:=by
  induction m with
  | zero=>rfl
  | succ m ih=>simp [sm,ih]
theorem Du.z (hS:IsS n v kk S):Du n kk S 0 (fun _=>0):=by
  intro m _
  rw [Nat.zero_min,hS.z]
  exact sm_zero 0 m
/-- What a peak's days have when its turn comes. -/
theorem Du.has (F:Fl n nx kk) {i:Nat} {out:Nat->Int} (h:Du n kk S i out) (hi:i<n):sm out i (nx i-i)=S i-S (kk i):=by
  have l1:=F.lt i hi
  have l2:=F.le i hi
  have k1:=(F.iff i (nx i) hi l2).2 (Nat.le_refl _)
  have k2:=F.kle i
  rw [sm_range out (Nat.le_of_lt l1),h (nx i) l2,h i (by omega),Nat.min_eq_left (Nat.le_of_lt k1),Nat.min_eq_right k2]
theorem Du.step (F:Fl n nx kk) (hS:IsS n v kk S) {i:Nat} {out:Nat->Int} (h:Du n kk S i out) (hi:i<n) {p:Nat} (hp:p+1=nx i) {x:Int} (hx:x=max 0 (v i-sm out i (nx i-i))):Du n kk S (i+1) (fun k=>if k=p then out k+x else out k):=by
  intro m hm
  rw [sm_set,h m hm]
  rw [h.has F hi] at hx
  have e:=hS.s i hi
  have q:=F.iff i m hi hm
  by_cases c:i<kk m
  · have:=q.1 c
    rw [if_pos (by omega),Nat.min_eq_left (by omega),Nat.min_eq_left (by omega)]
    omega
  · rw [if_neg (by omega),Nat.min_eq_right (by omega),Nat.min_eq_right (by omega)]
    omega
theorem kk_n (F:Fl n nx kk):kk n=n:=by
  have h1:=F.kle n
  rcases Nat.lt_or_ge (kk n) n with e | e
  · have:=(F.iff (kk n) n e (Nat.le_refl _)).2 (F.le _ e)
    omega
  · omega
section
variable (F:Fl n nx kk) (hS:IsS n v kk S) {out:Nat->Int} (h:Du n kk S n out)
include F h in
theorem Du.pre {m:Nat} (hm:m<=n):sm out 0 m=S (kk m):=by
  rw [h m hm,Nat.min_eq_right (Nat.le_trans (F.kle m) hm)]
include F hS h
omit hS in theorem Du.sum:sm out 0 n=S n:=by rw [h.pre F (Nat.le_refl _),kk_n F]
omit hS in theorem Du.at {p:Nat} (hp:p<n):out p=S (kk (p+1))-S (kk p):=by
  have h1:=h.pre F (show p+1<=n from hp)
  have h2:=h.pre F (Nat.le_of_lt hp)
  simp only [sm,Nat.zero_add] at h1
  omega
theorem Du.most {c:Int} (hc:0<=c) (hv:∀ i,i<n->v i<=c) {p:Nat} (hp:p<n):out p<=c:=by
  rw [h.at F hp]
  have k:∀ j,kk p<=j->j<=kk (p+1)->S j<=S (kk p)+c:=by
    intro j hj
    induction hj with
    | refl=>intro _; omega
    | @step j hj ih =>
      intro hj2
      have:=ih (by omega)
      have hb:=F.kle (p+1)
      have e:=hS.s j (by omega)
      have q:=(F.iff j (p+1) (by omega) hp).1 (by omega)
      have:=F.lt j (by omega)
      have m1:=hS.mono (F.kmono (show j<=p by omega) (by omega)) (Nat.le_trans (F.kle p) (by omega))
      have:=hv j (by omega)
      rw [Nat.succ_eq_add_one]
      omega
  have:=k (kk (p+1)) (F.kmono (Nat.le_succ p) hp) (Nat.le_refl _)
  omega
end
end Pk
end Go.Nm
-- libO/OB.lean
namespace Go.Nm
namespace Bk
/-- What a recorded year says, where there is one. -/
def rec (ys:List Yr) (y:Int):Span:=match ys.find? (fun r=>r.year==y) with
  | some r=>⟨r.lo,r.hi⟩
  | none=>⟨0,2000⟩
/-- What an old note says besides. -/
def told (y:Int) (s:Span) (o:Old10):Span:=if o.src<=y/\y<=o.dst then (if o.passed.contains y then ⟨max s.lo o.stage,s.hi⟩ else ⟨s.lo,min s.hi (o.stage-1)⟩) else s
/-- The highest stages that a year can have: none if the least is above the greatest. -/
def kn (ys:List Yr) (os:List Old10) (y:Int):Span:=os.foldl (told y) (rec ys y)
/-- Whether a stage is one that a year can have, by what the notes say. -/
def can (ys:List Yr) (os:List Old10) (y x:Int):Bool:=(ys.all fun r=>!(r.year==y&&(decide (x<r.lo)||decide (x > r.hi))))&&(os.all fun o=>!(decide (o.src<=y)&&decide (y<=o.dst))||(o.passed.contains y==decide (o.stage<=x)))
structure OkY (f l:Int) (ys:List Yr):Prop where
  in_:∀ r∈ys,f<=r.year/\r.year<=l/\0<=r.lo/\r.lo<=r.hi/\r.hi<=2000
  up:ys.Pairwise fun a b=>a.year<b.year
structure OkO (f l:Int) (os:List Old10):Prop where
  in_:∀ o∈os,f<=o.src/\o.src<=o.dst/\o.dst<=l/\1<=o.stage/\o.stage<=2000
theorem rec_can {ys:List Yr} {f l y x:Int} (h:OkY f l ys) (h0:0<=x) (h1:x<=2000):(ys.all fun r=>!(r.year==y&&(decide (x<r.lo)||decide (x > r.hi))))=true↔(rec ys y).lo<=x/\x<=(rec ys y).hi:=by
  have hu:=h.up
  clear h
  unfold rec
  induction ys with
  | nil=>simp; omega
  | cons r ys ih =>
    obtain ⟨h2,h3⟩:=List.pairwise_cons.1 hu
    rw [List.all_cons,List.find?_cons]
    by_cases e:r.year=y
    · subst e
      have k:(ys.all fun r'=>!(r'.year==r.year&&(decide (x<r'.lo)||decide (x > r'.hi))))=true:=by
        rw [List.all_eq_true]
        intro r' hr
        have:=h2 r' hr
        have:(r'.year==r.year)=false:=by rw [beq_eq_false_iff_ne]; omega
        rw [this]; rfl
      simp only [beq_self_eq_true,k,Bool.and_true,Bool.true_and,Bool.not_eq_true',Bool.or_eq_false_iff,decide_eq_false_iff_not]
      omega
    · have e':(r.year==y)=false:=by rw [beq_eq_false_iff_ne]; exact e
      simp only [e',Bool.false_and,Bool.not_false,Bool.true_and]
      exact ih hu.of_cons
theorem told_can (y x:Int):∀ (os:List Old10) (s:Span),((s.lo<=x/\x<=s.hi)/\(os.all fun o=>!(decide (o.src<=y)&&decide (y<=o.dst))||(o.passed.contains y==decide (o.stage<=x)))=true)↔(os.foldl (told y) s).lo<=x/\x<=(os.foldl (told y) s).hi
  | [],s=>by simp
  | o :: os,s=>by
    rw [List.foldl_cons,← told_can y x os (told y s o),List.all_cons,Bool.and_eq_true,← and_assoc]
    refine and_congr_left fun _=>?_
    unfold told
    by_cases h:o.src<=y/\y<=o.dst
    · rw [if_pos h]
      simp only [h.1,h.2,decide_true,Bool.and_self,Bool.not_true,Bool.false_or,beq_iff_eq]
      by_cases c:o.passed.contains y=true
      · rw [if_pos c,c]
        by_cases d:o.stage<=x
        · simp only [d,decide_true,and_true]; omega
        · simp only [d,decide_false]; simp; omega
      · rw [if_neg c]
        rw [Bool.not_eq_true] at c
        rw [c]
        by_cases d:o.stage<=x
        · simp only [d,decide_true]; simp; omega
        · simp only [d,decide_false,and_true]; omega
    · rw [if_neg h]
      have:(!(decide (o.src<=y)&&decide (y<=o.dst)))=true:=by
        by_cases h1:o.src<=y
        · by_cases h2:y<=o.dst
          · exact absurd ⟨h1,h2⟩ h
          · simp [h2]
        · simp [h1]
      rw [this,Bool.true_or]
      simp
theorem can_iff {ys:List Yr} {os:List Old10} {f l y x:Int} (h:OkY f l ys) (h0:0<=x) (h1:x<=2000):can ys os y x=true↔(kn ys os y).lo<=x/\x<=(kn ys os y).hi:=by
  unfold can kn
  rw [Bool.and_eq_true,rec_can h h0 h1]
  exact told_can y x os (rec ys y)
end Bk
end Go.Nm
-- libO/OS.lean
namespace Go.Nm
structure SOk (c u x:Int):Prop where
  u0:0<=u
  u1:u<=c
  x0:0<=x
  x1:x<251
theorem SOk.mono {c d u x:Int} (h:SOk c u x) (hd:c<=d):SOk d u x:=⟨h.u0,Int.le_trans h.u1 hd,h.x0,h.x1⟩
/-- What a stream gives: a number below n. -/
structure Nx (c n:Int) (y:Int × Int × Int):Prop where
  ok:SOk c y.2.1 y.2.2
  lt:1<=n->0<=y.1/\y.1<n
  no:n<1->y.1=0
end Go.Nm
namespace Go.Proofs.YtpiebomegbbpcaaGreat
open Go Go.Nm
theorem next_out {b:List UInt8} {c u x n:Int} (h:SOk c u x) (hc:c<=1000000000000) (hn:n<=1000000):(zac b u x n).Out (Nx (c+1) n):=by
  obtain ⟨u0,u1,x0,x1⟩:=h
  unfold zac
  refine M.o_if (fun hb=>?_) (fun hb=>?_)
  · simp only [Bool.or_eq_true,decide_eq_true_eq,beq_iff_eq] at hb
    refine M.o_pure ⟨⟨u0,by dsimp only; omega,x0,x1⟩,fun h1=>⟨Int.le_refl _,?_⟩,fun _=>rfl⟩
    dsimp only
    omega
  · simp only [Bool.or_eq_false_iff,decide_eq_false_iff_not,beq_eq_false_iff_ne,ne_eq] at hb
    have hl:(0:Int)<(b.length:Int):=by omega
    have m0:=Int.emod_nonneg u (show (b.length:Int) ≠ 0 by omega)
    have m1:=Int.emod_lt_of_pos u hl
    have d0:=Int.ediv_nonneg u0 (show (0:Int)<=(b.length:Int) by omega)
    have d1:u / (b.length:Int)<=u:=Int.ediv_le_self _ u0
    have y1:((b.getD (Int.toNat (u % (b.length:Int))) 0).toNat:Int)<256:=by
      have:=UInt8.toNat_lt (b.getD (Int.toNat (u % (b.length:Int))) 0)
      omega
    have y0:(0:Int)<=((b.getD (Int.toNat (u % (b.length:Int))) 0).toNat:Int):=Int.natCast_nonneg _
    generalize ((b.getD (Int.toNat (u % (b.length:Int))) 0).toNat:Int)=y at *
    generalize u % (b.length:Int)=m at *
    generalize u / (b.length:Int)=d at *
    have hn0:0<n:=by omega
    have fin:∀ z:Int,0<=z->0<=z % n/\z % n<n:=fun z hz=>⟨Int.emod_nonneg _ (by omega),Int.emod_lt_of_pos _ hn0⟩
    have pr:∀ z w:Int,0<=z->Nx (c+1) n (z % n,u+1,w % 251):=fun z w hz=>⟨⟨by dsimp only; omega,by dsimp only; omega,by dsimp only; omega,by dsimp only; omega⟩,fun _=>fin z hz,fun h=>by omega⟩
    refine M.o_grd (by simp only [Bool.and_eq_true,decide_eq_true_eq]; omega) (M.o_grd (by simp only [Bool.and_eq_true,decide_eq_true_eq]; omega) (M.o_grd (by simp only [Bool.and_eq_true,decide_eq_true_eq]; omega) ?_))
    refine M.o_if (fun h1=>?_) (fun h1=>?_)
    · refine M.o_grd (by simp only [Bool.and_eq_true,decide_eq_true_eq]; omega) (M.o_grd (by simp only [Bool.and_eq_true,decide_eq_true_eq]; omega) (M.o_grd (by simp only [Bool.and_eq_true,decide_eq_true_eq]; omega) (M.o_grd (by simp only [Bool.and_eq_true,decide_eq_true_eq]; omega) (M.o_grd (by simp only [Bool.and_eq_true,decide_eq_true_eq]; omega) ?_))))
      refine M.o_grd (by simp only [Bool.and_eq_true,decide_eq_true_eq]; omega) (M.o_grd (by simp only [Bool.and_eq_true,decide_eq_true_eq]; omega) (M.o_grd (by simp only [Bool.and_eq_true,decide_eq_true_eq]; omega) (M.o_grd (by simp only [Bool.and_eq_true,decide_eq_true_eq]; omega) ?_)))
      refine M.o_if (fun h2=>?_) (fun h2=>?_)
      · refine M.o_grd (by simp only [Bool.and_eq_true,decide_eq_true_eq]; omega) (M.o_grd (by simp only [Bool.and_eq_true,decide_eq_true_eq]; omega) (M.o_grd (by simp only [Bool.and_eq_true,decide_eq_true_eq]; omega) (M.o_pure (pr _ _ (by omega)))))
      · refine M.o_grd (by simp only [Bool.and_eq_true,decide_eq_true_eq]; omega) (M.o_pure (pr _ _ (by omega)))
    · refine M.o_grd (by simp only [Bool.and_eq_true,decide_eq_true_eq]; omega) (M.o_grd (by simp only [Bool.and_eq_true,decide_eq_true_eq]; omega) (M.o_grd (by simp only [Bool.and_eq_true,decide_eq_true_eq]; omega) (M.o_grd (by simp only [Bool.and_eq_true,decide_eq_true_eq]; omega) (M.o_grd (by simp only [Bool.and_eq_true,decide_eq_true_eq]; omega) ?_))))
      refine M.o_if (fun h2=>?_) (fun h2=>?_)
      · refine M.o_grd (by simp only [Bool.and_eq_true,decide_eq_true_eq]; omega) (M.o_grd (by simp only [Bool.and_eq_true,decide_eq_true_eq]; omega) (M.o_grd (by simp only [Bool.and_eq_true,decide_eq_true_eq]; omega) (M.o_pure (pr _ _ (by omega)))))
      · refine M.o_grd (by simp only [Bool.and_eq_true,decide_eq_true_eq]; omega) (M.o_pure (pr _ _ (by omega)))
theorem within_out {b:List UInt8} {c u x lo hi:Int} (h:SOk c u x) (hc:c<=1000000000000) (h0:-1000<=lo) (h1:lo<=hi) (h2:hi<=10000):(zag b u x lo hi).Out (fun y=>SOk (c+1) y.2.1 y.2.2/\lo<=y.1/\y.1<=hi):=by
  unfold zag
  refine M.o_grd (gA2 (by omega) (by omega)) (M.o_grd (gA2 (by omega) (by omega)) (M.o_bind (next_out h hc (by omega)) ?_))
  rintro ⟨r,u',x'⟩ ⟨k,hl,_⟩
  have:=hl (by omega)
  dsimp only at this k ⊢
  exact M.o_grd (gA2 (by omega) (by omega)) (M.o_pure ⟨k,by dsimp only; omega,by dsimp only; omega⟩)
end Go.Proofs.YtpiebomegbbpcaaGreat
-- libO/OR.lean
namespace Go.Nm
theorem SOk.zero:SOk 0 0 0:=⟨Int.le_refl _,Int.le_refl _,Int.le_refl _,by decide⟩
end Go.Nm
namespace Go.Proofs.YtpiebomegbbpcaaGreat
open Go Go.Nm
theorem pick_num {v n:Int} (h:1<=n/\n<=1000000):(zaq v n).Out (fun r=>0<=r/\r<n):=by
  unfold zaq
  have h1:Int.tmod v n<n:=Int.tmod_lt_of_pos v (by omega)
  have h2:-n<Int.tmod v n:=by
    have:=Int.tmod_lt_of_pos (-v) (show 0<n by omega)
    rw [Int.neg_tmod] at this
    omega
  refine M.o_f (decide_eq_false (by omega)) (M.o_grdD (by omega) (M.o_if (fun hb=>?_) (fun hb=>?_)))
  · have:=of_decide_eq_true hb
    exact M.o_grd (gA2 (by omega) (by omega)) (M.o_pure (by omega))
  · have:=of_decide_eq_false hb
    exact M.o_pure (by omega)
end Go.Proofs.YtpiebomegbbpcaaGreat
-- libO/OW.lean
namespace Go.Proofs.YtpiebomegbbpcaaGreat
open Go Go.Nm
theorem awake_ends:(zbn).Ends true:=⟨300,by kernel_rfl⟩
end Go.Proofs.YtpiebomegbbpcaaGreat
-- libO/QA.lean
namespace Go.Nm
namespace Pk
/-- The first that is not 0. -/
def fe (f:Nat->Int):Nat->Int
  | 0=>0
  | n+1=>if fe f n ≠ 0 then fe f n else f n
theorem fe_all {f:Nat->Int}:∀ {n:Nat},fe f n=0↔∀ i,i<n->f i=0
  | 0=>by simp [fe]
  | n + 1 => by
    have ih:=fe_all (f:=f) (n:=n)
    unfold fe
    constructor
    · intro h i hi
      split at h
      · rename_i h1; exact absurd h h1
      · rename_i h1
        rcases Nat.lt_or_eq_of_le (Nat.le_of_lt_succ hi) with e | e
        · exact ih.1 (Classical.not_not.1 h1) i e
        · rw [e]; exact h
    · intro h
      have h1:=ih.2 fun i hi=>h i (by omega)
      rw [if_neg (by rw [h1]; simp)]
      exact h n (by omega)
theorem fe_stop {f:Nat->Int} {i:Nat} (h0:fe f i=0) (h:f i ≠ 0):∀ {n:Nat},i<n->fe f n=f i
  | 0,hn=>by omega
  | n+1,hn=>by
    unfold fe
    rcases Nat.lt_or_eq_of_le (Nat.le_of_lt_succ hn) with e | e
    · have ih:=fe_stop h0 h e
      rw [if_pos (by rw [ih]; exact h),ih]
    · subst e
      rw [if_neg (by rw [h0]; simp)]
def pkB (p:Pk):Bool:=(decide (0<=p.day)&&decide (p.day<=4000))&&(decide (0<=p.stage)&&decide (p.stage<=2000))
def errP (l:List Pk) (i:Nat):Int:=if pkB (l.getD i default)=false then 110 else if 0<i/\(l.getD i default).day<=(l.getD (i-1) default).day then 9 else 0
def chkP (l:List Pk):Int:=if 40<l.length then 3 else fe (errP l) l.length
/-- Peaks that are right. -/
structure Ok (l:List Pk):Prop where
  few:l.length<=40
  day:∀ i,i<l.length->0<=dayAt l i/\dayAt l i<=4000
  st:∀ i,i<l.length->0<=stAt l i/\stAt l i<=2000
  up:Up l
theorem chk_ok {l:List Pk} (h:chkP l=0):Ok l:=by
  unfold chkP at h
  split at h
  · cases h
  · rename_i h40
    have k:=fe_all.1 h
    have k1:∀ i,i<l.length->pkB (l.getD i default)=true/\(0<i->dayAt l (i-1)<dayAt l i):=by
      intro i hi
      have:=k i hi
      unfold errP at this
      split at this
      · cases this
      · rename_i h1
        split at this
        · cases this
        · rename_i h2
          refine ⟨by simpa using h1,fun h0=>?_⟩
          unfold dayAt
          omega
    have k2:∀ i,i<l.length->(0<=dayAt l i/\dayAt l i<=4000)/\(0<=stAt l i/\stAt l i<=2000):=by
      intro i hi
      have:=(k1 i hi).1
      simpa [pkB,dayAt,stAt] using this
    refine ⟨by omega,fun i hi=>(k2 i hi).1,fun i hi=>(k2 i hi).2,?_⟩
    intro i j hij hj
    induction j with
    | zero=>omega
    | succ j ih =>
      have h1:=(k1 (j+1) hj).2 (by omega)
      simp only [Nat.add_sub_cancel] at h1
      rcases Nat.lt_or_eq_of_le (Nat.le_of_lt_succ hij) with e | e
      · have:=ih e (by omega)
        omega
      · subst e; exact h1
def askP (l:List Pk) (A T:Int):Int:=if chkP l ≠ 0 then chkP l else if (1<=A/\A<=60)/\(0<=T/\T<=2000) then 0 else 4
end Pk
end Go.Nm
namespace Go.Proofs.YtpiebomegbbpcaaGreat
open Go Go.Nm
theorem in_ends (x a b:Int):(zaa x a b).Ends (decide (a<=x)&&decide (x<=b)):=M.i_pure
theorem gI2 {c:Bool} {p q:Prop} [Decidable p] [Decidable q] (h:c=true->p/\q):(!c||(decide p&&decide q))=true:=by
  cases c with
  | true=>exact gA2 (h rfl).1 (h rfl).2
  | false=>rfl
end Go.Proofs.YtpiebomegbbpcaaGreat
-- libO/QB.lean
namespace Go.Nm
namespace Pk
end Pk
end Go.Nm
namespace Go.Proofs.YtpiebomegbbpcaaGreat
open Go Go.Nm
variable {l:List Pk} {A T:Int}
/-- What a peak has above the threshold. -/
def vP (l:List Pk) (T:Int) (i:Nat):Int:=Pk.stAt l i-T
end Go.Proofs.YtpiebomegbbpcaaGreat
-- libO/QC.lean
namespace Go.Nm
namespace Pk
def cA (c:List Int) (k:Nat):Nat:=Int.toNat (c.getD k 0)
/-- A choice: a strictly increasing list of peaks. -/
def Ris (n:Nat) (c:List Int):Prop:=∀ k,k<c.length->0<=c.getD k 0/\c.getD k 0<n/\(0<k->c.getD (k-1) 0<c.getD k 0)
/-- Of floods of their own, each above the threshold. -/
def Good (l:List Pk) (A T:Int) (c:List Int):Prop:=∀ k,k<c.length->T<stAt l (cA c k)/\(0<k->A<=dayAt l (cA c k)-dayAt l (cA c (k-1)))
def wS (l:List Pk) (T:Int) (c:List Int):Nat->Int
  | 0=>0
  | k+1=>wS l T c k+(stAt l (cA c k)-T)
theorem Ris.low {n:Nat} {c:List Int} (h:Ris n c):∀ k:Nat,k<c.length->(k:Int)<=c.getD k 0
  | 0,hk=>by have:=(h 0 hk).1; omega
  | k+1,hk=>by
    have ih:=h.low k (by omega)
    have:=(h (k+1) hk).2.2 (by omega)
    rw [Nat.add_sub_cancel] at this
    omega
theorem Ris.few {n:Nat} {c:List Int} (h:Ris n c):c.length<=n:=by
  rcases Nat.eq_zero_or_pos c.length with e | e
  · omega
  · have h1:=h.low (c.length-1) (by omega)
    have h2:=h (c.length-1) (by omega)
    omega
theorem Ris.mono {n:Nat} {c:List Int} (h:Ris n c) {j k:Nat} (hjk:j<k) (hk:k<c.length):c.getD j 0<c.getD k 0:=by
  induction k with
  | zero=>omega
  | succ k ih =>
    have h1:=(h (k+1) hk).2.2 (by omega)
    rw [Nat.add_sub_cancel] at h1
    rcases Nat.lt_or_eq_of_le (Nat.le_of_lt_succ hjk) with e | e
    · have:=ih e (by omega)
      omega
    · rw [e]; exact h1
theorem Ris.at_ {n:Nat} {c:List Int} (h:Ris n c) {k:Nat} (hk:k<c.length):cA c k<n:=by
  have:=h k hk
  unfold cA
  omega
/-- What is said of a worth. -/
structure WoE (l:List Pk) (A T:Int) (c:List Int) (y:Int × Int):Prop where
  ask:askP l A T ≠ 0->y=(0,askP l A T)
  arg:askP l A T=0->¬ Ris l.length c->y=(0,2)
  bad:askP l A T=0->Ris l.length c->¬ Good l A T c->y=(0,7)
  ok:askP l A T=0->Ris l.length c->Good l A T c->y=(wS l T c c.length,0)
theorem WoE.uniq {l:List Pk} {A T:Int} {c:List Int} {y y':Int × Int} (h:WoE l A T c y) (h':WoE l A T c y'):y=y':=by
  by_cases h0:askP l A T=0
  · by_cases h1:Ris l.length c
    · by_cases h2:Good l A T c
      · rw [h.ok h0 h1 h2,h'.ok h0 h1 h2]
      · rw [h.bad h0 h1 h2,h'.bad h0 h1 h2]
    · rw [h.arg h0 h1,h'.arg h0 h1]
  · rw [h.ask h0,h'.ask h0]
end Pk
end Go.Nm
namespace Go.Proofs.YtpiebomegbbpcaaGreat
open Go Go.Nm
variable {l:List Pk} {A T:Int}
end Go.Proofs.YtpiebomegbbpcaaGreat
-- libO/QD.lean
namespace Go.Nm
namespace Pk
variable {l:List Pk} {A T:Int} {c:List Int}
theorem getD_app (c:List Int) (x:Int) (k:Nat):(c++[x]).getD k 0=if k<c.length then c.getD k 0 else if k=c.length then x else 0:=by
  simp only [List.getD_eq_getElem?_getD]
  by_cases h:k<c.length
  · rw [if_pos h,List.getElem?_append_left h]
  · rw [if_neg h,List.getElem?_append_right (by omega)]
    by_cases e:k=c.length
    · subst e; simp
    · rw [if_neg e,List.getElem?_eq_none (by simp; omega)]; rfl
theorem Ris.app {n:Nat} (h:Ris n c) {x:Nat} (hx:x<n) (hl:0<c.length->cA c (c.length-1)<x):Ris n (c++[(x:Int)]):=by
  intro k hk
  rw [List.length_append,List.length_singleton] at hk
  rw [getD_app,getD_app]
  by_cases e:k<c.length
  · rw [if_pos e,if_pos (by omega)]
    exact h k e
  · obtain rfl:k=c.length:=by omega
    rw [if_neg (by omega),if_pos rfl]
    refine ⟨by omega,by omega,fun h0=>?_⟩
    rw [if_pos (by omega)]
    have h1:=hl h0
    have h2:=h (c.length-1) (by omega)
    unfold cA at h1
    omega
theorem cA_app {k x:Nat} (h:k<=c.length):cA (c++[(x:Int)]) k=if k<c.length then cA c k else x:=by
  unfold cA
  rw [getD_app]
  by_cases e:k<c.length
  · rw [if_pos e,if_pos e]
  · rw [if_neg e,if_neg e,if_pos (by omega)]
    omega
theorem Good.app (h:Good l A T c) {x:Nat} (h1:T<stAt l x) (h2:0<c.length->A<=dayAt l x-dayAt l (cA c (c.length-1))):Good l A T (c++[(x:Int)]):=by
  intro k hk
  rw [List.length_append,List.length_singleton] at hk
  rw [cA_app (by omega),cA_app (by omega)]
  by_cases e:k<c.length
  · rw [if_pos e,if_pos (by omega)]
    exact h k e
  · obtain rfl:k=c.length:=by omega
    rw [if_neg (by omega)]
    refine ⟨h1,fun h0=>?_⟩
    rw [if_pos (by omega)]
    exact h2 h0
end Pk
end Go.Nm
namespace Go.Proofs.YtpiebomegbbpcaaGreat
open Go Go.Nm
variable {l:List Pk} {A T:Int}
end Go.Proofs.YtpiebomegbbpcaaGreat
-- libO/QE.lean
namespace Go.Proofs.YtpiebomegbbpcaaGreat
open Go Go.Nm
variable {l:List Pk} {A T:Int}
/-- Dues that prove something. -/
def Prv (l:List Pk) (A T:Int) (d:List Int):Prop:=∀ i,i<l.length->vP l T i<=Pk.sm (fun k=>d.getD k 0) i (Pk.nx l A i-i)
def DuR (d:List Int):Prop:=∀ i,i<d.length->0<=d.getD i 0/\d.getD i 0<=2000
structure PrE (l:List Pk) (A T w:Int) (d:List Int) (y:Bool × Int):Prop where
  ask:Pk.askP l A T ≠ 0->y=(false,Pk.askP l A T)
  len:Pk.askP l A T=0->d.length ≠ l.length->y=(false,2)
  rng:Pk.askP l A T=0->d.length=l.length->¬ DuR d->y=(false,4)
  ok:Pk.askP l A T=0->d.length=l.length->DuR d->y.2=0/\(y.1=true↔Prv l A T d/\Pk.sm (fun k=>d.getD k 0) 0 l.length<=w)
theorem PrE.uniq {w:Int} {d:List Int} {y y':Bool × Int} (h:PrE l A T w d y) (h':PrE l A T w d y'):y=y':=by
  by_cases h0:Pk.askP l A T=0
  · by_cases h1:d.length=l.length
    · by_cases h2:DuR d
      · obtain ⟨a1,a2⟩:=h.ok h0 h1 h2
        obtain ⟨b1,b2⟩:=h'.ok h0 h1 h2
        have e:y.1=y'.1:=by
          cases c1:y.1 <;> cases c2:y'.1
          · rfl
          · rw [c1] at a2; rw [c2] at b2
            exact a2.2 (b2.1 rfl)
          · rw [c1] at a2; rw [c2] at b2
            exact (b2.2 (a2.1 rfl)).symm
          · rfl
        exact Prod.ext e (by rw [a1,b1])
      · rw [h.rng h0 h1 h2,h'.rng h0 h1 h2]
    · rw [h.len h0 h1,h'.len h0 h1]
  · rw [h.ask h0,h'.ask h0]
theorem index_int {s:List Int} {f:Int->M Bool} {q:Int->Bool} (hl:s.length<=1000000) (h:∀ x,x∈s->(f x).Ends (q x)):∃ r,(zat s f).Ends r/\decide (0<=r)=s.any q:=by
  have out:(zat s f).Out (fun r=>decide (0<=r)=s.any q):=by
    unfold zat
    refine M.o_bind (P:=fun y=>match y with | .inl r=>decide (0<=r)=s.any q | .inr (_:Unit)=>s.any q=false) ?_ ?_
    · refine M.o_for s.length (fun i (k:Nat)=>k=i/\(s.take i).any q=false) ?_ ?_ ⟨rfl,by simp⟩
      · rintro i k hi ⟨rfl,hJ⟩
        simp only [zan]
        have hm:s.getD k 0∈s:=by rw [getD_el s hi]; exact List.getElem_mem hi
        refine M.o_t (decide_eq_true (by omega)) (M.o_grdD (by omega) (M.o_bindE (h _ hm) (M.o_if (fun hb=>?_) (fun hb=>?_))))
        · refine M.o_pure ?_
          dsimp only
          rw [show s.any q=true from List.any_eq_true.2 ⟨_,hm,hb⟩]
          exact decide_eq_true (by omega)
        · refine M.o_pure ⟨rfl,?_⟩
          rw [← take_succ_D s k hi 0,List.any_append,hJ]
          simp only [List.any_cons,List.any_nil,Bool.or_false,Bool.false_or]
          exact hb
      · rintro k ⟨rfl,hJ⟩
        simp only [zan]
        rw [List.take_length] at hJ
        exact M.o_f (by simp) (M.o_pure hJ)
    · intro y hy
      cases y with
      | inl r=>exact M.o_pure hy
      | inr u=>exact M.o_pure (by show decide ((0:Int)<=-1)=s.any q; rw [show s.any q=false from hy]; rfl)
  exact out
theorem every_int {s:List Int} {so:Int->M Bool} {p:Int->Bool} (hl:s.length<=1000000) (h:∀ x,x∈s->(so x).Ends (p x)):(zaY s so).Ends (s.all p):=by
  unfold zaY zaS
  obtain ⟨r,h1,h2⟩:=index_int (s:=s) (f:=fun x=>zbg x so) (q:=fun x=>!(p x)) hl (fun x hx=>by unfold zbg; exact M.i_bind (h x hx) M.i_pure)
  refine M.i_bind (M.i_bind h1 M.i_pure) ?_
  rw [h2,List.any_eq_not_all_not]
  simp only [Bool.not_not]
  exact M.i_pure
theorem dur_all {d:List Int}:(d.all fun n=>decide (0<=n)&&decide (n<=2000))=true↔DuR d:=by
  rw [List.all_eq_true]
  constructor
  · intro h i hi
    have:=h (d.getD i 0) (by rw [getD_el d hi]; exact List.getElem_mem hi)
    rwa [Bool.and_eq_true,decide_eq_true_eq,decide_eq_true_eq] at this
  · intro h x hx
    obtain ⟨i,hi,rfl⟩:=mem_getD hx 0
    have:=h i hi
    exact gA2 this.1 this.2
end Go.Proofs.YtpiebomegbbpcaaGreat
-- libO/BA.lean
namespace Go.Nm
/-- A loop that looks at one after the other, till one is not so. -/
theorem M.o_scan {ρ:Type} {body:Nat->M (Nat ⊕ ρ)} {Q:ρ->Prop} (n:Nat) (p:Nat->Prop) (h:∀ s,s<n->(∀ k,k<s->p k)->(body s).Out (fun x=>match x with | .inl s'=>s'=s+1/\p s | .inr r=>Q r))
    (he:(∀ k,k<n->p k)->(body n).Out (fun x=>match x with | .inl _=>False | .inr r=>Q r)):(M.iter body 0).Out Q:=by
  refine M.o_for n (fun i (s:Nat)=>s=i/\∀ k,k<i->p k) ?_ ?_ ⟨rfl,fun k hk=>by omega⟩
  · rintro i s hi ⟨rfl,hp⟩
    refine M.o_mono (h s hi hp) ?_
    intro x hx
    cases x with
    | inl s' =>
      refine ⟨hx.1,fun k hk=>?_⟩
      rcases Nat.lt_or_eq_of_le (Nat.le_of_lt_succ hk) with e | e
      · exact hp k e
      · subst e; exact hx.2
    | inr r=>exact hx
  · rintro s ⟨rfl,hp⟩
    refine M.o_mono (he hp) ?_
    intro x hx
    cases x with
    | inl u=>exact hx.elim
    | inr r=>exact hx
theorem M.Out.ends {α:Type} {m:M α} {a:α} (h:m.Out (fun r=>r=a)):m.Ends a:=by
  obtain ⟨r,h1,rfl⟩:=h
  exact h1
namespace Bk
def frB (f l:Int):Bool:=((decide (0<=f)&&decide (f<=l))&&(decide (0<=l)&&decide (l<=3000)))&&decide (l-f<1000)
def fewO (o:Old10):Bool:=decide ((o.passed.length:Int)<=10)
def yrB (f l:Int) (r:Yr):Bool:=((decide (f<=r.year)&&decide (r.year<=l))&&(decide (0<=r.lo)&&decide (r.lo<=r.hi)))&&(decide (0<=r.hi)&&decide (r.hi<=2000))
def errY (f l:Int) (ys:List Yr) (i:Nat):Int:=if yrB f l (ys.getD i default)=false then 110 else if 0<i/\(ys.getD i default).year<=(ys.getD (i-1) default).year then 9 else 0
/-- Strictly increasing, from a first to a last number. -/
def Rin (l:List Int) (a b:Int):Prop:=∀ i,i<l.length->(a<=l.getD i 0/\l.getD i 0<=b)/\(0<i->l.getD (i-1) 0<l.getD i 0)
instance (l:List Int) (a b:Int):Decidable (Rin l a b):=inferInstanceAs (Decidable (∀ i,i<l.length->_))
def oB (f l:Int) (o:Old10):Bool:=(((decide (f<=o.src)&&decide (o.src<=o.dst))&&(decide (f<=o.dst)&&decide (o.dst<=l)))&&(decide (1<=o.stage)&&decide (o.stage<=2000)))&&decide (Rin o.passed o.src o.dst)
def chkB (ys:List Yr) (os:List Old10) (f l:Int):Int :=
  if frB f l=false then 110 else if 60<ys.length∨8<os.length∨os.all fewO=false then 3 else if Pk.fe (errY f l ys) ys.length ≠ 0 then Pk.fe (errY f l ys) ys.length else if os.all (oB f l)=false then 110 else 0
/-- Books that are right. -/
structure Ok (ys:List Yr) (os:List Old10) (f l:Int):Prop where
  f0:0<=f
  fl:f<=l
  l3:l<=3000
  ln:l-f<1000
  y60:ys.length<=60
  o8:os.length<=8
  few:∀ o∈os,o.passed.length<=10
  y:OkY f l ys
  o:OkO f l os
  ris:∀ o∈os,Rin o.passed o.src o.dst
theorem chk_ok {ys:List Yr} {os:List Old10} {f l:Int} (h:chkB ys os f l=0):Ok ys os f l:=by
  unfold chkB at h
  split at h
  · cases h
  · rename_i h1
    rw [Bool.not_eq_false] at h1
    split at h
    · cases h
    · rename_i h2
      split at h
      · rename_i h3; exact absurd h h3
      · rename_i h3
        split at h
        · cases h
        · rename_i h4
          rw [Bool.not_eq_false] at h4
          have h1:((0<=f/\f<=l)/\(0<=l/\l<=3000))/\l-f<1000:=by simpa [frB] using h1
          have hf:os.all fewO=true:=by
            cases e:os.all fewO with
            | true=>rfl
            | false=>exact absurd (.inr (.inr e)) h2
          have k:=Pk.fe_all.1 (Classical.not_not.1 h3)
          have k1:∀ i,i<ys.length->yrB f l (ys.getD i default)=true/\(0<i->(ys.getD (i-1) default).year<(ys.getD i default).year):=by
            intro i hi
            have:=k i hi
            unfold errY at this
            split at this
            · cases this
            · rename_i h1
              split at this
              · cases this
              · rename_i h2
                refine ⟨by simpa using h1,fun h0=>?_⟩
                omega
          refine ⟨h1.1.1.1,h1.1.1.2,h1.1.2.2,h1.2,by omega,by omega,fun o ho=>?_,⟨fun r hr=>?_,?_⟩,⟨fun o ho=>?_⟩,fun o ho=>?_⟩
          · have:=List.all_eq_true.1 hf o ho
            unfold fewO at this
            have:=of_decide_eq_true this
            omega
          · obtain ⟨i,hi,rfl⟩:=List.getElem_of_mem hr
            have:=(k1 i hi).1
            rw [List.getD_eq_getElem?_getD,List.getElem?_eq_getElem hi,Option.getD_some] at this
            have:((f<=ys[i].year/\ys[i].year<=l)/\(0<=ys[i].lo/\ys[i].lo<=ys[i].hi))/\(0<=ys[i].hi/\ys[i].hi<=2000):=by simpa [yrB] using this
            omega
          · have hup:∀ i j,i<j->j<ys.length->(ys.getD i default).year<(ys.getD j default).year:=by
              intro i j hij hj
              induction j with
              | zero=>omega
              | succ j ih =>
                have h1:=(k1 (j+1) hj).2 (by omega)
                simp only [Nat.add_sub_cancel] at h1
                rcases Nat.lt_or_eq_of_le (Nat.le_of_lt_succ hij) with e | e
                · have:=ih e (by omega)
                  omega
                · subst e; exact h1
            rw [List.pairwise_iff_getElem]
            intro i j hi hj hij
            have:=hup i j hij hj
            rwa [List.getD_eq_getElem?_getD,List.getElem?_eq_getElem hi,Option.getD_some,List.getD_eq_getElem?_getD,List.getElem?_eq_getElem hj,Option.getD_some] at this
          · have:=List.all_eq_true.1 h4 o ho
            have:(((f<=o.src/\o.src<=o.dst)/\(f<=o.dst/\o.dst<=l))/\(1<=o.stage/\o.stage<=2000))/\Rin o.passed o.src o.dst:=by simpa [oB] using this
            omega
          · have:=List.all_eq_true.1 h4 o ho
            have:(((f<=o.src/\o.src<=o.dst)/\(f<=o.dst/\o.dst<=l))/\(1<=o.stage/\o.stage<=2000))/\Rin o.passed o.src o.dst:=by simpa [oB] using this
            exact this.2
end Bk
end Go.Nm
namespace Go.Proofs.YtpiebomegbbpcaaGreat
open Go Go.Nm
theorem index_old {s:List Old10} {f:Old10->M Bool} {q:Old10->Bool} (hl:s.length<=1000000) (h:∀ x,x∈s->(f x).Ends (q x)):(zbN s f).Out (fun r=>decide (0<=r)=s.any q):=by
  unfold zbN
  refine M.o_bind (P:=fun y=>match y with | .inl i=>0<=i/\s.any q=true | .inr (_:Unit)=>s.any q=false) ?_ ?_
  · refine M.o_scan s.length (fun k=>q (s.getD k default)=false) ?_ ?_
    · intro k hk hp
      simp only [zaU]
      have e:s.getD k default=s[k]:=by rw [List.getD_eq_getElem?_getD,List.getElem?_eq_getElem hk,Option.getD_some]
      refine M.o_t (decide_eq_true (by omega)) (M.o_grdD (by omega) (M.o_bindE (h _ (by rw [e]; exact List.getElem_mem hk)) (M.o_if (fun hb=>?_) (fun hb=>?_))))
      · exact M.o_pure ⟨by omega,List.any_eq_true.2 ⟨_,by rw [e]; exact List.getElem_mem hk,hb⟩⟩
      · exact M.o_pure ⟨rfl,hb⟩
    · intro hp
      simp only [zaU]
      refine M.o_f (by simp) (M.o_pure ?_)
      rw [List.any_eq_false]
      intro x hx
      obtain ⟨i,hi,rfl⟩:=List.getElem_of_mem hx
      have:=hp i hi
      rw [List.getD_eq_getElem?_getD,List.getElem?_eq_getElem hi,Option.getD_some] at this
      simp [this]
  · intro y hy
    cases y with
    | inl i=>exact M.o_pure (by rw [hy.2]; exact decide_eq_true hy.1)
    | inr u=>exact M.o_pure (by rw [hy]; decide)
theorem every_old {s:List Old10} {so:Old10->M Bool} {p:Old10->Bool} (hl:s.length<=1000000) (h:∀ x,x∈s->(so x).Ends (p x)):(zaN s so).Ends (s.all p):=by
  unfold zaN zcw
  obtain ⟨r,h1,h2⟩:=index_old (s:=s) (f:=fun x=>zaH x so) (q:=fun x=>!(p x)) hl (fun x hx=>by unfold zaH; exact M.i_bind (h x hx) M.i_pure)
  refine M.i_bind (M.i_bind h1 M.i_pure) ?_
  rw [h2,List.any_eq_not_all_not]
  simp only [Bool.not_not]
  exact M.i_pure
theorem rising_ends (l:List Int) (a b:Int) (hb:b<=1000000) (ha:-1000000<=a):(zaz l a b).Ends (decide (Bk.Rin l a b)):=by
  refine M.Out.ends ?_
  unfold zaz
  refine M.o_bind (P:=fun y=>match y with | .inl (_:Unit)=>¬ Bk.Rin l a b | .inr (_:Unit)=>Bk.Rin l a b) ?_ ?_
  · refine M.o_for l.length (fun i (s:Int × Nat)=>s.2=i/\a<=s.1/\s.1=(if i=0 then a else l.getD (i-1) 0+1)/\∀ k,k<i->(a<=l.getD k 0/\l.getD k 0<=b)/\(0<k->l.getD (k-1) 0<l.getD k 0)) ?_ ?_ ⟨rfl,Int.le_refl _,rfl,fun k hk=>by omega⟩
    · rintro i ⟨x,s⟩ hi ⟨e1,e2,e3,e4⟩
      dsimp only at e1 e2 e3
      subst e1
      simp only [zbd]
      refine M.o_t (decide_eq_true (by omega)) (M.o_grdD (by omega) (M.o_bindE (in_ends _ _ _) (M.o_if (fun hc=>?_) (fun hc=>?_))))
      · rw [Bool.not_eq_true',Bool.and_eq_false_iff,decide_eq_false_iff_not,decide_eq_false_iff_not] at hc
        refine M.o_pure fun hR=>?_
        have:=hR s hi
        split at e3 <;> omega
      · rw [Bool.not_eq_false',Bool.and_eq_true,decide_eq_true_eq,decide_eq_true_eq] at hc
        refine M.o_grd (gA2 (by omega) (by omega)) (M.o_pure ⟨rfl,by dsimp only; omega,by rw [if_neg (by omega),Nat.add_sub_cancel],fun k hk=>?_⟩)
        rcases Nat.lt_or_eq_of_le (Nat.le_of_lt_succ hk) with e | e
        · exact e4 k e
        · subst e
          split at e3 <;> omega
    · rintro ⟨x,s⟩ ⟨e1,e2,e3,e4⟩
      dsimp only at e1 e2 e3
      subst e1
      simp only [zbd]
      exact M.o_f (by simp) (M.o_pure e4)
  · intro y hy
    cases y with
    | inl u=>exact M.o_pure (decide_eq_false hy).symm
    | inr u=>exact M.o_pure (decide_eq_true hy).symm
theorem yr_ends (ys:List Yr) (os:List Old10) (f l:Int) (r:Yr):(zbH ys os f l r).Ends (Bk.yrB f l r):=by
  unfold zbH Bk.yrB
  generalize ha:(decide (f<=r.year)&&decide (r.year<=l))=A
  generalize hb:(decide (0<=r.lo)&&decide (r.lo<=r.hi))=B
  generalize hc:(decide (0<=r.hi)&&decide (r.hi<=2000))=C
  have a1:=in_ends r.year f l
  have b1:=in_ends r.lo 0 r.hi
  have c1:=in_ends r.hi 0 2000
  rw [ha] at a1; rw [hb] at b1; rw [hc] at c1
  refine M.i_bind a1 (M.i_bind (a:=A&&B) (M.i_opt (fun h=>by rw [h]; exact b1) (fun h=>by rw [h]; rfl)) (M.i_bind (a:=(A&&(A&&B))&&C) (M.i_opt (fun h=>by rw [h]; exact c1) (fun h=>by rw [h]; rfl)) ?_))
  cases A <;> cases B <;> cases C <;> exact M.i_pure
theorem old_ends {ys:List Yr} {os:List Old10} {f l:Int} (hl:l<=3000) (hf:0<=f) (o:Old10):(za6 o ys os f l).Ends (Bk.oB f l o):=by
  unfold za6 zb7 Bk.oB
  generalize ha:(decide (f<=o.src)&&decide (o.src<=o.dst))=A
  generalize hb:(decide (f<=o.dst)&&decide (o.dst<=l))=B
  generalize hc:(decide (1<=o.stage)&&decide (o.stage<=2000))=C
  have a1:=in_ends o.src f o.dst
  have b1:=in_ends o.dst f l
  have c1:=in_ends o.stage 1 2000
  rw [ha] at a1; rw [hb] at b1; rw [hc] at c1
  have d1:A=true->B=true->(zaz o.passed o.src o.dst).Ends (decide (Bk.Rin o.passed o.src o.dst)):=by
    rintro rfl rfl
    rw [Bool.and_eq_true,decide_eq_true_eq,decide_eq_true_eq] at ha hb
    exact rising_ends _ _ _ (by omega) (by omega)
  generalize (decide (Bk.Rin o.passed o.src o.dst))=E at d1
  refine M.i_bind (M.i_bind a1 (M.i_bind (a:=A&&B) (M.i_opt (fun h=>by rw [h]; exact b1) (fun h=>by rw [h]; rfl)) (M.i_bind (a:=(A&&(A&&B))&&C) (M.i_opt (fun h=>by rw [h]; exact c1) (fun h=>by rw [h]; rfl)) (M.i_bind (a:=(((A&&(A&&B))&&((A&&(A&&B))&&C)))&&E) (M.i_opt (fun h=>?_) (fun h=>by rw [h]; rfl)) M.i_pure)))) ?_
  · rw [h]
    have:A=true/\B=true:=by cases A <;> cases B <;> simp_all
    exact d1 this.1 this.2
  · cases A <;> cases B <;> cases C <;> cases E <;> exact M.i_pure
theorem check_ends (ys:List Yr) (os:List Old10) (f l:Int) (hy:ys.length<=1000000) (ho:os.length<=1000000):(zbI ys os f l).Ends (Bk.chkB ys os f l):=by
  unfold zbI Bk.chkB
  refine M.i_bind (in_ends _ _ _) (M.i_bind (a:=(decide (0<=f)&&decide (f<=l))&&(decide (0<=l)&&decide (l<=3000))) (M.i_opt (fun h=>by rw [Bool.not_not] at h; rw [h]; exact in_ends _ _ _) (fun h=>by rw [Bool.not_not] at h; rw [h]; rfl)) ?_)
  have e1:((!(decide (0<=f)&&decide (f<=l)))||!((decide (0<=f)&&decide (f<=l))&&(decide (0<=l)&&decide (l<=3000)))) = !((decide (0<=f)&&decide (f<=l))&&(decide (0<=l)&&decide (l<=3000))):=by
    cases (decide (0<=f)&&decide (f<=l)) <;> rfl
  rw [e1]
  refine M.i_grd (gI2 fun h=>?_) ?_
  · rw [Bool.not_not,Bool.and_eq_true,Bool.and_eq_true,Bool.and_eq_true,decide_eq_true_eq,decide_eq_true_eq,decide_eq_true_eq,decide_eq_true_eq] at h
    omega
  have e2:((!((decide (0<=f)&&decide (f<=l))&&(decide (0<=l)&&decide (l<=3000))))||decide (1000<=l-f)) = !(Bk.frB f l):=by
    unfold Bk.frB
    rw [Bool.eq_iff_iff]
    simp only [Bool.or_eq_true,Bool.not_eq_true',Bool.and_eq_false_iff,decide_eq_true_eq,decide_eq_false_iff_not]
    omega
  rw [e2]
  refine M.i_if (fun h1=>?_) (fun h1=>?_)
  · rw [Bool.not_eq_true'] at h1
    rw [if_pos h1]
    exact M.i_pure
  · rw [Bool.not_eq_false'] at h1
    rw [if_neg (by rw [h1]; simp)]
    have hfl:0<=f/\l<=3000:=by
      have h1:((0<=f/\f<=l)/\(0<=l/\l<=3000))/\l-f<1000:=by simpa [Bk.frB] using h1
      exact ⟨h1.1.1.1,h1.1.2.2⟩
    have few:=every_old (s:=os) (so:=fun xqz=>zbW xqz) (p:=Bk.fewO) ho (fun o _=>M.i_pure)
    by_cases hm:60<ys.length∨8<os.length
    · have e3:(decide (60<(ys.length:Int))||decide (8<(os.length:Int)))=true:=by
        rw [Bool.or_eq_true,decide_eq_true_eq,decide_eq_true_eq]; omega
      rw [e3,if_pos (hm.elim (fun h=>.inl h) (fun h=>.inr (.inl h)))]
      exact M.i_bind (a:=false) (M.i_opt (fun h=>by cases h) (fun _=>rfl)) (M.i_t rfl M.i_pure)
    · have e3 : (decide (60 < (ys.length : Int)) || decide (8 < (os.length : Int))) = false := by
        rw [Bool.or_eq_false_iff,decide_eq_false_iff_not,decide_eq_false_iff_not]; omega
      rw [e3]
      refine M.i_bind (M.i_opt (fun _=>few) (fun h=>by cases h)) ?_
      cases hf:os.all Bk.fewO with
      | false =>
        rw [if_pos (.inr (.inr rfl))]
        exact M.i_t rfl M.i_pure
      | true =>
        rw [if_neg (fun h=>h.elim (fun h=>hm (.inl h)) (fun h=>h.elim (fun h=>hm (.inr h)) (fun h=>by cases h)))]
        refine M.i_f rfl ?_
        have out:(M.iter (zaA ys os f l) 0).Out (fun y=>(match y with | .inl s=>s ≠ 0/\s=Pk.fe (Bk.errY f l ys) ys.length | .inr (_:Unit)=>Pk.fe (Bk.errY f l ys) ys.length=0)):=by
          refine M.o_for ys.length (fun i s=>s=i/\Pk.fe (Bk.errY f l ys) i=0) ?_ ?_ ⟨rfl,rfl⟩
          · rintro i s hi ⟨rfl,h0⟩
            simp only [zaA]
            refine M.o_t (decide_eq_true (by omega)) (M.o_grdD (by omega) (M.o_bindE (yr_ends _ _ _ _ _) (M.o_if (fun h1=>?_) (fun h1=>?_))))
            · have e:Bk.errY f l ys s=110:=by unfold Bk.errY; rw [if_pos (by simpa using h1)]
              exact M.o_pure ⟨by decide,by rw [Pk.fe_stop h0 (by rw [e]; decide) hi,e]⟩
            · have h1:Bk.yrB f l (ys.getD s default)=true:=by simpa using h1
              refine M.o_grd (gI2 fun h=>by have:=of_decide_eq_true h; omega) (M.o_grd (gI2 fun h=>by have:=of_decide_eq_true h; omega) ?_)
              rw [show Int.toNat ((s:Int)-1)=s-1 by omega]
              refine M.o_if (fun h2=>?_) (fun h2=>?_)
              · rw [Bool.and_eq_true,decide_eq_true_eq,decide_eq_true_eq] at h2
                have e:Bk.errY f l ys s=9:=by unfold Bk.errY; rw [if_neg (by rw [h1]; simp),if_pos ⟨by omega,h2.2⟩]
                exact M.o_pure ⟨by decide,by rw [Pk.fe_stop h0 (by rw [e]; decide) hi,e]⟩
              · refine M.o_pure ⟨rfl,?_⟩
                have e:Bk.errY f l ys s=0:=by
                  unfold Bk.errY
                  rw [if_neg (by rw [h1]; simp),if_neg]
                  intro hh
                  rw [Bool.and_eq_false_iff,decide_eq_false_iff_not,decide_eq_false_iff_not] at h2
                  omega
                show (if Pk.fe (Bk.errY f l ys) s ≠ 0 then _ else _)=_
                rw [if_neg (by rw [h0]; simp),e]
          · rintro s ⟨rfl,h0⟩
            simp only [zaA]
            exact M.o_f (by simp) (M.o_pure h0)
        obtain ⟨y,g1,g2⟩:=out
        refine M.i_bind g1 ?_
        cases y with
        | inl s =>
          dsimp only at g2 ⊢
          rw [← g2.2,if_pos g2.1]; exact M.i_pure
        | inr u =>
          dsimp only at g2 ⊢
          rw [g2,if_neg (by simp)]
          refine M.i_bind (every_old ho fun o _=>old_ends hfl.2 hfl.1 o) ?_
          cases os.all (Bk.oB f l) with
          | true=>exact M.i_f rfl M.i_pure
          | false=>exact M.i_t rfl M.i_pure
end Go.Proofs.YtpiebomegbbpcaaGreat
-- libO/BB.lean
namespace Go.Nm
theorem lookM_map {κ ν:Type} [DecidableEq κ] (g:κ->ν->ν):∀ (m:List (κ × ν)) (k:κ),lookM (m.map fun p=>(p.1,g p.1 p.2)) k=(lookM m k).map (g k)
  | [],k=>rfl
  | p :: m,k=>by
    rw [List.map_cons]
    unfold lookM
    by_cases h:p.1=k
    · rw [if_pos h,if_pos h,h]; rfl
    · rw [if_neg h,if_neg h,lookM_map g m k]
namespace Bk
/-- The first year that can have none. -/
def First (ys:List Yr) (os:List Old10) (f l y:Int):Prop:=f<=y/\y<=l/\(kn ys os y).hi<(kn ys os y).lo/\∀ z,f<=z->z<y->(kn ys os z).lo<=(kn ys os z).hi
def Fine (ys:List Yr) (os:List Old10) (f l:Int):Prop:=∀ z,f<=z->z<=l->(kn ys os z).lo<=(kn ys os z).hi
theorem First.uniq {ys:List Yr} {os:List Old10} {f l y z:Int} (h:First ys os f l y) (k:First ys os f l z):y=z:=by
  obtain ⟨h1,h2,h3,h4⟩:=h
  obtain ⟨k1,k2,k3,k4⟩:=k
  rcases Int.lt_trichotomy y z with e | e | e
  · have:=k4 y h1 e; omega
  · exact e
  · have:=h4 z k1 e; omega
theorem First.bad {ys:List Yr} {os:List Old10} {f l y:Int} (h:First ys os f l y) (k:Fine ys os f l):False:=by
  obtain ⟨h1,h2,h3,h4⟩:=h
  have:=k y h1 h2
  omega
theorem rec_take {ys:List Yr} (hu:ys.Pairwise fun a b=>a.year<b.year) {s:Nat} (hs:s<ys.length) (y:Int):rec (ys.take (s+1)) y=if y=(ys.getD s default).year then ⟨(ys.getD s default).lo,(ys.getD s default).hi⟩ else rec (ys.take s) y:=by
  have e:ys.getD s default=ys[s]:=by rw [List.getD_eq_getElem?_getD,List.getElem?_eq_getElem hs,Option.getD_some]
  rw [e]
  unfold rec
  rw [← List.take_append_getElem hs,List.find?_append]
  by_cases hy:y=ys[s].year
  · rw [if_pos hy]
    have:(ys.take s).find? (fun r=>r.year==y)=none:=by
      rw [List.find?_eq_none]
      intro r hr
      obtain ⟨i,hi,rfl⟩:=List.getElem_of_mem hr
      rw [List.length_take] at hi
      rw [List.getElem_take]
      have:=List.pairwise_iff_getElem.1 hu i s (by omega) hs (by omega)
      rw [beq_iff_eq]
      omega
    rw [this]
    simp [hy]
  · rw [if_neg hy]
    have:(ys[s].year==y)=false:=by rw [beq_eq_false_iff_ne]; exact fun h=>hy h.symm
    simp only [List.find?_cons,this,List.find?_nil,Option.or_none]
end Bk
end Go.Nm
namespace Go.Proofs.YtpiebomegbbpcaaGreat
open Go Go.Nm
variable {ys:List Yr} {os:List Old10} {f l:Int}
theorem index_in (s:List Int) (v:Int):(zbE s v).Out (fun r=>decide (0<=r)=s.contains v):=by
  unfold zbE
  refine M.o_bind (P:=fun y=>match y with | .inl i=>0<=i/\s.contains v=true | .inr (_:Unit)=>s.contains v=false) ?_ ?_
  · refine M.o_scan s.length (fun k=>s.getD k 0 ≠ v) ?_ ?_
    · intro k hk hp
      simp only [zaG]
      have e:s.getD k 0=s[k]:=by rw [List.getD_eq_getElem?_getD,List.getElem?_eq_getElem hk,Option.getD_some]
      refine M.o_t (decide_eq_true (by omega)) (M.o_grdD (by omega) (M.o_if (fun hb=>?_) (fun hb=>?_)))
      · refine M.o_pure ⟨by omega,?_⟩
        rw [List.contains_iff_mem,(beq_iff_eq.1 hb),e]
        exact List.getElem_mem hk
      · exact M.o_pure ⟨rfl,fun h=>(beq_eq_false_iff_ne.1 hb) h.symm⟩
    · intro hp
      simp only [zaG]
      refine M.o_f (by simp) (M.o_pure ?_)
      rw [← Bool.not_eq_true,List.contains_iff_mem]
      intro hx
      obtain ⟨i,hi,e⟩:=List.getElem_of_mem hx
      have:=hp i hi
      rw [List.getD_eq_getElem?_getD,List.getElem?_eq_getElem hi,Option.getD_some] at this
      exact this e
  · intro y hy
    cases y with
    | inl i=>exact M.o_pure (by rw [hy.2]; exact decide_eq_true hy.1)
    | inr u=>exact M.o_pure (by rw [hy]; decide)
theorem contains_ends (s:List Int) (v:Int):(zbj s v).Ends (s.contains v):=by
  unfold zbj
  obtain ⟨r,h1,h2⟩:=index_in s v
  exact M.i_bind h1 (by rw [h2]; exact M.i_pure)
theorem told_ends (h:Bk.OkO f l os) (ky:Int) (vl:Span):(za2 os ky vl).Ends (os.foldl (Bk.told ky) vl):=by
  refine M.Out.ends ?_
  unfold za2
  refine M.o_bind (P:=fun y=>(⟨y.1,y.2⟩:Span)=os.foldl (Bk.told ky) vl) ?_ (fun y e=>M.o_pure e)
  refine M.o_for os.length (fun i (s:Nat × Int × Int)=>s.1=i/\(⟨s.2.1,s.2.2⟩:Span)=(os.take i).foldl (Bk.told ky) vl) ?_ ?_ ⟨rfl,rfl⟩
  · rintro i ⟨s,a,b⟩ hi ⟨e1,e2⟩
    dsimp only at e1 e2
    subst e1
    simp only [za3]
    have e:os.getD s default=os[s]:=by rw [List.getD_eq_getElem?_getD,List.getElem?_eq_getElem hi,Option.getD_some]
    have ho:=h.in_ os[s] (List.getElem_mem hi)
    have et:(os.take (s+1)).foldl (Bk.told ky) vl=Bk.told ky ⟨a,b⟩ os[s]:=by
      rw [← List.take_append_getElem hi,List.foldl_append,← e2]; rfl
    rw [e]
    refine M.o_t (decide_eq_true (by omega)) (M.o_grdD (by omega) (M.o_bindE (in_ends _ _ _) (M.o_if (fun hb=>?_) (fun hb=>?_))))
    · rw [Bool.not_eq_true',Bool.and_eq_false_iff,decide_eq_false_iff_not,decide_eq_false_iff_not] at hb
      refine M.o_pure ⟨rfl,?_⟩
      rw [et,Bk.told,if_neg (by omega)]
    · rw [Bool.not_eq_false',Bool.and_eq_true,decide_eq_true_eq,decide_eq_true_eq] at hb
      refine M.o_bindE (contains_ends _ _) (M.o_if (fun hc=>?_) (fun hc=>?_))
      · refine M.o_pure ⟨rfl,?_⟩
        rw [et,Bk.told,if_pos hb,if_pos hc]
      · refine M.o_grd (gA2 (by omega) (by omega)) (M.o_pure ⟨rfl,?_⟩)
        rw [et,Bk.told,if_pos hb,if_neg (by rw [hc]; simp)]
  · rintro ⟨s,a,b⟩ ⟨e1,e2⟩
    dsimp only at e1 e2
    subst e1
    simp only [za3]
    rw [List.take_length] at e2
    exact M.o_f (by simp) (M.o_pure e2)
/-- What a book at work knows of its years. -/
def Knows (ys:List Yr) (os:List Old10) (f l:Int) (m:List (Int × Span)):Prop:=∀ y,f<=y->y<=l->(lookM m y).getD default=Bk.kn ys os y
theorem opened_bad (hy:ys.length<=1000000) (ho:os.length<=1000000) (h:Bk.chkB ys os f l ≠ 0):(zak ys os f l).Ends (.inl (Bk.chkB ys os f l)):=by
  unfold zak
  exact M.i_bind (check_ends ys os f l hy ho) (M.i_t (bne_iff_ne.2 h) M.i_pure)
theorem opened_ok (hy:ys.length<=1000000) (ho:os.length<=1000000) (h0:Bk.chkB ys os f l=0):∃ m,(zak ys os f l).Ends (.inr (f,l,m,0))/\Knows ys os f l m:=by
  have h:=Bk.chk_ok h0
  have hf0:=h.f0
  have hfl:=h.fl
  have hl3:=h.l3
  obtain ⟨m1,g1,k1⟩:(M.iter (zaw l) (([]:List (Int × Span)),f)).Out (fun m=>∀ y,f<=y->y<=l->lookM m y=some ⟨0,2000⟩):=by
    refine M.o_for (Int.toNat (l+1-f)) (fun i (s:List (Int × Span) × Int)=>s.2=f+i/\∀ y,f<=y->y<f+i->lookM s.1 y=some ⟨0,2000⟩) ?_ ?_ ⟨by simp,fun y h1 h2=>by simp at h2; omega⟩
    · rintro i ⟨m,y⟩ hi ⟨e1,e2⟩
      dsimp only at e1 e2
      subst e1
      simp only [zaw]
      refine M.o_t (decide_eq_true (by omega)) (M.o_grd (gA2 (by omega) (by omega)) (M.o_pure ⟨by dsimp only; omega,fun z h1 h2=>?_⟩))
      rw [lookM_set]
      split
      · rfl
      · exact e2 z h1 (by omega)
    · rintro ⟨m,y⟩ ⟨e1,e2⟩
      dsimp only at e1 e2
      subst e1
      simp only [zaw]
      exact M.o_f (decide_eq_false (by omega)) (M.o_pure fun z h1 h2=>e2 z h1 (by omega))
  obtain ⟨m2,g2,k2⟩:(M.iter (zav ys) (m1,0)).Out (fun m=>∀ y,f<=y->y<=l->lookM m y=some (Bk.rec ys y)):=by
    refine M.o_for ys.length (fun i (s:List (Int × Span) × Nat)=>s.2=i/\∀ y,f<=y->y<=l->lookM s.1 y=some (Bk.rec (ys.take i) y)) ?_ ?_ ⟨rfl,k1⟩
    · rintro i ⟨m,s⟩ hi ⟨e1,e2⟩
      dsimp only at e1 e2
      subst e1
      simp only [zav]
      have e:ys.getD s default=ys[s]:=by rw [List.getD_eq_getElem?_getD,List.getElem?_eq_getElem hi,Option.getD_some]
      have hr:=h.y.in_ ys[s] (List.getElem_mem hi)
      rw [← e] at hr
      have et:=Bk.rec_take h.y.up hi
      refine M.o_t (decide_eq_true (by omega)) (M.o_grdD (by omega) (M.o_if (fun hb=>?_) (fun hb=>?_)))
      · refine M.o_pure ⟨rfl,fun y h1 h2=>?_⟩
        rw [lookM_set,et]
        split
        · rfl
        · exact e2 y h1 h2
      · rw [Bool.not_eq_false',decide_eq_true_eq] at hb
        refine M.o_pure ⟨rfl,fun y h1 h2=>?_⟩
        rw [et]
        split
        · rename_i hy'
          have k:=e2 _ hr.1 hr.2.1
          rw [k] at hb
          rw [hy',k]
          have h5:(ys.getD s default).lo=(Bk.rec (ys.take s) (ys.getD s default).year).lo:=congrArg Yr.lo hb
          have h6:(ys.getD s default).hi=(Bk.rec (ys.take s) (ys.getD s default).year).hi:=congrArg Yr.hi hb
          refine congrArg some ?_
          rw [h5,h6]
        · exact e2 y h1 h2
    · rintro ⟨m,s⟩ ⟨e1,e2⟩
      dsimp only at e1 e2
      subst e1
      simp only [zav]
      rw [List.take_length] at e2
      exact M.o_f (by simp) (M.o_pure e2)
  have g3:=M.mapL_ends (body:=za2 os) (g:=fun ky vl=>os.foldl (Bk.told ky) vl) (m:=m2) (fun p _=>told_ends h.o p.1 p.2)
  refine ⟨m2.map fun p=>(p.1,os.foldl (Bk.told p.1) p.2),?_,fun y h1 h2=>?_⟩
  · unfold zak
    refine M.i_bind (check_ends ys os f l hy ho) ?_
    rw [h0]
    exact M.i_f rfl (M.i_bind g1 (M.i_bind g2 (M.i_bind g3 M.i_pure)))
  · have e:=lookM_map (fun ky vl=>os.foldl (Bk.told ky) vl) m2 y
    rw [e,k2 y h1 h2]
    rfl
/-- A round over the years of a book at work. -/
theorem years_out {S X:Type} {bd:S->Int × Span->M (S ⊕ X)} {Q:S ⊕ X->Prop} {m:List (Int × Span)} {a b c d:Int} {s0:S} (hd:d<=3000) (ha:0<=a) (hab:a<=b+1) (hb:b<=d) (hc:c<=a) (hm:Knows ys os c d m) (J:Int->S->Prop) (h0:J a s0)
    (hr:∀ y s,a<=y->y<=b->J y s->(bd s (y,Bk.kn ys os y)).Out (fun x=>match x with | .inl s'=>J (y+1) s' | .inr x=>Q (.inr x))) (hl:∀ s,J (b+1) s->Q (.inl s)) (yw:List Yr) (ow:List Old10) (cw dw:Int) :
    (zal (M.yl bd) (.inl s0) a b yw ow cw dw m).Out Q:=by
  unfold zal
  refine M.o_bind (P:=fun y=>match y with | .inl t=>Q t | .inr t=>Q t) ?_ (fun y hy=>by cases y with | inl t=>exact M.o_pure hy | inr t=>exact M.o_pure hy)
  refine M.o_for (Int.toNat (b+1-a)) (fun i (s:Int × (S ⊕ X))=>s.1=a+i/\∃ s',s.2 = .inl s'/\J (a+i) s') ?_ ?_ ⟨by simp,s0,rfl,by simpa using h0⟩
  · rintro i ⟨y,t⟩ hi ⟨e1,s',e2,hj⟩
    dsimp only at e1 e2
    subst e1 e2
    simp only [za8]
    rw [hm (a+i) (by omega) (by omega)]
    refine M.o_t (decide_eq_true (by omega)) ?_
    obtain ⟨x,g1,g2⟩:=hr (a+i) s' (by omega) (by omega) hj
    cases x with
    | inl s2 =>
      refine M.o_bindE (a:=(true,.inl s2)) (M.i_bind g1 M.i_pure) (M.o_f rfl (M.o_grd (gA2 (by omega) (by omega)) (M.o_pure ⟨by dsimp only; omega,s2,rfl,?_⟩)))
      dsimp only at g2
      rw [show a+((i+1:Nat):Int)=a+i+1 by omega]
      exact g2
    | inr x2=>exact M.o_bindE (a:=(false,.inr x2)) (M.i_bind g1 M.i_pure) (M.o_t rfl (M.o_pure g2))
  · rintro ⟨y,t⟩ ⟨e1,s',e2,hj⟩
    dsimp only at e1 e2
    subst e1 e2
    simp only [za8]
    refine M.o_f (decide_eq_false (by omega)) (M.o_pure ?_)
    refine hl s' ?_
    rwa [show a+(Int.toNat (b+1-a):Int)=b+1 by omega] at hj
theorem clash_out (h:Bk.Ok ys os f l) {m:List (Int × Span)} (hm:Knows ys os f l m):(zax ys os f l m).Out (fun r=>(r=(0,false)/\Bk.Fine ys os f l)∨(r.2=true/\Bk.First ys os f l r.1)):=by
  have hf0:=h.f0
  have hfl:=h.fl
  have hl3:=h.l3
  unfold zax zaj
  refine M.o_bindE M.i_pure (M.o_bind (P:=fun x=>match x with | .inl (_:Unit)=>Bk.Fine ys os f l | .inr y=>Bk.First ys os f l y) ?_ ?_)
  · refine years_out hl3 hf0 (by omega) (Int.le_refl _) (Int.le_refl _) hm (fun y _=>∀ z,f<=z->z<y->(Bk.kn ys os z).lo<=(Bk.kn ys os z).hi) (fun z h1 h2=>by omega) ?_ ?_ _ _ _ _
    · intro y s h1 h2 hj
      simp only [zar]
      refine M.o_if (fun hb=>?_) (fun hb=>?_)
      · exact M.o_pure ⟨h1,h2,of_decide_eq_true hb,hj⟩
      · have:=of_decide_eq_false hb
        refine M.o_pure fun z h3 h4=>?_
        by_cases e:z=y
        · subst e; omega
        · exact hj z h3 (by omega)
    · intro s hj z h1 h2
      exact hj z h1 (by omega)
  · intro y hy
    cases y with
    | inl u=>exact M.o_pure (.inl ⟨rfl,hy⟩)
    | inr y=>exact M.o_pure (.inr ⟨rfl,hy⟩)
end Go.Proofs.YtpiebomegbbpcaaGreat
-- libO/BC.lean
namespace Go.Nm
namespace Bk
/-- The first year without a truth, or the error. -/
def ClE (ys:List Yr) (os:List Old10) (f l:Int) (r:Int × Int):Prop:=(chkB ys os f l ≠ 0/\r=(0,chkB ys os f l))∨(chkB ys os f l=0/\Fine ys os f l/\r=(0,5))∨(chkB ys os f l=0/\First ys os f l r.1/\r.2=0)
theorem ClE.uniq {ys:List Yr} {os:List Old10} {f l:Int} {r s:Int × Int} (h:ClE ys os f l r) (k:ClE ys os f l s):r=s:=by
  rcases h with ⟨h1,rfl⟩ | ⟨h1,h2,rfl⟩ | ⟨h1,h2,h3⟩
  · rcases k with ⟨k1,rfl⟩ | ⟨k1,_⟩ | ⟨k1,_⟩
    · rfl
    · exact absurd k1 h1
    · exact absurd k1 h1
  · rcases k with ⟨k1,rfl⟩ | ⟨k1,k2,rfl⟩ | ⟨k1,k2,k3⟩
    · exact absurd h1 k1
    · rfl
    · exact (k2.bad h2).elim
  · rcases k with ⟨k1,rfl⟩ | ⟨k1,k2,rfl⟩ | ⟨k1,k2,k3⟩
    · exact absurd h1 k1
    · exact (h2.bad k2).elim
    · exact Prod.ext (h2.uniq k2) (by rw [h3,k3])
/-- The highest stages of a year, or the error. -/
def HiE (ys:List Yr) (os:List Old10) (f l y:Int) (r:Int × Int × Int):Prop:=(chkB ys os f l ≠ 0/\r=(0,0,chkB ys os f l))∨(chkB ys os f l=0/\¬ (f<=y/\y<=l)/\r=(0,0,2))∨(chkB ys os f l=0/\(f<=y/\y<=l)/\¬ Fine ys os f l/\r=(0,0,6)) ∨
  (chkB ys os f l=0/\(f<=y/\y<=l)/\Fine ys os f l/\r=((kn ys os y).lo,(kn ys os y).hi,0))
theorem HiE.uniq {ys:List Yr} {os:List Old10} {f l y:Int} {r s:Int × Int × Int} (h:HiE ys os f l y r) (k:HiE ys os f l y s):r=s:=by
  rcases h with ⟨h1,rfl⟩ | ⟨h1,h2,rfl⟩ | ⟨h1,h2,h3,rfl⟩ | ⟨h1,h2,h3,rfl⟩ <;> rcases k with ⟨k1,rfl⟩ | ⟨k1,k2,rfl⟩ | ⟨k1,k2,k3,rfl⟩ | ⟨k1,k2,k3,rfl⟩ <;> first | rfl | contradiction
/-- A truth that can be. -/
def Can (ys:List Yr) (os:List Old10) (f:Int) (st:List Int):Prop:=∀ i,i<st.length->(kn ys os (f+i)).lo<=st.getD i 0/\st.getD i 0<=(kn ys os (f+i)).hi
def All2 (st:List Int):Prop:=∀ i,i<st.length->0<=st.getD i 0/\st.getD i 0<=2000
def HoE (ys:List Yr) (os:List Old10) (f l:Int) (st:List Int) (r:Bool × Int):Prop:=(chkB ys os f l ≠ 0/\r=(false,chkB ys os f l))∨(chkB ys os f l=0/\(st.length:Int) ≠ l-f+1/\r=(false,2))∨(chkB ys os f l=0/\(st.length:Int)=l-f+1/\¬ All2 st/\r=(false,4)) ∨
  (chkB ys os f l=0/\(st.length:Int)=l-f+1/\All2 st/\¬ Can ys os f st/\r=(false,0))∨(chkB ys os f l=0/\(st.length:Int)=l-f+1/\All2 st/\Can ys os f st/\r=(true,0))
theorem HoE.uniq {ys:List Yr} {os:List Old10} {f l:Int} {st:List Int} {r s:Bool × Int} (h:HoE ys os f l st r) (k:HoE ys os f l st s):r=s:=by
  rcases h with ⟨h1,rfl⟩ | ⟨h1,h2,rfl⟩ | ⟨h1,h2,h3,rfl⟩ | ⟨h1,h2,h3,h4,rfl⟩ | ⟨h1,h2,h3,h4,rfl⟩ <;> rcases k with ⟨k1,rfl⟩ | ⟨k1,k2,rfl⟩ | ⟨k1,k2,k3,rfl⟩ | ⟨k1,k2,k3,k4,rfl⟩ | ⟨k1,k2,k3,k4,rfl⟩ <;> first | rfl | contradiction
end Bk
end Go.Nm
namespace Go.Proofs.YtpiebomegbbpcaaGreat
open Go Go.Nm
variable {ys:List Yr} {os:List Old10} {f l:Int}
theorem of_highest (hy:ys.length<=1000000) (ho:os.length<=1000000) (y:Int):(za7 ys os f l y).Out (Bk.HiE ys os f l y):=by
  unfold za7
  by_cases h0:Bk.chkB ys os f l=0
  · have h:=Bk.chk_ok h0
    obtain ⟨m,g1,hm⟩:=opened_ok hy ho h0
    refine M.o_bindE g1 (M.o_f rfl (M.o_bindE (in_ends _ _ _) (M.o_if (fun hb=>?_) (fun hb=>?_))))
    · rw [Bool.not_eq_true',Bool.and_eq_false_iff,decide_eq_false_iff_not,decide_eq_false_iff_not] at hb
      exact M.o_pure (.inr (.inl ⟨h0,by omega,rfl⟩))
    · rw [Bool.not_eq_false',Bool.and_eq_true,decide_eq_true_eq,decide_eq_true_eq] at hb
      refine M.o_bind (clash_out h hm) ?_
      rintro ⟨y',b⟩ (⟨e,hF⟩ | ⟨e,hF⟩)
      · rw [Prod.mk.injEq] at e
        obtain ⟨rfl,rfl⟩:=e
        refine M.o_f rfl (M.o_pure (.inr (.inr (.inr ⟨h0,hb,hF,?_⟩))))
        rw [hm y hb.1 hb.2]
      · dsimp only at e hF
        subst e
        exact M.o_t rfl (M.o_pure (.inr (.inr (.inl ⟨h0,hb,fun hh=>hF.bad hh,rfl⟩))))
  · exact M.o_bindE (opened_bad hy ho h0) (M.o_t (bne_iff_ne.2 h0) (M.o_pure (.inl ⟨h0,rfl⟩)))
theorem of_holds (hy:ys.length<=1000000) (ho:os.length<=1000000) (st:List Int) (hs:st.length<=1000000):(zaE ys os f l st).Out (Bk.HoE ys os f l st):=by
  unfold zaE
  by_cases h0:Bk.chkB ys os f l=0
  · have h := Bk.chk_ok h0
    have hf0:=h.f0
    have hfl:=h.fl
    have hl3:=h.l3
    have hln:=h.ln
    obtain ⟨m,g1,hm⟩:=opened_ok hy ho h0
    refine M.o_bindE g1 (M.o_f rfl (M.o_grd (gA2 (by omega) (by omega)) (M.o_grd (gA2 (by omega) (by omega)) (M.o_if (fun hl=>?_) (fun hl=>?_)))))
    · exact M.o_pure (.inr (.inl ⟨h0,bne_iff_ne.1 hl,rfl⟩))
    · have hl:(st.length:Int)=l-f+1:=by simpa using hl
      refine M.o_bindE (every_int (p:=fun n=>decide (0<=n)&&decide (n<=2000)) hs (fun x _=>by unfold zbC; exact M.i_bind (in_ends _ _ _) M.i_pure)) (M.o_if (fun hb=>?_) (fun hb=>?_))
      · rw [Bool.not_eq_true'] at hb
        refine M.o_pure (.inr (.inr (.inl ⟨h0,hl,fun hA=>?_,rfl⟩)))
        have:=dur_all.2 (show DuR st from hA)
        rw [hb] at this
        cases this
      · rw [Bool.not_eq_false'] at hb
        have hA:Bk.All2 st:=dur_all.1 hb
        unfold zaj
        refine M.o_bindE M.i_pure (M.o_bind (P:=fun x=>match x with | .inl (_:Unit)=>Bk.Can ys os f st | .inr (_:Unit)=>¬ Bk.Can ys os f st) ?_ ?_)
        · refine years_out hl3 hf0 (by omega) (Int.le_refl _) (Int.le_refl _) hm (fun y _=>∀ i:Nat,f+i<y->(Bk.kn ys os (f+i)).lo<=st.getD i 0/\st.getD i 0<=(Bk.kn ys os (f+i)).hi) (fun i h1=>by omega) ?_ ?_ _ _ _ _
          · intro y s h1 h2 hj
            obtain ⟨i,rfl⟩:∃ i:Nat,y=f+i:=⟨Int.toNat (y-f),by omega⟩
            simp only [zap]
            rw [show Int.toNat (f+i-f)=i by omega]
            refine M.o_grd (gA2 (by omega) (by omega)) (M.o_grd (gA2 (by omega) (by omega)) (M.o_bindE (in_ends _ _ _) (M.o_if (fun hb=>?_) (fun hb=>?_))))
            · rw [Bool.not_eq_true',Bool.and_eq_false_iff,decide_eq_false_iff_not,decide_eq_false_iff_not] at hb
              refine M.o_pure fun hC=>?_
              have:=hC i (by omega)
              omega
            · rw [Bool.not_eq_false',Bool.and_eq_true,decide_eq_true_eq,decide_eq_true_eq] at hb
              refine M.o_pure fun j h3=>?_
              by_cases e:j=i
              · subst e; exact hb
              · exact hj j (by omega)
          · intro s hj i hi
            exact hj i (by omega)
        · intro z hz
          cases z with
          | inl u=>exact M.o_pure (.inr (.inr (.inr (.inr ⟨h0,hl,hA,hz,rfl⟩))))
          | inr u=>exact M.o_pure (.inr (.inr (.inr (.inl ⟨h0,hl,hA,hz,rfl⟩))))
  · exact M.o_bindE (opened_bad hy ho h0) (M.o_t (bne_iff_ne.2 h0) (M.o_pure (.inl ⟨h0,rfl⟩)))
end Go.Proofs.YtpiebomegbbpcaaGreat
-- libO/BE.lean
namespace Go.Nm
namespace Bk
/-- What the years from one on can have. -/
def kl (ys:List Yr) (os:List Old10) (a:Int) (n:Nat):List Span:=(List.range n).map fun (i:Nat)=>kn ys os (a+(i:Int))
theorem kl_succ (ys:List Yr) (os:List Old10) (a:Int) (n:Nat):kl ys os a (n+1)=kl ys os a n++[kn ys os (a+(n:Int))]:=by
  unfold kl
  rw [List.range_succ,List.map_append]
  rfl
theorem kl_len (ys:List Yr) (os:List Old10) (a:Int) (n:Nat):(kl ys os a n).length=n:=by unfold kl; rw [List.length_map,List.length_range]
def In (f l fr to:Int):Prop:=f<=fr/\fr<=to/\to<=l
/-- The first error of a book, two years, a number, and that no truth can be. -/
def WrE (ys:List Yr) (os:List Old10) (f l fr to n a b e:Int):Prop:=(chkB ys os f l ≠ 0/\e=chkB ys os f l)∨(chkB ys os f l=0/\¬ In f l fr to/\e=2)∨(chkB ys os f l=0/\In f l fr to/\¬ (a<=n/\n<=b)/\e=4) ∨
  (chkB ys os f l=0/\In f l fr to/\(a<=n/\n<=b)/\¬ Fine ys os f l/\e=6)∨(chkB ys os f l=0/\In f l fr to/\(a<=n/\n<=b)/\Fine ys os f l/\e=0)
theorem WrE.uniq {ys:List Yr} {os:List Old10} {f l fr to n a b e e':Int} (h:WrE ys os f l fr to n a b e) (k:WrE ys os f l fr to n a b e'):e=e':=by
  rcases h with ⟨h1,rfl⟩ | ⟨h1,h2,rfl⟩ | ⟨h1,h2,h3,rfl⟩ | ⟨h1,h2,h3,h4,rfl⟩ | ⟨h1,h2,h3,h4,rfl⟩ <;> rcases k with ⟨k1,rfl⟩ | ⟨k1,k2,rfl⟩ | ⟨k1,k2,k3,rfl⟩ | ⟨k1,k2,k3,k4,rfl⟩ | ⟨k1,k2,k3,k4,rfl⟩ <;> first | rfl | contradiction
theorem WrE.ok {ys:List Yr} {os:List Old10} {f l fr to n a b:Int} (h:WrE ys os f l fr to n a b 0):chkB ys os f l=0/\In f l fr to/\(a<=n/\n<=b)/\Fine ys os f l:=by
  rcases h with ⟨h1,h2⟩ | ⟨h1,h2,h3⟩ | ⟨h1,h2,h3,h4⟩ | ⟨h1,h2,h3,h4,h5⟩ | ⟨h1,h2,h3,h4,h5⟩
  · exact absurd h2.symm h1
  · cases h3
  · cases h4
  · cases h5
  · exact ⟨h1,h2,h3,h4⟩
theorem WrE.last {ys:List Yr} {os:List Old10} {f l fr to n a b b' e:Int} (h:WrE ys os f l fr to n a b e) (hb:chkB ys os f l=0->In f l fr to->b=b'):WrE ys os f l fr to n a b' e:=by
  rcases h with ⟨h1,h2⟩ | ⟨h1,h2,h3⟩ | ⟨h1,h2,h3,h4⟩ | ⟨h1,h2,h3,h4,h5⟩ | ⟨h1,h2,h3,h4,h5⟩
  · exact .inl ⟨h1,h2⟩
  · exact .inr (.inl ⟨h1,h2,h3⟩)
  · exact .inr (.inr (.inl ⟨h1,h2,by rw [← hb h1 h2]; exact h3,h4⟩))
  · exact .inr (.inr (.inr (.inl ⟨h1,h2,by rw [← hb h1 h2]; exact h3,h4,h5⟩)))
  · exact .inr (.inr (.inr (.inr ⟨h1,h2,by rw [← hb h1 h2]; exact h3,h4,h5⟩)))
def many (p:Span->Bool) (ys:List Yr) (os:List Old10) (fr to:Int):Int:=((kl ys os fr (Int.toNat (to+1-fr))).countP p:Nat)
def lop (x:Int) (s:Span):Bool:=decide (x<=s.lo)
def hip (x:Int) (s:Span):Bool:=decide (x<=s.hi)
def PaE (ys:List Yr) (os:List Old10) (f l fr to st:Int) (r:Int × Int × Int):Prop:=(r.2.2 ≠ 0/\WrE ys os f l fr to st 0 2000 r.2.2/\r.1=0/\r.2.1=0)∨(r.2.2=0/\WrE ys os f l fr to st 0 2000 0/\r.1=many (lop st) ys os fr to/\r.2.1=many (hip st) ys os fr to)
theorem PaE.wr {ys:List Yr} {os:List Old10} {f l fr to st:Int} {r:Int × Int × Int} (h:PaE ys os f l fr to st r):WrE ys os f l fr to st 0 2000 r.2.2:=by
  rcases h with ⟨h1,h2,h3⟩ | ⟨h1,h2,h3⟩
  · exact h2
  · rw [h1]; exact h2
theorem PaE.uniq {ys:List Yr} {os:List Old10} {f l fr to st:Int} {r s:Int × Int × Int} (h:PaE ys os f l fr to st r) (k:PaE ys os f l fr to st s):r=s:=by
  have e:=h.wr.uniq k.wr
  obtain ⟨r1,r2,r3⟩:=r
  obtain ⟨s1,s2,s3⟩:=s
  dsimp only at e
  subst e
  rcases h with ⟨h1,h2,h3,h4⟩ | ⟨h1,h2,h3,h4⟩ <;> rcases k with ⟨k1,k2,k3,k4⟩ | ⟨k1,k2,k3,k4⟩ <;> dsimp only at h1 h3 h4 k1 k3 k4
  · rw [h3,h4,k3,k4]
  · exact absurd k1 h1
  · exact absurd h1 k1
  · rw [h3,h4,k3,k4]
/-- The highest number that so many have. -/
def Top (L:List Int) (t v:Int):Prop:=0<=v/\v<=2000/\t<=(L.countP (fun x=>decide (v<=x)):Nat)/\((L.countP (fun x=>decide (v+1<=x)):Nat):Int)<t
theorem cnt_mono {L:List Int} {v w:Int} (h:v<=w):L.countP (fun x=>decide (w<=x))<=L.countP (fun x=>decide (v<=x)):=by
  refine List.countP_mono_left fun x _ hx=>?_
  have:=of_decide_eq_true hx
  exact decide_eq_true (by omega)
theorem Top.uniq {L:List Int} {t v w:Int} (h:Top L t v) (k:Top L t w):v=w:=by
  obtain ⟨h1,h2,h3,h4⟩:=h
  obtain ⟨k1,k2,k3,k4⟩:=k
  rcases Int.lt_trichotomy v w with e | e | e
  · have:=cnt_mono (L:=L) (v:=v+1) (w:=w) (by omega)
    omega
  · exact e
  · have:=cnt_mono (L:=L) (v:=w+1) (w:=v) (by omega)
    omega
def ReE (ys:List Yr) (os:List Old10) (f l fr to t:Int) (r:Int × Int × Int):Prop:=(r.2.2 ≠ 0/\WrE ys os f l fr to t 1 (to-fr+1) r.2.2/\r.1=0/\r.2.1=0) ∨
  (r.2.2=0/\WrE ys os f l fr to t 1 (to-fr+1) 0/\Top ((kl ys os fr (Int.toNat (to+1-fr))).map Span.lo) t r.1/\Top ((kl ys os fr (Int.toNat (to+1-fr))).map Span.hi) t r.2.1)
theorem ReE.wr {ys:List Yr} {os:List Old10} {f l fr to t:Int} {r:Int × Int × Int} (h:ReE ys os f l fr to t r):WrE ys os f l fr to t 1 (to-fr+1) r.2.2:=by
  rcases h with ⟨h1,h2,h3⟩ | ⟨h1,h2,h3⟩
  · exact h2
  · rw [h1]; exact h2
theorem ReE.uniq {ys:List Yr} {os:List Old10} {f l fr to t:Int} {r s:Int × Int × Int} (h:ReE ys os f l fr to t r) (k:ReE ys os f l fr to t s):r=s:=by
  have e:=h.wr.uniq k.wr
  obtain ⟨r1,r2,r3⟩:=r
  obtain ⟨s1,s2,s3⟩:=s
  dsimp only at e
  subst e
  rcases h with ⟨h1,h2,h3,h4⟩ | ⟨h1,h2,h3,h4⟩ <;> rcases k with ⟨k1,k2,k3,k4⟩ | ⟨k1,k2,k3,k4⟩ <;> dsimp only at h1 h3 h4 k1 k3 k4
  · rw [h3,h4,k3,k4]
  · exact absurd k1 h1
  · exact absurd h1 k1
  · rw [h3.uniq k3,h4.uniq k4]
end Bk
end Go.Nm
namespace Go.Proofs.YtpiebomegbbpcaaGreat
open Go Go.Nm
variable {ys:List Yr} {os:List Old10} {f l:Int}
theorem between_out (hy:ys.length<=1000000) (ho:os.length<=1000000) (fr to n a b:Int):(zbb ys os f l fr to n a b).Out (fun r=>match r with | .inl e=>e ≠ 0/\Bk.WrE ys os f l fr to n a b e | .inr (f',l',m,z)=>f'=f/\l'=l/\z=0/\Bk.WrE ys os f l fr to n a b 0/\Knows ys os f l m):=by
  unfold zbb
  by_cases h0:Bk.chkB ys os f l=0
  · have h:=Bk.chk_ok h0
    obtain ⟨m,g1,hm⟩:=opened_ok hy ho h0
    refine M.o_bindE g1 (M.o_f rfl (M.o_bindE (in_ends _ _ _) (M.o_bindE (a:=(decide (f<=fr)&&decide (fr<=to))&&(decide (f<=to)&&decide (to<=l))) (M.i_opt (fun h=>by rw [Bool.not_not] at h; rw [h]; exact in_ends _ _ _) (fun h=>by rw [Bool.not_not] at h; rw [h]; rfl)) (M.o_if (fun hb=>?_) (fun hb=>?_)))))
    · have hI:¬ Bk.In f l fr to:=by
        rintro ⟨i1,i2,i3⟩
        rw [decide_eq_true i1,decide_eq_true i2,decide_eq_true i3,decide_eq_true (show f<=to by omega)] at hb
        cases hb
      exact M.o_pure ⟨by decide,.inr (.inl ⟨h0,hI,rfl⟩)⟩
    · have hI:Bk.In f l fr to:=by
        rw [Bool.or_eq_false_iff,Bool.not_eq_false',Bool.not_eq_false'] at hb
        have:=hb.2
        rw [Bool.and_eq_true,Bool.and_eq_true,Bool.and_eq_true,decide_eq_true_eq,decide_eq_true_eq,decide_eq_true_eq,decide_eq_true_eq] at this
        exact ⟨this.1.1,this.1.2,this.2.2⟩
      refine M.o_bindE (in_ends _ _ _) (M.o_if (fun hb=>?_) (fun hb=>?_))
      · rw [Bool.not_eq_true',Bool.and_eq_false_iff,decide_eq_false_iff_not,decide_eq_false_iff_not] at hb
        exact M.o_pure ⟨by decide,.inr (.inr (.inl ⟨h0,hI,by omega,rfl⟩))⟩
      · rw [Bool.not_eq_false',Bool.and_eq_true,decide_eq_true_eq,decide_eq_true_eq] at hb
        refine M.o_bind (clash_out h hm) ?_
        rintro ⟨y',c⟩ (⟨e,hF⟩ | ⟨e,hF⟩)
        · rw [Prod.mk.injEq] at e
          obtain ⟨rfl,rfl⟩:=e
          exact M.o_f rfl (M.o_pure ⟨rfl,rfl,rfl,.inr (.inr (.inr (.inr ⟨h0,hI,hb,hF,rfl⟩))),hm⟩)
        · dsimp only at e hF
          subst e
          exact M.o_t rfl (M.o_pure ⟨by decide,.inr (.inr (.inr (.inl ⟨h0,hI,hb,fun hh=>hF.bad hh,rfl⟩)))⟩)
  · exact M.o_bindE (opened_bad hy ho h0) (M.o_t (bne_iff_ne.2 h0) (M.o_pure ⟨h0,.inl ⟨h0,rfl⟩⟩))
theorem cnt_succ (p:Span->Bool) (a:Int) (n:Nat):((Bk.kl ys os a (n+1)).countP p:Int)=((Bk.kl ys os a n).countP p:Int)+(if p (Bk.kn ys os (a+(n:Int)))=true then 1 else 0):=by
  rw [Bk.kl_succ,List.countP_append]
  simp only [List.countP_cons,List.countP_nil]
  split <;> simp
theorem cnt_le (p:Span->Bool) (a:Int) (n:Nat):(Bk.kl ys os a n).countP p<=n:=by
  have:=List.countP_le_length (p:=p) (l:=Bk.kl ys os a n)
  rwa [Bk.kl_len] at this
theorem of_passed (hy:ys.length<=1000000) (ho:os.length<=1000000) (fr to st:Int):(zai ys os f l fr to st).Out (Bk.PaE ys os f l fr to st):=by
  unfold zai
  refine M.o_bind (between_out hy ho fr to st 0 2000) ?_
  rintro (e | ⟨f',l',m,z⟩) h
  · exact M.o_t (bne_iff_ne.2 h.1) (M.o_pure (.inl ⟨h.1,h.2,rfl,rfl⟩))
  · obtain ⟨rfl,rfl,rfl,hw,hm⟩:=h
    obtain ⟨h0,⟨i1,i2,i3⟩,hn,hF⟩:=hw.ok
    have h:=Bk.chk_ok h0
    have hf0:=h.f0
    have hl3:=h.l3
    have hln:=h.ln
    unfold zaj
    refine M.o_f rfl (M.o_bindE M.i_pure (M.o_bind (P:=fun x=>match x with | .inl s=>s=(Bk.many (Bk.lop st) ys os fr to,Bk.many (Bk.hip st) ys os fr to) | .inr (_:Unit)=>False) ?_ ?_))
    · refine years_out (s0:=((0:Int),(0:Int))) hl3 (by omega) (by omega) i3 i1 hm (fun y s=>∃ n:Nat,y=fr+n/\s=(((Bk.kl ys os fr n).countP (Bk.lop st):Int),((Bk.kl ys os fr n).countP (Bk.hip st):Int))) ⟨0,by omega,rfl⟩ ?_ ?_ _ _ _ _
      · rintro y ⟨s,s2⟩ h1 h2 ⟨n,rfl,e⟩
        obtain ⟨rfl,rfl⟩:=Prod.mk.inj e
        have c1:=cnt_le (ys:=ys) (os:=os) (Bk.lop st) fr n
        have c2:=cnt_le (ys:=ys) (os:=os) (Bk.hip st) fr n
        have d1:=cnt_succ (ys:=ys) (os:=os) (Bk.lop st) fr n
        have d2:=cnt_succ (ys:=ys) (os:=os) (Bk.hip st) fr n
        simp only [zao]
        refine M.o_bindE M.i_pure (M.o_bindE M.i_pure (M.o_bindE M.i_pure (M.o_if (fun hb=>?_) (fun hb=>?_))))
        · have hb':Bk.lop st (Bk.kn ys os (fr+(n:Int)))=true:=hb
          rw [if_pos hb'] at d1
          refine M.o_grd (gA2 (by omega) (by omega)) (M.o_bindE M.i_pure (M.o_bindE M.i_pure (M.o_bindE M.i_pure (M.o_if (fun hc=>?_) (fun hc=>?_)))))
          · have hc':Bk.hip st (Bk.kn ys os (fr+(n:Int)))=true:=hc
            rw [if_pos hc'] at d2
            exact M.o_grd (gA2 (by omega) (by omega)) (M.o_pure ⟨n+1,by omega,by rw [d1,d2]⟩)
          · have hc':Bk.hip st (Bk.kn ys os (fr+(n:Int)))=false:=hc
            rw [if_neg (by rw [hc']; simp)] at d2
            exact M.o_pure ⟨n+1,by omega,by rw [d1,d2,Int.add_zero]⟩
        · have hb':Bk.lop st (Bk.kn ys os (fr+(n:Int)))=false:=hb
          rw [if_neg (by rw [hb']; simp)] at d1
          refine M.o_bindE M.i_pure (M.o_bindE M.i_pure (M.o_bindE M.i_pure (M.o_if (fun hc=>?_) (fun hc=>?_))))
          · have hc':Bk.hip st (Bk.kn ys os (fr+(n:Int)))=true:=hc
            rw [if_pos hc'] at d2
            exact M.o_grd (gA2 (by omega) (by omega)) (M.o_pure ⟨n+1,by omega,by rw [d1,d2,Int.add_zero]⟩)
          · have hc':Bk.hip st (Bk.kn ys os (fr+(n:Int)))=false:=hc
            rw [if_neg (by rw [hc']; simp)] at d2
            exact M.o_pure ⟨n+1,by omega,by rw [d1,d2,Int.add_zero,Int.add_zero]⟩
      · rintro s ⟨n,e,rfl⟩
        unfold Bk.many
        rw [show Int.toNat (to+1-fr)=n by omega]
    · intro x hx
      cases x with
      | inl s=>subst hx; exact M.o_pure (.inr ⟨rfl,hw,rfl,rfl⟩)
      | inr u=>exact hx.elim
end Go.Proofs.YtpiebomegbbpcaaGreat
-- libO/BF.lean
namespace Go.Proofs.YtpiebomegbbpcaaGreat
open Go Go.Nm
variable {ys:List Yr} {os:List Old10} {f l:Int}
/-! ### Shares -/
theorem share_ends {n d:Nat} (hn:n<=1000000) (hd:d<=1000000) (h0:0<d):(za5 (n:Int) (d:Int)).Ends (((n / Nat.gcd n d:Nat):Int),((d / Nat.gcd n d:Nat):Int)):=by
  refine M.Out.ends ?_
  unfold za5
  have hg:0<Nat.gcd n d:=Nat.gcd_pos_of_pos_right _ h0
  refine M.o_bind (P:=fun a=>a=((Nat.gcd n d:Nat):Int)) ?_ ?_
  · refine M.o_iter (fun k (s:Int × Int)=>∃ a b:Nat,s=((a:Int),(b:Int))/\k=b/\Nat.gcd a b=Nat.gcd n d) ?_ d _ ⟨n,d,rfl,rfl,rfl⟩
    rintro k ⟨x,y⟩ ⟨a,b,e,hk,e2⟩
    subst hk
    obtain ⟨rfl,rfl⟩:=Prod.mk.inj e
    simp only [zbk]
    refine M.o_if (fun hb=>?_) (fun hb=>?_)
    · have hb:k ≠ 0:=fun e=>by subst e; simp at hb
      refine M.o_grd (gA2 (by omega) (by omega)) (M.o_pure ⟨a % k,Nat.mod_lt _ (by omega),k,a % k,?_,rfl,?_⟩)
      · rw [Prod.mk.injEq]
        exact ⟨rfl,(Int.natCast_emod a k).symm⟩
      · rw [← e2,Nat.gcd_comm a k,Nat.gcd_rec k a,Nat.gcd_comm]
    · have hb:k=0:=by
        have:(k:Int)=0:=by simpa using hb
        omega
      subst hb
      rw [Nat.gcd_zero_right] at e2
      exact M.o_pure (by rw [e2]; rfl)
  · rintro a rfl
    exact M.o_grd (gA3 (by omega) (by omega) (by omega)) (M.o_grd (gA3 (by omega) (by omega) (by omega)) (M.o_pure (by rw [Int.natCast_ediv,Int.natCast_ediv])))
/-! ### The highest stage that is passed so often -/
end Go.Proofs.YtpiebomegbbpcaaGreat
-- libO/BG.lean
namespace Go.Nm
namespace Bk
/-- The shares of all years, or the error. -/
def RtE (ys:List Yr) (os:List Old10) (f l st:Int) (r:Int × Int × Int × Int × Int):Prop:=(r.2.2.2.2 ≠ 0/\WrE ys os f l f l st 0 2000 r.2.2.2.2/\r.1=0/\r.2.1=0/\r.2.2.1=0/\r.2.2.2.1=0) ∨
  (r.2.2.2.2=0/\WrE ys os f l f l st 0 2000 0/\∃ a b:Nat,a<=100000/\b<=100000/\many (lop st) ys os f l=a/\many (hip st) ys os f l=b/\r.1=((a / Nat.gcd a (Int.toNat (l-f+1)):Nat):Int)/\r.2.1=((Int.toNat (l-f+1) / Nat.gcd a (Int.toNat (l-f+1)):Nat):Int) ∧
    r.2.2.1=((b / Nat.gcd b (Int.toNat (l-f+1)):Nat):Int)/\r.2.2.2.1=((Int.toNat (l-f+1) / Nat.gcd b (Int.toNat (l-f+1)):Nat):Int))
end Bk
end Go.Nm
namespace Go.Proofs.YtpiebomegbbpcaaGreat
open Go Go.Nm
variable {ys:List Yr} {os:List Old10} {f l:Int}
theorem of_returns (hy:ys.length<=1000000) (ho:os.length<=1000000) (st:Int):(zaF ys os f l st).Out (Bk.RtE ys os f l st):=by
  unfold zaF
  refine M.o_bind (of_passed hy ho f l st) ?_
  rintro ⟨a,b,e⟩ (⟨h1,h2,h3,h4⟩ | ⟨h1,h2,h3,h4⟩)
  · dsimp only at h1 h2 ⊢
    exact M.o_t (bne_iff_ne.2 h1) (M.o_pure (.inl ⟨h1,h2,rfl,rfl,rfl,rfl⟩))
  · dsimp only at h1 h3 h4 ⊢
    subst h1 h3 h4
    obtain ⟨h0,hI,hn,hF⟩:=h2.ok
    have h:=Bk.chk_ok h0
    have hf0:=h.f0
    have hfl:=h.fl
    have hl3:=h.l3
    have hln:=h.ln
    have c1:=cnt_le (ys:=ys) (os:=os) (Bk.lop st) f (Int.toNat (l+1-f))
    have c2:=cnt_le (ys:=ys) (os:=os) (Bk.hip st) f (Int.toNat (l+1-f))
    have k1:=share_ends (n:=(Bk.kl ys os f (Int.toNat (l+1-f))).countP (Bk.lop st)) (d:=Int.toNat (l-f+1)) (by omega) (by omega) (by omega)
    have k2:=share_ends (n:=(Bk.kl ys os f (Int.toNat (l+1-f))).countP (Bk.hip st)) (d:=Int.toNat (l-f+1)) (by omega) (by omega) (by omega)
    rw [show ((Int.toNat (l-f+1):Nat):Int)=l-f+1 by omega] at k1 k2
    exact M.o_f rfl (M.o_grd (gA2 (by omega) (by omega)) (M.o_grd (gA2 (by omega) (by omega)) (M.o_bindE k1 (M.o_bindE k2 (M.o_pure (.inr ⟨rfl,h2,_,_,by omega,by omega,rfl,rfl,rfl,rfl,rfl,rfl⟩))))))
end Go.Proofs.YtpiebomegbbpcaaGreat
-- libO/BH.lean
namespace Go.Nm
theorem getD_app_lt {t:List Int} {x:Int} {k:Nat} (h:k<t.length):(t++[x]).getD k 0=t.getD k 0:=by
  rw [List.getD_eq_getElem?_getD,List.getElem?_append_left h,← List.getD_eq_getElem?_getD]
theorem getD_app_eq {t:List Int} {x:Int}:(t++[x]).getD t.length 0=x:=by
  rw [List.getD_eq_getElem?_getD,List.getElem?_append_right (Nat.le_refl _),Nat.sub_self]; rfl
namespace Bk
theorem chk_of {ys:List Yr} {os:List Old10} {f l:Int} (h:Ok ys os f l):chkB ys os f l=0:=by
  have h1:=h.f0
  have h2:=h.fl
  have h3:=h.l3
  have h4:=h.ln
  have h5:=h.y60
  have h6:=h.o8
  have hfr:frB f l=true:=by
    simp only [frB,Bool.and_eq_true,decide_eq_true_eq]
    omega
  have hfew:os.all fewO=true:=by
    rw [List.all_eq_true]
    intro o ho
    have:=h.few o ho
    exact decide_eq_true (by omega)
  have hb:os.all (oB f l)=true:=by
    rw [List.all_eq_true]
    intro o ho
    have k1:=h.o.in_ o ho
    have k2:=h.ris o ho
    simp only [oB,Bool.and_eq_true,decide_eq_true_eq]
    exact ⟨⟨⟨⟨k1.1,k1.2.1⟩,by omega,k1.2.2.1⟩,k1.2.2.2.1,k1.2.2.2.2⟩,k2⟩
  have he:Pk.fe (errY f l ys) ys.length=0:=by
    rw [Pk.fe_all]
    intro i hi
    have e:ys.getD i default=ys[i]:=by rw [List.getD_eq_getElem?_getD,List.getElem?_eq_getElem hi,Option.getD_some]
    have k1:=h.y.in_ ys[i] (List.getElem_mem hi)
    unfold errY
    rw [if_neg,if_neg]
    · rintro ⟨h0,hle⟩
      have e2:ys.getD (i-1) default=ys[i-1]:=by rw [List.getD_eq_getElem?_getD,List.getElem?_eq_getElem (by omega),Option.getD_some]
      rw [e,e2] at hle
      have:=List.pairwise_iff_getElem.1 h.y.up (i-1) i (by omega) hi (by omega)
      omega
    · rw [e]
      have:yrB f l ys[i]=true:=by
        simp only [yrB,Bool.and_eq_true,decide_eq_true_eq]
        omega
      rw [this]
      simp
  unfold chkB
  rw [if_neg (by rw [hfr]; simp),if_neg (by rw [hfew]; simp; omega),if_neg (by rw [he]; simp),if_neg (by rw [hb]; simp)]
/-- A truth of a book. -/
structure Tr (ys:List Yr) (os:List Old10) (f l:Int) (t:List Int):Prop where
  ok:Ok ys os f l
  len:(t.length:Int)=l-f+1
  all:All2 t
  can:Can ys os f t
theorem Tr.at_ {ys:List Yr} {os:List Old10} {f l:Int} {t:List Int} (h:Tr ys os f l t) {y:Int} (h1:f<=y) (h2:y<=l):(kn ys os y).lo<=t.getD (Int.toNat (y-f)) 0/\t.getD (Int.toNat (y-f)) 0<=(kn ys os y).hi:=by
  have hl:=h.len
  have k:=h.can (Int.toNat (y-f)) (by omega)
  rwa [show f+((Int.toNat (y-f):Nat):Int)=y by omega] at k
theorem Tr.fine {ys:List Yr} {os:List Old10} {f l:Int} {t:List Int} (h:Tr ys os f l t):Fine ys os f l:=fun z h1 h2=>by
  have:=h.at_ h1 h2
  omega
/-- An old note that a truth bears out. -/
structure Nt (f l:Int) (t:List Int) (o:Old10):Prop where
  a:f<=o.src
  b:o.src<=o.dst
  c:o.dst<=l
  s1:1<=o.stage
  s2:o.stage<=2000
  few:o.passed.length<=10
  up:o.passed.Pairwise (· < ·)
  mem:∀ y,y∈o.passed↔(o.src<=y/\y<=o.dst)/\o.stage<=t.getD (Int.toNat (y-f)) 0
theorem Nt.rin {f l:Int} {t:List Int} {o:Old10} (h:Nt f l t o):Rin o.passed o.src o.dst:=by
  intro i hi
  have e:o.passed.getD i 0=o.passed[i]:=by rw [List.getD_eq_getElem?_getD,List.getElem?_eq_getElem hi,Option.getD_some]
  rw [e]
  refine ⟨((h.mem _).1 (List.getElem_mem hi)).1,fun h0=>?_⟩
  have e2:o.passed.getD (i-1) 0=o.passed[i-1]:=by rw [List.getD_eq_getElem?_getD,List.getElem?_eq_getElem (by omega),Option.getD_some]
  rw [e2]
  exact List.pairwise_iff_getElem.1 h.up (i-1) i (by omega) hi (by omega)
/-- Recorded years that a truth bears out. -/
structure Yt (f l:Int) (t:List Int) (ys:List Yr):Prop where
  in_:∀ r∈ys,(f<=r.year/\r.year<=l/\0<=r.lo/\r.lo<=r.hi/\r.hi<=2000)/\r.lo<=t.getD (Int.toNat (r.year-f)) 0/\t.getD (Int.toNat (r.year-f)) 0<=r.hi
  up:ys.Pairwise fun a b=>a.year<b.year
/-- What is borne out is a book with a truth. -/
theorem Tr.of {ys:List Yr} {os:List Old10} {f l:Int} {t:List Int} (h0:0<=f) (h1:f<=l) (h2:l<=3000) (h3:l-f<1000) (hy:ys.length<=60) (ho:os.length<=8) (hl:(t.length:Int)=l-f+1) (ha:All2 t) (hY:Yt f l t ys) (hO:∀ o∈os,Nt f l t o):Tr ys os f l t:=by
  have oky:OkY f l ys:=⟨fun r hr=>(hY.in_ r hr).1,hY.up⟩
  refine ⟨⟨h0,h1,h2,h3,hy,ho,fun o h=>(hO o h).few,oky,⟨fun o h=>?_⟩,fun o h=>(hO o h).rin⟩,hl,ha,fun i hi=>?_⟩
  · have k:=hO o h
    exact ⟨k.a,k.b,k.c,k.s1,k.s2⟩
  · rw [← can_iff oky (ha i hi).1 (ha i hi).2]
    unfold Bk.can
    rw [Bool.and_eq_true,List.all_eq_true,List.all_eq_true]
    refine ⟨fun r hr=>?_,fun o hm=>?_⟩
    · have k:=(hY.in_ r hr).2
      by_cases e:r.year=f+i
      · rw [e,show Int.toNat (f+(i:Int)-f)=i by omega] at k
        rw [decide_eq_false (by omega),decide_eq_false (by omega)]
        simp
      · rw [beq_eq_false_iff_ne.2 e]
        rfl
    · have k:=hO o hm
      by_cases e:o.src<=f+i/\f+i<=o.dst
      · have m:=k.mem (f+i)
        rw [show Int.toNat (f+(i:Int)-f)=i by omega] at m
        rw [Bool.or_eq_true]
        right
        rw [beq_iff_eq,Bool.eq_iff_iff,List.contains_iff_mem,m,decide_eq_true_eq]
        exact ⟨fun h=>h.2,fun h=>⟨e,h⟩⟩
      · rw [Bool.or_eq_true]
        left
        rw [Bool.not_eq_true',Bool.and_eq_false_iff,decide_eq_false_iff_not,decide_eq_false_iff_not]
        omega
/-- What is made. -/
structure Md (most:Int) (ys:List Yr) (os:List Old10) (f l:Int) (t:List Int):Prop where
  f0:0<=f
  f2:f<2000
  fl:f<=l
  near:l-f<most
  len:(t.length:Int)=l-f+1
  t6:∀ i,i<t.length->0<=t.getD i 0/\t.getD i 0<600
  y60:ys.length<=60
  o3:os.length<=3
  y:Yt f l t ys
  o:∀ o∈os,Nt f l t o
theorem Md.tr {most:Int} {ys:List Yr} {os:List Old10} {f l:Int} {t:List Int} (h:Md most ys os f l t) (hm:most<=1000):Tr ys os f l t:=by
  have h1:=h.f0
  have h2:=h.f2
  have h3:=h.fl
  have h4:=h.near
  have h5:=h.o3
  exact .of h1 h3 (by omega) (by omega) h.y60 (by omega) h.len (fun i hi=>by have:=h.t6 i hi; omega) h.y h.o
end Bk
end Go.Nm
namespace Go.Proofs.YtpiebomegbbpcaaGreat
open Go Go.Nm
variable {ys:List Yr} {os:List Old10} {f l:Int} {t:List Int} {b:List UInt8}
end Go.Proofs.YtpiebomegbbpcaaGreat
-- libO/BI.lean
namespace Go.Nm
namespace Bk
/-- What a truth has from one year on. -/
def vl (t:List Int) (f a:Int) (n:Nat):List Int:=(List.range n).map fun (i:Nat)=>t.getD (Int.toNat (a+(i:Int)-f)) 0
theorem Top.le {A B:List Int} {t u v:Int} (hc:∀ x,A.countP (fun y=>decide (x<=y))<=B.countP (fun y=>decide (x<=y))) (hu:Top A t u) (hv:Top B t v):u<=v:=by
  obtain ⟨h1,h2,h3,h4⟩:=hu
  obtain ⟨k1,k2,k3,k4⟩:=hv
  refine Int.not_lt.1 fun e=>?_
  have:=cnt_mono (L:=B) (v:=v+1) (w:=u) (by omega)
  have:=hc u
  omega
/-- What is told of a book with a truth. -/
theorem Tr.wr {ys:List Yr} {os:List Old10} {f l:Int} {t:List Int} (h:Tr ys os f l t) {fr to n a b:Int} (hI:In f l fr to) (hn:a<=n/\n<=b):WrE ys os f l fr to n a b 0:=.inr (.inr (.inr (.inr ⟨chk_of h.ok,hI,hn,h.fine,rfl⟩)))
end Bk
end Go.Nm
namespace Go.Proofs.YtpiebomegbbpcaaGreat
open Go Go.Nm
variable {ys:List Yr} {os:List Old10} {f l:Int} {t:List Int}
theorem tr_passed (h:Bk.Tr ys os f l t) {fr to st:Int} (hI:Bk.In f l fr to) (hs:0<=st/\st<=2000):(zai ys os f l fr to st).Ends (Bk.many (Bk.lop st) ys os fr to,Bk.many (Bk.hip st) ys os fr to,0):=by
  have h60:=h.ok.y60
  have h8:=h.ok.o8
  obtain ⟨r,g,e⟩:=of_passed (ys:=ys) (os:=os) (f:=f) (l:=l) (by omega) (by omega) fr to st
  have k:Bk.PaE ys os f l fr to st (Bk.many (Bk.lop st) ys os fr to,Bk.many (Bk.hip st) ys os fr to,0):=.inr ⟨rfl,h.wr hI hs,rfl,rfl⟩
  rw [← e.uniq k]
  exact g
theorem tr_holds (h:Bk.Tr ys os f l t):(zaE ys os f l t).Ends (true,0):=by
  have h60:=h.ok.y60
  have h8:=h.ok.o8
  have hl:=h.len
  have h1:=h.ok.ln
  obtain ⟨r,g,e⟩:=of_holds (ys:=ys) (os:=os) (f:=f) (l:=l) (by omega) (by omega) t (by omega)
  have k:Bk.HoE ys os f l t (true,0):=.inr (.inr (.inr (.inr ⟨Bk.chk_of h.ok,h.len,h.all,h.can,rfl⟩)))
  rw [← e.uniq k]
  exact g
theorem tr_highest (h:Bk.Tr ys os f l t) {y:Int} (h1:f<=y) (h2:y<=l):(za7 ys os f l y).Ends ((Bk.kn ys os y).lo,(Bk.kn ys os y).hi,0):=by
  have h60:=h.ok.y60
  have h8:=h.ok.o8
  obtain ⟨r,g,e⟩:=of_highest (ys:=ys) (os:=os) (f:=f) (l:=l) (by omega) (by omega) y
  have k:Bk.HiE ys os f l y ((Bk.kn ys os y).lo,(Bk.kn ys os y).hi,0):=.inr (.inr (.inr ⟨Bk.chk_of h.ok,⟨h1,h2⟩,h.fine,rfl⟩))
  rw [← e.uniq k]
  exact g
theorem tr_returns (h:Bk.Tr ys os f l t) {st:Int} (hs:0<=st/\st<=2000):∃ a b:Nat,Bk.many (Bk.lop st) ys os f l=a/\Bk.many (Bk.hip st) ys os f l=b/\a<=100000/\b<=100000 ∧
    (zaF ys os f l st).Ends (((a / Nat.gcd a t.length:Nat):Int),((t.length / Nat.gcd a t.length:Nat):Int),((b / Nat.gcd b t.length:Nat):Int),((t.length / Nat.gcd b t.length:Nat):Int),0):=by
  have h60:=h.ok.y60
  have h8:=h.ok.o8
  have hfl:=h.ok.fl
  have hl:=h.len
  obtain ⟨⟨r1,r2,r3,r4,z⟩,g,e⟩:=of_returns (ys:=ys) (os:=os) (f:=f) (l:=l) (by omega) (by omega) st
  rcases e with ⟨h1,h2,_⟩ | ⟨h1,_,a,b,ha,hb,h3,h4,h5,h6,h7,h9⟩
  · exact absurd (h2.uniq (h.wr ⟨Int.le_refl _,hfl,Int.le_refl _⟩ hs)) h1
  · dsimp only at h1 h5 h6 h7 h9
    subst h1 h5 h6 h7 h9
    rw [show Int.toNat (l-f+1)=t.length by omega] at g
    exact ⟨a,b,h3,h4,ha,hb,g⟩
end Go.Proofs.YtpiebomegbbpcaaGreat
-- libD/GA.lean
namespace Go.Nm
namespace Fl
/-- The greatest whole number whose square is at most a number. -/
def rtN:Nat->Nat
  | 0=>0
  | n+1=>if (rtN n+1)*(rtN n+1)<=n+1 then rtN n+1 else rtN n
def rt (n:Int):Int:=rtN n.toNat
/-- Rows whose stages rise and whose numbers do not fall. -/
def Rows:List FRow->Prop
  | []=>True
  | [a]=>0<=a.stage/\a.stage<=2000/\0<=a.carry/\a.carry<=100000
  | a :: b :: r=>0<=a.stage/\a.stage<b.stage/\0<=a.carry/\a.carry<=b.carry/\Rows (b :: r)
theorem Rows.head {a:FRow} {r:List FRow} (h:Rows (a :: r)):0<=a.stage/\a.stage<=2000/\0<=a.carry/\a.carry<=100000:=by
  induction r generalizing a with
  | nil=>exact h
  | cons b r ih =>
    obtain ⟨h1,h2,h3,h4,h5⟩:=h
    have:=ih h5
    omega
/-- What is carried between two rows. -/
def ip (a b:FRow) (s:Int):Int:=a.carry+(b.carry-a.carry)*(s-a.stage) / (b.stage-a.stage)
def go:FRow->List FRow->Int->Int
  | a,[],_=>a.carry
  | a,b :: r,s=>if s<b.stage then ip a b s else go b r s
def car:List FRow->Int->Int
  | [],_=>0
  | a :: r,s=>if s<a.stage then 0 else go a r s
end Fl
end Go.Nm
-- libD/GB.lean
namespace Go.Nm
namespace Fl
theorem Rows.pw:∀ {l:List FRow},Rows l->l.Pairwise (fun a b=>a.stage<b.stage)
  | [],_=>List.Pairwise.nil
  | [a],_=>List.pairwise_singleton _ _
  | a :: b :: r,h=>by
    obtain ⟨h1,h2,h3,h4,h5⟩:=h
    have ih:=h5.pw
    refine List.Pairwise.cons (fun x hx=>?_) ih
    rcases List.mem_cons.1 hx with rfl | hx
    · exact h2
    · have:=(List.pairwise_cons.1 ih).1 x hx
      omega
theorem Rows.lt {l:List FRow} (h:Rows l) {i j:Nat} (hij:i<j) (hj:j<l.length):(l.getD i default).stage<(l.getD j default).stage:=by
  rw [getD_el l (by omega),getD_el l hj]
  exact (List.pairwise_iff_getElem.1 h.pw) i j (by omega) hj hij
theorem Rows.el:∀ {l:List FRow},Rows l->∀ j,j<l.length->0<=(l.getD j default).stage/\(l.getD j default).stage<=2000/\0<=(l.getD j default).carry/\(l.getD j default).carry<=100000
  | [],_,j,hj=>by simp at hj
  | a :: r,h,0,_=>h.head
  | [a],_,j+1,hj=>by simp at hj
  | a :: b :: r,h,j+1,hj=>h.2.2.2.2.el j (by simp at hj ⊢; omega)
theorem Rows.cm:∀ {l:List FRow},Rows l->∀ j,j+1<l.length->(l.getD j default).carry<=(l.getD (j+1) default).carry
  | [],_,j,hj=>by simp at hj
  | [a],_,j,hj=>by simp at hj
  | a :: b :: r,h,0,_=>h.2.2.2.1
  | a :: b :: r,h,j+1,hj=>h.2.2.2.2.cm j (by simp at hj ⊢; omega)
end Fl
end Go.Nm
namespace Go.Proofs.YtpiebomegbbpcaaGreat
open Go Go.Nm
end Go.Proofs.YtpiebomegbbpcaaGreat
-- libD/GC.lean
namespace Go.Nm
namespace Fl
/-- Sections that are right. -/
structure Secs (S:List Sect):Prop where
  n:2<=S.length/\S.length<=6
  rows:∀ i,i<S.length->Rows (S.getD i default).rows/\2<=(S.getD i default).rows.length/\(S.getD i default).rows.length<=8
  place:∀ i,i<S.length->0<=(S.getD i default).place/\(S.getD i default).place<=10000
  up:∀ i j,i<j->j<S.length->(S.getD i default).place<(S.getD j default).place
structure Rok (S:List Sect) (r:Rch):Prop where
  u0:0<=r.up
  ud:r.up<r.down
  d1:r.down<S.length
  l1:1<=r.lo
  lh:r.lo<=r.hi
  h4:r.hi<=400
structure Mok (m:Mrk):Prop where
  p0:0<=m.place
  p1:m.place<=10000
  l0:0<=m.lo
  lh:m.lo<=m.hi
  h2:m.hi<=2000
structure Site (S:List Sect) (M:List Mrk) (R:List Rch):Prop where
  s:Secs S
  m:1<=M.length/\M.length<=16
  r:1<=R.length/\R.length<=6
  mks:∀ x∈M,Mok x
  rks:∀ x∈R,Rok S x
/-- The flow of a case. -/
def fl (S:List Sect) (r:Rch) (c:Cas):Int :=
  let a:=car (S.getD (Int.toNat r.up) default).rows c.up
  let b:=car (S.getD (Int.toNat r.down) default).rows c.down
  rt (10000*(bif r.narrow then b else a)*b*(c.up-c.down) / ((bif r.narrow then c.roughdown else c.roughup)*c.roughdown*((S.getD (Int.toNat r.down) default).place-(S.getD (Int.toNat r.up) default).place)))
section
variable {S:List Sect} {r:Rch}
theorem Rok.iu (h:Rok S r):Int.toNat r.up<S.length:=by have:=h.u0; have:=h.ud; have:=h.d1; omega
theorem Rok.id (h:Rok S r):Int.toNat r.down<S.length:=by have:=h.u0; have:=h.ud; have:=h.d1; omega
theorem far (hS:Secs S) (h:Rok S r):1<=(S.getD (Int.toNat r.down) default).place-(S.getD (Int.toNat r.up) default).place/\(S.getD (Int.toNat r.down) default).place-(S.getD (Int.toNat r.up) default).place<=10000:=by
  have h1:=hS.up (Int.toNat r.up) (Int.toNat r.down) (by have:=h.u0; have:=h.ud; omega) h.id
  have h2:=hS.place _ h.id
  have h3:=hS.place _ h.iu
  omega
end
def stLo (M:List Mrk) (ms:List Int) (p:Int):Int:=ms.foldl (fun a k=>if p<=(M.getD (Int.toNat k) default).place then max a (M.getD (Int.toNat k) default).lo else a) 0
def stHi (M:List Mrk) (ms:List Int) (p:Int):Int:=ms.foldl (fun a k=>if (M.getD (Int.toNat k) default).place<=p then min a (M.getD (Int.toNat k) default).hi else a) 2000
end Fl
end Go.Nm
namespace Go.Proofs.YtpiebomegbbpcaaGreat
open Go Go.Nm
theorem least_ends (a b:Int):(zby a [b]).Ends (min a b):=by
  unfold zby
  refine M.i_bind (M.i_next (s':=(min a b,1)) ?_ (M.i_stop ?_)) M.i_pure
  · simp only [zaI]
    exact M.i_t (by simp) (M.i_grd (by simp) M.i_pure)
  · simp only [zaI]
    exact M.i_f (by simp) M.i_pure
theorem stages_ends {S:List Sect} {M':List Mrk} {R':List Rch} {ms:List Int} {i:Int} (hm:∀ k∈ms,0<=k/\k<M'.length) (h0:0<=i) (h1:i<S.length) :
    (zbO S M' R' ms i).Ends (Fl.stLo M' ms (S.getD (Int.toNat i) default).place,Fl.stHi M' ms (S.getD (Int.toNat i) default).place):=by
  unfold zbO
  refine M.i_bind (a:=(Fl.stLo M' ms (S.getD (Int.toNat i) default).place,Fl.stHi M' ms (S.getD (Int.toNat i) default).place)) ?_ M.i_pure
  refine M.i_for (fun j=>(Fl.stLo M' (ms.take j) (S.getD (Int.toNat i) default).place,Fl.stHi M' (ms.take j) (S.getD (Int.toNat i) default).place,j)) ms.length (fun j hj=>?_) ?_
  · have hk:=hm (ms.getD j 0) (by rw [getD_el ms hj]; exact List.getElem_mem hj)
    simp only [zbf]
    refine M.i_t (decide_eq_true (by omega)) (M.i_grd (decide_eq_true (by omega)) (M.i_grd (gA2 hk.1 hk.2) (M.i_grd (gA2 h0 h1) ?_)))
    have el:Fl.stLo M' (ms.take (j+1)) (S.getD (Int.toNat i) default).place=if (S.getD (Int.toNat i) default).place<=(M'.getD (Int.toNat (ms.getD j 0)) default).place then max (Fl.stLo M' (ms.take j) (S.getD (Int.toNat i) default).place) (M'.getD (Int.toNat (ms.getD j 0)) default).lo else Fl.stLo M' (ms.take j) (S.getD (Int.toNat i) default).place:=by
      rw [← take_succ_D ms j hj 0]
      unfold Fl.stLo
      rw [List.foldl_append]
      rfl
    have eh:Fl.stHi M' (ms.take (j+1)) (S.getD (Int.toNat i) default).place=if (M'.getD (Int.toNat (ms.getD j 0)) default).place<=(S.getD (Int.toNat i) default).place then min (Fl.stHi M' (ms.take j) (S.getD (Int.toNat i) default).place) (M'.getD (Int.toNat (ms.getD j 0)) default).hi else Fl.stHi M' (ms.take j) (S.getD (Int.toNat i) default).place:=by
      rw [← take_succ_D ms j hj 0]
      unfold Fl.stHi
      rw [List.foldl_append]
      rfl
    rw [el,eh]
    refine M.i_if (fun hc=>?_) (fun hc=>?_)
    · have hc:=of_decide_eq_true hc
      rw [if_pos hc]
      refine M.i_bind (least_ends _ _) (M.i_if (fun hd=>?_) (fun hd=>?_))
      · rw [if_pos (of_decide_eq_true hd)]; exact M.i_pure
      · rw [if_neg (of_decide_eq_false hd)]; exact M.i_pure
    · have hc:=of_decide_eq_false hc
      rw [if_neg hc]
      refine M.i_if (fun hd=>?_) (fun hd=>?_)
      · rw [if_pos (of_decide_eq_true hd)]; exact M.i_pure
      · rw [if_neg (of_decide_eq_false hd)]; exact M.i_pure
  · simp only [zbf]
    rw [List.take_length]
    exact M.i_f (decide_eq_false (by omega)) M.i_pure
end Go.Proofs.YtpiebomegbbpcaaGreat
-- libD/GD.lean
namespace Go.Nm
namespace Fl
section
variable {M:List Mrk} {p:Int}
theorem lo_fold:∀ (ms:List Int) (a:Int),a<=ms.foldl (fun a k=>if p<=(M.getD (Int.toNat k) default).place then max a (M.getD (Int.toNat k) default).lo else a) a ∧
    (∀ k∈ms,p<=(M.getD (Int.toNat k) default).place->(M.getD (Int.toNat k) default).lo<=ms.foldl (fun a k=>if p<=(M.getD (Int.toNat k) default).place then max a (M.getD (Int.toNat k) default).lo else a) a) ∧
    (ms.foldl (fun a k=>if p<=(M.getD (Int.toNat k) default).place then max a (M.getD (Int.toNat k) default).lo else a) a=a∨∃ k∈ms,p<=(M.getD (Int.toNat k) default).place/\ms.foldl (fun a k=>if p<=(M.getD (Int.toNat k) default).place then max a (M.getD (Int.toNat k) default).lo else a) a=(M.getD (Int.toNat k) default).lo)
  | [],a=>⟨Int.le_refl _,fun k hk=>(List.not_mem_nil hk).elim,.inl rfl⟩
  | k :: ms,a=>by
    rw [List.foldl_cons]
    obtain ⟨h1,h2,h3⟩:=lo_fold ms (if p<=(M.getD (Int.toNat k) default).place then max a (M.getD (Int.toNat k) default).lo else a)
    by_cases hp:p<=(M.getD (Int.toNat k) default).place
    · rw [if_pos hp] at h1 h2 h3 ⊢
      refine ⟨by omega,fun j hj hpj=>?_,?_⟩
      · rcases List.mem_cons.1 hj with rfl | hj
        · omega
        · exact h2 j hj hpj
      · rcases h3 with h3 | ⟨j,hj,hpj,e⟩
        · rcases Int.le_total (M.getD (Int.toNat k) default).lo a with e | e
          · left; omega
          · right; exact ⟨k,by simp,hp,by omega⟩
        · right; exact ⟨j,by simp [hj],hpj,e⟩
    · rw [if_neg hp] at h1 h2 h3 ⊢
      refine ⟨h1,fun j hj hpj=>?_,?_⟩
      · rcases List.mem_cons.1 hj with rfl | hj
        · exact absurd hpj hp
        · exact h2 j hj hpj
      · rcases h3 with h3 | ⟨j,hj,hpj,e⟩
        · exact .inl h3
        · right; exact ⟨j,by simp [hj],hpj,e⟩
theorem hi_fold:∀ (ms:List Int) (a:Int),ms.foldl (fun a k=>if (M.getD (Int.toNat k) default).place<=p then min a (M.getD (Int.toNat k) default).hi else a) a<=a ∧
    (∀ k∈ms,(M.getD (Int.toNat k) default).place<=p->ms.foldl (fun a k=>if (M.getD (Int.toNat k) default).place<=p then min a (M.getD (Int.toNat k) default).hi else a) a<=(M.getD (Int.toNat k) default).hi) ∧
    (ms.foldl (fun a k=>if (M.getD (Int.toNat k) default).place<=p then min a (M.getD (Int.toNat k) default).hi else a) a=a∨∃ k∈ms,(M.getD (Int.toNat k) default).place<=p/\ms.foldl (fun a k=>if (M.getD (Int.toNat k) default).place<=p then min a (M.getD (Int.toNat k) default).hi else a) a=(M.getD (Int.toNat k) default).hi)
  | [],a=>⟨Int.le_refl _,fun k hk=>(List.not_mem_nil hk).elim,.inl rfl⟩
  | k :: ms,a=>by
    rw [List.foldl_cons]
    obtain ⟨h1,h2,h3⟩:=hi_fold ms (if (M.getD (Int.toNat k) default).place<=p then min a (M.getD (Int.toNat k) default).hi else a)
    by_cases hp:(M.getD (Int.toNat k) default).place<=p
    · rw [if_pos hp] at h1 h2 h3 ⊢
      refine ⟨by omega,fun j hj hpj=>?_,?_⟩
      · rcases List.mem_cons.1 hj with rfl | hj
        · omega
        · exact h2 j hj hpj
      · rcases h3 with h3 | ⟨j,hj,hpj,e⟩
        · rcases Int.le_total a (M.getD (Int.toNat k) default).hi with e | e
          · left; omega
          · right; exact ⟨k,by simp,hp,by omega⟩
        · right; exact ⟨j,by simp [hj],hpj,e⟩
    · rw [if_neg hp] at h1 h2 h3 ⊢
      refine ⟨h1,fun j hj hpj=>?_,?_⟩
      · rcases List.mem_cons.1 hj with rfl | hj
        · exact absurd hpj hp
        · exact h2 j hj hpj
      · rcases h3 with h3 | ⟨j,hj,hpj,e⟩
        · exact .inl h3
        · right; exact ⟨j,by simp [hj],hpj,e⟩
theorem stLo_ex (ms:List Int):stLo M ms p=0∨∃ k∈ms,p<=(M.getD (Int.toNat k) default).place/\stLo M ms p=(M.getD (Int.toNat k) default).lo:=(lo_fold ms 0).2.2
theorem stHi_le (ms:List Int):stHi M ms p<=2000:=(hi_fold ms 2000).1
theorem stHi_ex (ms:List Int):stHi M ms p=2000∨∃ k∈ms,(M.getD (Int.toNat k) default).place<=p/\stHi M ms p=(M.getD (Int.toNat k) default).hi:=(hi_fold ms 2000).2.2
end
/-- Marks that are true together. -/
def Tog (M:List Mrk) (ms:List Int):Prop:=∀ a∈ms,∀ b∈ms,¬((M.getD (Int.toNat a) default).place<=(M.getD (Int.toNat b) default).place/\(M.getD (Int.toNat a) default).hi<(M.getD (Int.toNat b) default).lo)
def Ixs (M:List Mrk) (ms:List Int):Prop:=∀ k∈ms,0<=k/\k<M.length
section
variable (S:List Sect) (M:List Mrk) (ms:List Int) (r:Rch)
def pu:Int:=(S.getD (Int.toNat r.up) default).place
def hc (x:Int):Cas:=⟨stHi M ms (pu S r),x,r.lo,r.lo⟩
end
section
variable {S:List Sect} {M:List Mrk} {ms:List Int} {r:Rch}
end
end Fl
end Go.Nm
namespace Go.Proofs.YtpiebomegbbpcaaGreat
open Go Go.Nm
section
variable {S:List Sect} {M':List Mrk} {R':List Rch} {ms:List Int} {r:Rch}
end
end Go.Proofs.YtpiebomegbbpcaaGreat
-- libD/GE.lean
namespace Go.Nm
namespace Fl
theorem Rows.cle {l:List FRow} (h:Rows l) {i j:Nat} (hij:i<=j) (hj:j<l.length):(l.getD i default).carry<=(l.getD j default).carry:=by
  induction j with
  | zero=>rw [show i=0 by omega]; exact Int.le_refl _
  | succ j ih =>
    rcases Nat.lt_or_eq_of_le hij with e | rfl
    · have:=ih (by omega) (by omega)
      have:=h.cm j hj
      omega
    · exact Int.le_refl _
/-- Marks, one behind the other. -/
def Inc (M:List Mrk) (ms:List Int):Prop:=ms.Pairwise (· < ·)/\Ixs M ms
end Fl
end Go.Nm
namespace Go.Proofs.YtpiebomegbbpcaaGreat
open Go Go.Nm
theorem in_true {n a b:Int} (h1:a<=n) (h2:n<=b):(zae n a b).Ends true:=by
  have:(zae n a b).Ends (decide (a<=n)&&decide (n<=b)):=M.i_pure
  rwa [gA2 h1 h2] at this
theorem every_sect (l:List Sect) (so:Sect->M Bool) (h:∀ t∈l,(so t).Ends true):(zbD l so).Ends true:=by
  unfold zbD zce zcc
  refine M.i_bind (a:=false) (M.i_bind (a:=-1) (M.i_bind (a:=(.inr ():Int ⊕ Unit)) ?_ M.i_pure) M.i_pure) M.i_pure
  refine M.i_for (fun i=>i) l.length (fun i hi=>?_) ?_
  · simp only [zaQ]
    have hm:l.getD i default∈l:=by rw [getD_el l hi]; exact List.getElem_mem hi
    refine M.i_t (decide_eq_true (by omega)) (M.i_grd (decide_eq_true (by omega)) (M.i_bind (a:=false) ?_ (M.i_f rfl M.i_pure)))
    unfold zbA
    exact M.i_bind (h _ hm) M.i_pure
  · simp only [zaQ]
    exact M.i_f (decide_eq_false (by omega)) M.i_pure
theorem every_mark (l:List Mrk) (so:Mrk->M Bool) (h:∀ t∈l,(so t).Ends true):(zbr l so).Ends true:=by
  unfold zbr zck zch
  refine M.i_bind (a:=false) (M.i_bind (a:=-1) (M.i_bind (a:=(.inr ():Int ⊕ Unit)) ?_ M.i_pure) M.i_pure) M.i_pure
  refine M.i_for (fun i=>i) l.length (fun i hi=>?_) ?_
  · simp only [zbc]
    have hm:l.getD i default∈l:=by rw [getD_el l hi]; exact List.getElem_mem hi
    refine M.i_t (decide_eq_true (by omega)) (M.i_grd (decide_eq_true (by omega)) (M.i_bind (a:=false) ?_ (M.i_f rfl M.i_pure)))
    unfold zbQ
    exact M.i_bind (h _ hm) M.i_pure
  · simp only [zbc]
    exact M.i_f (decide_eq_false (by omega)) M.i_pure
theorem every_reach (l:List Rch) (so:Rch->M Bool) (h:∀ t∈l,(so t).Ends true):(zbR l so).Ends true:=by
  unfold zbR zb4 zcd
  refine M.i_bind (a:=false) (M.i_bind (a:=-1) (M.i_bind (a:=(.inr ():Int ⊕ Unit)) ?_ M.i_pure) M.i_pure) M.i_pure
  refine M.i_for (fun i=>i) l.length (fun i hi=>?_) ?_
  · simp only [zaZ]
    have hm:l.getD i default∈l:=by rw [getD_el l hi]; exact List.getElem_mem hi
    refine M.i_t (decide_eq_true (by omega)) (M.i_grd (decide_eq_true (by omega)) (M.i_bind (a:=false) ?_ (M.i_f rfl M.i_pure)))
    unfold zbT
    exact M.i_bind (h _ hm) M.i_pure
  · simp only [zaZ]
    exact M.i_f (decide_eq_false (by omega)) M.i_pure
theorem fevery_int (l:List Int) (so:Int->M Bool) (h:∀ t∈l,(so t).Ends true):(za9 l so).Ends true:=by
  unfold za9 zaS zat
  refine M.i_bind (a:=false) (M.i_bind (a:=-1) (M.i_bind (a:=(.inr ():Int ⊕ Unit)) ?_ M.i_pure) M.i_pure) M.i_pure
  refine M.i_for (fun i=>i) l.length (fun i hi=>?_) ?_
  · simp only [zan]
    have hm:l.getD i 0∈l:=by rw [getD_el l hi]; exact List.getElem_mem hi
    refine M.i_t (decide_eq_true (by omega)) (M.i_grd (decide_eq_true (by omega)) (M.i_bind (a:=false) ?_ (M.i_f rfl M.i_pure)))
    unfold zbM
    exact M.i_bind (h _ hm) M.i_pure
  · simp only [zan]
    exact M.i_f (decide_eq_false (by omega)) M.i_pure
theorem sright_ends {x:Sect} (hr:Fl.Rows x.rows) (h0:0<=x.place) (h1:x.place<=10000):(zbG x).Ends true:=by
  refine M.Out.ends ?_
  unfold zbG
  refine M.o_bind (P:=fun z=>match z with | .inl _=>False | .inr (_:Int × Int)=>True) ?_ ?_
  · refine M.o_for x.rows.length (fun i (s:Int × Int × Nat)=>s.2.2=i/\-1<=s.1/\s.1<=2000/\(∀ j,i<=j->j<x.rows.length->s.1<(x.rows.getD j default).stage)/\∀ j,i<=j->j<x.rows.length->s.2.1<=(x.rows.getD j default).carry) ?_ ?_ (s:=(-1,0,0)) ⟨rfl,by decide,by decide,fun j _ hj=>by have:=hr.el j hj; dsimp only; omega,fun j _ hj=>by have:=hr.el j hj; dsimp only; omega⟩
    · rintro i ⟨a,b,_⟩ hi ⟨rfl,h2,h3,h4,h5⟩
      dsimp only at hi h2 h3 h4 h5 ⊢
      have e:=hr.el _ hi
      have k1:=h4 _ (Nat.le_refl _) hi
      have k2:=h5 _ (Nat.le_refl _) hi
      simp only [zaW]
      refine M.o_t (decide_eq_true (by omega)) (M.o_grd (decide_eq_true (by omega)) (M.o_grd (gA2 (by omega) (by omega)) (M.o_bindE (in_true (by omega) (by omega)) (M.o_bindE (M.i_opt (fun _=>in_true (by omega) (by omega)) (fun h=>by cases h)) (M.o_f rfl (M.o_pure ⟨rfl,by dsimp only; omega,by dsimp only; omega,fun j hj hj'=>hr.lt hj hj',fun j hj hj'=>hr.cle (by omega) hj'⟩))))))
    · rintro ⟨a,b,_⟩ ⟨rfl,_⟩
      simp only [zaW]
      exact M.o_f (decide_eq_false (by omega)) (M.o_pure trivial)
  · intro z hz
    cases z with
    | inl _=>exact hz.elim
    | inr _=>exact M.o_bindE (in_true h0 h1) (M.o_pure rfl)
theorem mright_ends {m:Mrk} (h:Fl.Mok m):(zaR m).Ends true:=by
  obtain ⟨h1,h2,h3,h4,h5⟩:=h
  unfold zaR zaL
  exact M.i_bind (in_true h1 h2) (M.i_bind (M.i_opt (fun _=>M.i_bind (in_true h3 (by dsimp only; omega)) (M.i_bind (M.i_opt (fun _=>in_true h4 h5) (fun h=>by cases h)) M.i_pure)) (fun h=>by cases h)) M.i_pure)
theorem rright_ends {S:List Sect} {r:Rch} (hn:S.length<=6) (h:Fl.Rok S r):(zbt r (S.length:Int)).Ends true:=by
  obtain ⟨h1,h2,h3,h4,h5,h6⟩:=h
  unfold zbt zaL
  refine M.i_grd (gA2 (by omega) (by omega)) (M.i_bind (in_true h1 (by omega)) (M.i_grd (gOr2 (by omega) (by omega)) (M.i_bind (M.i_opt (fun _=>in_true (by omega) (by omega)) (fun h=>by cases h)) (M.i_bind (M.i_opt (fun _=>M.i_bind (in_true h4 (by dsimp only; omega)) (M.i_bind (M.i_opt (fun _=>in_true h5 h6) (fun h=>by cases h)) M.i_pure)) (fun h=>by cases h)) M.i_pure))))
section
variable {S:List Sect} {M':List Mrk} {R':List Rch} {ms:List Int} {r:Rch}
theorem fcheck_ends (h:Fl.Site S M' R'):(zbz S M' R').Ends 0:=by
  obtain ⟨hS,hm,hr,hmk,hrk⟩:=h
  obtain ⟨hn,hrows,hpl,hup⟩:=hS
  unfold zbz
  refine M.i_bind (in_true (by omega) (by omega)) (M.i_bind (M.i_opt (fun _=>in_true (by omega) (by omega)) (fun h=>by cases h)) (M.i_bind (M.i_opt (fun _=>in_true (by omega) (by omega)) (fun h=>by cases h)) (M.i_bind (M.i_opt (fun _=>every_sect _ _ fun x hx=>?_) (fun h=>by cases h)) (M.i_f rfl ?_))))
  · obtain ⟨i,hi,rfl⟩:=mem_getD hx default
    unfold zbX
    have:=hrows i hi
    exact M.i_bind (in_true (by omega) (by omega)) M.i_pure
  · refine M.Out.ends (M.o_bind (P:=fun z=>match z with | .inl _=>False | .inr (_:Unit)=>True) ?_ ?_)
    · refine M.o_for S.length (fun i (s:Int × Nat)=>s.2=i/\∀ j,i<=j->j<S.length->s.1<(S.getD j default).place) ?_ ?_ (s:=(-1,0)) ⟨rfl,fun j _ hj=>by have:=hpl j hj; dsimp only; omega⟩
      · rintro i ⟨a,_⟩ hi ⟨rfl,h2⟩
        dsimp only at hi h2 ⊢
        have e:=hpl _ hi
        have k1:=h2 _ (Nat.le_refl _) hi
        simp only [zbh]
        exact M.o_t (decide_eq_true (by omega)) (M.o_grd (decide_eq_true (by omega)) (M.o_bindE (sright_ends (hrows _ hi).1 e.1 e.2) (M.o_f (decide_eq_false (p:=(S.getD _ default).place<=a) (by omega)) (M.o_pure ⟨rfl,fun j hj hj'=>hup _ _ hj hj'⟩))))
      · rintro ⟨a,_⟩ ⟨rfl,_⟩
        simp only [zbh]
        exact M.o_f (decide_eq_false (by omega)) (M.o_pure trivial)
    · intro z hz
      cases z with
      | inl _=>exact hz.elim
      | inr _ =>
        refine M.o_bindE (every_mark _ _ fun x hx=>mright_ends (hmk x hx)) (M.o_bindE (M.i_opt (fun _=>every_reach _ _ fun x hx=>?_) (fun h=>by cases h)) (M.o_f rfl (M.o_pure rfl)))
        unfold zbm
        exact M.i_bind (rright_ends hn.2 (hrk x hx)) M.i_pure
theorem opened_ends (h:Fl.Site S M' R'):(zbL S M' R').Ends (.inr 0):=by
  unfold zbL
  exact M.i_bind (fcheck_ends h) (M.i_f rfl M.i_pure)
theorem chosen_ends (h:Fl.Site S M' R') (hc:Fl.Inc M' ms):(zbl S M' R' ms).Ends (.inr 0):=by
  unfold zbl
  refine M.i_bind (opened_ends h) (M.i_bind (a:=0) (M.Out.ends ?_) M.i_pure)
  have hm:=h.m
  refine M.o_for ms.length (fun i (s:Int × Int × Nat)=>s.1=0/\s.2.2=i/\-1<=s.2.1/\s.2.1<=16/\∀ j,i<=j->j<ms.length->s.2.1<ms.getD j 0) ?_ ?_ (s:=(0,-1,0)) ⟨rfl,rfl,by decide,by decide,fun j _ hj=>by have:=hc.2 (ms.getD j 0) (by rw [getD_el ms hj]; exact List.getElem_mem hj); dsimp only; omega⟩
  · rintro i ⟨_,a,_⟩ hi ⟨rfl,rfl,h2,h3,h4⟩
    dsimp only at hi h2 h3 h4 ⊢
    have e:=hc.2 (ms.getD _ 0) (by rw [getD_el ms hi]; exact List.getElem_mem hi)
    have k1:=h4 _ (Nat.le_refl _) hi
    simp only [zba]
    refine M.o_t (decide_eq_true (by omega)) (M.o_grd (decide_eq_true (by omega)) (M.o_grd (gOr2 (by omega) (by omega)) (M.o_bindE (M.i_opt (fun _=>in_true (by omega) (by omega)) (fun h=>by cases h)) (M.o_f rfl (M.o_pure ⟨rfl,rfl,by dsimp only; omega,by dsimp only; omega,fun j hj hj'=>?_⟩)))))
    rw [getD_el ms hi,getD_el ms hj']
    exact List.pairwise_iff_getElem.1 hc.1 _ _ hi hj' hj
  · rintro ⟨_,a,_⟩ ⟨rfl,rfl,_⟩
    simp only [zba]
    exact M.o_f (decide_eq_false (by omega)) (M.o_pure rfl)
theorem fahead_ends {a b:Int} (ha:0<=a/\a<M'.length) (hb:0<=b/\b<M'.length) :
    (za0 S M' R' a b).Ends (decide ((M'.getD (Int.toNat a) default).place<=(M'.getD (Int.toNat b) default).place)&&decide ((M'.getD (Int.toNat a) default).hi<(M'.getD (Int.toNat b) default).lo)):=by
  unfold za0
  exact M.i_grd (gA2 ha.1 ha.2) (M.i_grd (gA2 hb.1 hb.2) M.i_pure)
theorem ahead_false {a b:Int} (hx:Fl.Ixs M' ms) (ht:Fl.Tog M' ms) (ha:a∈ms) (hb:b∈ms):(za0 S M' R' a b).Ends false:=by
  have:=fahead_ends (S:=S) (R':=R') (hx a ha) (hx b hb)
  rwa [show (decide ((M'.getD (Int.toNat a) default).place<=(M'.getD (Int.toNat b) default).place)&&decide ((M'.getD (Int.toNat a) default).hi<(M'.getD (Int.toNat b) default).lo))=false by
    rw [Bool.and_eq_false_iff,decide_eq_false_iff_not,decide_eq_false_iff_not]
    have:=ht a ha b hb
    omega] at this
theorem together_ends (hx:Fl.Ixs M' ms) (ht:Fl.Tog M' ms):(zbF S M' R' ms).Ends true:=by
  unfold zbF
  refine M.i_bind (fevery_int _ _ fun a ha=>?_) M.i_pure
  unfold zbp
  refine M.i_bind (fevery_int _ _ fun b hb=>?_) M.i_pure
  unfold zbu
  exact M.i_bind (ahead_false hx ht ha hb) M.i_pure
end
end Go.Proofs.YtpiebomegbbpcaaGreat
-- libD/GF.lean
namespace Go.Nm
namespace Fl
def surf (S:List Sect) (M:List Mrk) (ms:List Int):List Span:=(List.range S.length).map fun i=>⟨stLo M ms (S.getD i default).place,stHi M ms (S.getD i default).place⟩
theorem surf_len (S:List Sect) (M:List Mrk) (ms:List Int):(surf S M ms).length=S.length:=by simp [surf]
theorem surf_at {S:List Sect} {M:List Mrk} {ms:List Int} {i:Nat} (h:i<S.length):(surf S M ms).getD i default=⟨stLo M ms (S.getD i default).place,stHi M ms (S.getD i default).place⟩:=by
  rw [getD_el _ (by rw [surf_len]; exact h)]
  simp [surf]
end Fl
end Go.Nm
namespace Go.Proofs.YtpiebomegbbpcaaGreat
open Go Go.Nm
section
variable {S:List Sect} {M':List Mrk} {R':List Rch} {ms:List Int} {r:Rch}
theorem Surface_ends (h:Fl.Site S M' R') (hc:Fl.Inc M' ms) (ht:Fl.Tog M' ms):(zbU S M' R' ms).Ends (Fl.surf S M' ms,0):=by
  have hn:=h.s.n
  unfold zbU
  refine M.i_bind (chosen_ends h hc) (M.i_f rfl (M.i_bind (together_ends hc.2 ht) (M.i_f rfl (M.i_bind (a:=(Fl.surf S M' ms,Fl.surf S M' ms)) ?_ M.i_pure))))
  refine M.i_for (fun i=>(i,(List.range i).map fun i=>(⟨Fl.stLo M' ms (S.getD i default).place,Fl.stHi M' ms (S.getD i default).place⟩:Span))) S.length (fun i hi=>?_) ?_
  · simp only [zaT]
    refine M.i_t (decide_eq_true (by omega)) (M.i_bind (stages_ends hc.2 (by omega) (by omega)) (M.i_grd (decide_eq_true ?_) ?_))
    · simp; omega
    · rw [List.range_succ,List.map_append,Int.toNat_natCast]
      exact M.i_pure
  · simp only [zaT]
    exact M.i_f (decide_eq_false (by omega)) M.i_pure
end
end Go.Proofs.YtpiebomegbbpcaaGreat
-- libD/GM.lean
namespace Go.Nm
namespace Fl
def ints (n:Nat):List Int:=(List.range n).map fun i:Nat=>(i:Int)
theorem ints_len (n:Nat):(ints n).length=n:=by simp [ints]
theorem ints_succ (n:Nat):ints (n+1)=ints n++[(n:Int)]:=by unfold ints; rw [List.range_succ,List.map_append]; rfl
end Fl
end Go.Nm
namespace Go.Proofs.YtpiebomegbbpcaaGreat
open Go Go.Nm
section
variable {S:List Sect} {M':List Mrk} {R':List Rch}
end
end Go.Proofs.YtpiebomegbbpcaaGreat
-- libD/GT.lean
namespace Go.Nm
namespace Fl
theorem Rows.snoc:∀ {l:List FRow} {a:FRow},Rows l->(∀ e∈l,e.stage<a.stage/\e.carry<=a.carry)->0<=a.stage->a.stage<=2000->0<=a.carry->a.carry<=100000->Rows (l++[a])
  | [],_,_,_,h1,h2,h3,h4=>⟨h1,h2,h3,h4⟩
  | [b],a,h,he,h1,h2,h3,h4=>by
    have:=he b (by simp)
    exact ⟨h.1,this.1,h.2.2.1,this.2,h1,h2,h3,h4⟩
  | b :: c :: r,a,h,he,h1,h2,h3,h4=>by
    obtain ⟨k1,k2,k3,k4,k5⟩:=h
    exact ⟨k1,k2,k3,k4,k5.snoc (fun e hh=>he e (by simp [List.mem_cons.1 hh])) h1 h2 h3 h4⟩
/-- A site with what really was: stages that fall downstream, marks about them, and roughness that is allowed. -/
structure Truth (S:List Sect) (M:List Mrk) (R:List Rch) (t ro:List Int):Prop where
  site:Site S M R
  m8:M.length<=8
  tl:t.length=S.length
  rl:ro.length=S.length
  tr:∀ i,i<S.length->0<=t.getD i 0/\t.getD i 0<=2000
  td:∀ i j,i<=j->j<S.length->t.getD j 0<=t.getD i 0
  gap:∀ i j,i<j->j<S.length->(S.getD i default).place+21<=(S.getD j default).place
  mt:∀ m∈M,∃ j,j<S.length/\(S.getD j default).place<=m.place/\m.place<=(S.getD j default).place+19/\m.lo<=t.getD j 0/\t.getD j 0<=m.hi
  ro0:∀ i,i<S.length->1<=ro.getD i 0/\ro.getD i 0<=400
  rt:∀ r∈R,r.lo<=ro.getD (Int.toNat r.up) 0/\r.lo<=ro.getD (Int.toNat r.down) 0/\ro.getD (Int.toNat r.up) 0<=r.hi/\ro.getD (Int.toNat r.down) 0<=r.hi
section
variable {S:List Sect} {M:List Mrk} {R:List Rch} {t ro:List Int} {ms:List Int}
theorem Truth.no (h:Truth S M R t ro) {a b:Mrk} (ha:a∈M) (hb:b∈M):¬(a.place<=b.place/\a.hi<b.lo):=by
  rintro ⟨h1,h2⟩
  obtain ⟨i,i1,i2,i3,i4,i5⟩:=h.mt a ha
  obtain ⟨j,j1,j2,j3,j4,j5⟩:=h.mt b hb
  by_cases e:i<=j
  · have:=h.td i j e j1
    omega
  · have:=h.gap j i (by omega) i1
    omega
theorem Truth.tog (h:Truth S M R t ro) (hx:Ixs M ms):Tog M ms:=fun a ha b hb=>by
  have h1:=hx a ha
  have h2:=hx b hb
  have l1:Int.toNat a<M.length:=by omega
  have l2:Int.toNat b<M.length:=by omega
  rw [getD_el M l1,getD_el M l2]
  exact h.no (List.getElem_mem l1) (List.getElem_mem l2)
/-- The stage that really was lies between what the marks leave. -/
theorem Truth.bet (h:Truth S M R t ro) (hx:Ixs M ms) {i:Nat} (hi:i<S.length):stLo M ms (S.getD i default).place<=t.getD i 0/\t.getD i 0<=stHi M ms (S.getD i default).place:=by
  have key:∀ k∈ms,∃ j,j<S.length/\(S.getD j default).place<=(M.getD (Int.toNat k) default).place/\(M.getD (Int.toNat k) default).place<=(S.getD j default).place+19/\(M.getD (Int.toNat k) default).lo<=t.getD j 0/\t.getD j 0<=(M.getD (Int.toNat k) default).hi:=fun k hk=>by
    have h1:=hx k hk
    have l1:Int.toNat k<M.length:=by omega
    rw [getD_el M l1]
    exact h.mt _ (List.getElem_mem l1)
  have ht:=h.tr i hi
  constructor
  · rcases stLo_ex (M:=M) (p:=(S.getD i default).place) ms with e | ⟨k,hk,hp,e⟩
    · omega
    · obtain ⟨j,j1,j2,j3,j4,j5⟩:=key k hk
      by_cases c:i<=j
      · have:=h.td i j c j1
        omega
      · have:=h.gap j i (by omega) hi
        omega
  · rcases stHi_ex (M:=M) (p:=(S.getD i default).place) ms with e | ⟨k,hk,hp,e⟩
    · omega
    · obtain ⟨j,j1,j2,j3,j4,j5⟩:=key k hk
      by_cases c:j<=i
      · have:=h.td j i c hi
        omega
      · have:=h.gap i j (by omega) j1
        omega
end
end Fl
end Go.Nm
-- libD/GS.lean
namespace Go.Nm
namespace Fl
theorem getD_app {α:Type} {l:List α} {x d:α} {j:Nat} (h:j<l.length):(l++[x]).getD j d=l.getD j d:=by
  simp [List.getD,List.getElem?_append_left h]
theorem getD_appE {α:Type} {l:List α} {x d:α} {j:Nat} (h:l.length=j):(l++[x]).getD j d=x:=by
  subst h
  simp [List.getD]
/-- A mark about what was. -/
def Mt (S:List Sect) (t:List Int) (m:Mrk):Prop:=Mok m/\∃ j,j<S.length/\(S.getD j default).place<=m.place/\m.place<=(S.getD j default).place+19/\m.lo<=t.getD j 0/\t.getD j 0<=m.hi
/-- What is made so far. -/
structure Mi (S:List Sect) (M:List Mrk) (t ro:List Int) (place stage:Int):Prop where
  tl:t.length=S.length
  rl:ro.length=S.length
  rows:∀ j,j<S.length->Rows (S.getD j default).rows/\2<=(S.getD j default).rows.length/\(S.getD j default).rows.length<=8
  pl:∀ j,j<S.length->0<=(S.getD j default).place/\(S.getD j default).place+21<=place
  gap:∀ i j,i<j->j<S.length->(S.getD i default).place+21<=(S.getD j default).place
  tr:∀ j,j<S.length->stage<=t.getD j 0/\t.getD j 0<=400
  td:∀ i j,i<=j->j<S.length->t.getD j 0<=t.getD i 0
  mt:∀ m∈M,Mt S t m
  m8:M.length<=8
  ro0:∀ j,j<S.length->30<=ro.getD j 0/\ro.getD j 0<=90
  p0:0<=place
  p1:place<=50+200*S.length
  s0:100<=stage+19*S.length
  s1:stage<=400
theorem Mt.app {S:List Sect} {t:List Int} {m:Mrk} {s:Sect} {v:Int} (hl:t.length=S.length) (h:Mt S t m):Mt (S++[s]) (t++[v]) m:=by
  obtain ⟨h0,j,h1,h2⟩:=h
  refine ⟨h0,j,by simp; omega,?_⟩
  rw [getD_app h1,getD_app (by omega)]
  exact h2
theorem Mi.step {S:List Sect} {M M':List Mrk} {t ro:List Int} {place stage p q r:Int} {rows:List FRow} (h:Mi S M t ro place stage) (hr:Rows rows) (h2:2<=rows.length) (h8:rows.length<=8) (hm:∀ m∈M',Mt (S++[⟨place,rows⟩]) (t++[stage]) m) (m8:M'.length<=8)
    (hp:21<=p/\p<=200) (hq:0<=q/\q<=19) (hro:30<=r/\r<=90):Mi (S++[⟨place,rows⟩]) M' (t++[stage]) (ro++[r]) (place+p) (stage-q):=by
  have e1:=h.tl
  have e2:=h.rl
  have p0:=h.p0
  have p1:=h.p1
  have s0:=h.s0
  have s1:=h.s1
  have split:∀ j,j<(S++[(⟨place,rows⟩:Sect)]).length->j<S.length∨j=S.length:=fun j hj=>by simp at hj; omega
  refine ⟨by simp [e1],by simp [e2],fun j hj=>?_,fun j hj=>?_,fun i j hij hj=>?_,fun j hj=>?_,fun i j hij hj=>?_,hm,m8,fun j hj=>?_,by omega,by simp; omega,by simp; omega,by omega⟩
  · rcases split j hj with e | rfl
    · rw [getD_app e]; exact h.rows j e
    · rw [getD_appE rfl]; exact ⟨hr,h2,h8⟩
  · rcases split j hj with e | rfl
    · rw [getD_app e]; have:=h.pl j e; omega
    · rw [getD_appE rfl]; dsimp only; omega
  · rcases split j hj with e | rfl
    · rw [getD_app e,getD_app (by omega)]; exact h.gap i j hij e
    · rw [getD_appE rfl,getD_app hij]; exact (h.pl i hij).2
  · rcases split j hj with e | rfl
    · rw [getD_app (by omega)]; have:=h.tr j e; omega
    · rw [getD_appE e1]; omega
  · rcases split j hj with e | rfl
    · rw [getD_app (by omega),getD_app (by omega)]; exact h.td i j hij e
    · rw [getD_appE e1]
      rcases Nat.lt_or_eq_of_le hij with e | rfl
      · rw [getD_app (by omega)]; exact (h.tr i e).1
      · rw [getD_appE e1]; exact Int.le_refl _
  · rcases split j hj with e | rfl
    · rw [getD_app (by omega)]; exact h.ro0 j e
    · rw [getD_appE e2]; exact hro
end Fl
end Go.Nm
namespace Go.Proofs.YtpiebomegbbpcaaGreat
open Go Go.Nm
theorem b6_out {b:List UInt8} {c u x a0 c0 K:Int} (hS:SOk c u x) (hc:c<=100000) (ha:0<=a0/\a0<=60) (hc0:0<=c0/\c0<=50) (hK:2<=K/\K<=4) :
    (M.iter (za1 b) (u,x,a0,c0,K,[])).Out (fun z=>SOk (c+10) z.1 z.2.1/\Fl.Rows z.2.2.2/\2<=z.2.2.2.length/\z.2.2.2.length<=8):=by
  refine M.o_iter (fun m (s:Int × Int × Int × Int × Int × List FRow)=>m=s.2.2.2.2.1.toNat/\0<=s.2.2.2.2.1/\s.2.2.2.2.1+s.2.2.2.2.2.length=K/\SOk (c+2*s.2.2.2.2.2.length) s.1 s.2.1/\Fl.Rows s.2.2.2.2.2/\(∀ e∈s.2.2.2.2.2,e.stage<s.2.2.1/\e.carry<=s.2.2.2.1)/\0<=s.2.2.1/\s.2.2.1<=60+200*s.2.2.2.2.2.length/\0<=s.2.2.2.1/\s.2.2.2.1<=50+2000*s.2.2.2.2.2.length) ?_ _ (u,x,a0,c0,K,[]) ⟨rfl,by dsimp only; omega,by simp,by simpa using hS,trivial,fun e he=>(List.not_mem_nil he).elim,ha.1,by simp; omega,hc0.1,by simp; omega⟩
  rintro m ⟨u,x,a,ca,k,l⟩ ⟨rfl,k0,kl,hS,hr,he,a1,a2,c1,c2⟩
  dsimp only at k0 kl hS hr he a1 a2 c1 c2 ⊢
  simp only [za1]
  refine M.o_if (fun hb=>?_) (fun hb=>?_)
  · have hb:=of_decide_eq_true hb
    refine M.o_grd (decide_eq_true (by simp; omega)) (M.o_bind (within_out hS (by omega) (by omega) (by omega) (by omega)) ?_)
    rintro ⟨r8,u8,x8⟩ ⟨k8,g8,g8'⟩
    dsimp only at k8 g8 g8' ⊢
    refine M.o_grd (gA2 (by omega) (by omega)) (M.o_bind (next_out k8 (by omega) (by omega)) ?_)
    rintro ⟨r9,u9,x9⟩ ⟨k9,g9,_⟩
    have g9:=g9 (by omega)
    dsimp only at k9 g9 ⊢
    refine M.o_grd (gA2 (by omega) (by omega)) (M.o_grd (gA2 (by omega) (by omega)) (M.o_pure ⟨(k-1).toNat,by omega,rfl,by dsimp only; omega,by simp; omega,k9.mono (by simp; omega),hr.snoc he a1 (by dsimp only; omega) c1 (by dsimp only; omega),fun e h=>?_,by dsimp only; omega,by simp; omega,by dsimp only; omega,by simp; omega⟩))
    rcases List.mem_append.1 h with h | h
    · have:=he e h
      dsimp only
      omega
    · rw [List.mem_singleton] at h
      subst h
      dsimp only
      omega
  · have hb:=of_decide_eq_false hb
    exact M.o_pure ⟨hS.mono (by omega),hr,by dsimp only; omega,by dsimp only; omega⟩
theorem b7_out {b:List UInt8} {c u x place stage k:Int} (P:Mrk->Prop) (hP:∀ d e f:Int,0<=d->d<=19->0<=e->e<=8->0<=f->f<=8->P ⟨place+d,max 0 (stage-e),stage+f⟩) (hS:SOk c u x) (hc:c<=100000) (hk:0<=k/\k<=2) (hp:0<=place/\place<=10000) (hs:0<=stage/\stage<=1000) {l:List Mrk} (hl:l.length<=8) (h0:∀ m∈l,P m) :
    (M.iter (zaM b 8 false place stage) (u,x,k,l)).Out (fun z=>SOk (c+8) z.1 z.2.1/\(∀ m∈z.2.2.2,P m)/\z.2.2.2.length<=8):=by
  refine M.o_iter (fun m (s:Int × Int × Int × List Mrk)=>m=s.2.2.1.toNat/\0<=s.2.2.1/\s.2.2.1<=2/\SOk (c+4*(2-s.2.2.1)) s.1 s.2.1/\(∀ m∈s.2.2.2,P m)/\s.2.2.2.length<=8) ?_ _ (u,x,k,l) ⟨rfl,hk.1,hk.2,hS.mono (by dsimp only; omega),h0,hl⟩
  rintro m ⟨u,x,k,l⟩ ⟨rfl,k0,k2,hS,hm,h8⟩
  dsimp only at k0 k2 hS hm h8 ⊢
  simp only [zaM]
  refine M.o_if (fun hb=>?_) (fun hb=>?_)
  · rw [Bool.and_eq_true,decide_eq_true_eq,decide_eq_true_eq] at hb
    refine M.o_bind (next_out hS (by omega) (by omega)) ?_
    rintro ⟨r1,u1,x1⟩ ⟨k1,g1,_⟩
    have g1:=g1 (by omega)
    dsimp only at k1 g1 ⊢
    refine M.o_bind (next_out k1 (by omega) (by omega)) ?_
    rintro ⟨r2,u2,x2⟩ ⟨kk2,g2,_⟩
    have g2:=g2 (by omega)
    dsimp only at kk2 g2 ⊢
    have hd:0<=r1*r2/\r1*r2<=19:=by
      rcases (by omega:r1=0∨r1=1) with rfl | rfl
      · simp
      · simp; omega
    generalize r1*r2=d at hd ⊢
    refine M.o_grd (gA2 (by omega) (by omega)) (M.o_grd (gA2 (by omega) (by omega)) (M.o_bind (next_out kk2 (by omega) (by omega)) ?_))
    rintro ⟨r3,u3,x3⟩ ⟨k3,g3,_⟩
    have g3:=g3 (by omega)
    dsimp only at k3 g3 ⊢
    refine M.o_grd (gA2 (by omega) (by omega)) (M.o_bind (next_out k3 (by omega) (by omega)) ?_)
    rintro ⟨r4,u4,x4⟩ ⟨k4,g4,_⟩
    have g4:=g4 (by omega)
    dsimp only at k4 g4 ⊢
    refine M.o_grd (gA2 (by omega) (by omega)) (M.o_f rfl (M.o_grd (decide_eq_true (by simp; omega)) (M.o_grd (gA2 (by omega) (by omega)) (M.o_pure ⟨(k-1).toNat,by omega,rfl,by dsimp only; omega,by dsimp only; omega,k4.mono (by dsimp only; omega),fun m h=>?_,by simp; omega⟩))))
    rcases List.mem_append.1 h with h | h
    · exact hm m h
    · rw [List.mem_singleton] at h
      subst h
      exact hP _ _ _ hd.1 hd.2 (by omega) (by omega) (by omega) (by omega)
  · exact M.o_pure ⟨hS.mono (by omega),hm,h8⟩
end Go.Proofs.YtpiebomegbbpcaaGreat
-- libD/GU.lean
namespace Go.Proofs.YtpiebomegbbpcaaGreat
open Go Go.Nm
theorem b9_out {b:List UInt8} {u x p s N:Int} (hS:SOk 3 u x) (hp:0<=p/\p<=50) (hs:100<=s/\s<=400) (hN:2<=N/\N<=5) :
    (M.iter (zaO b 8 false) (u,x,p,s,N,[],[],[],[])).Out (fun z=>∃ S M t ro place stage,z=(z.1,z.2.1,S,M,t,ro,ro,t,M,S)/\SOk 1000 z.1 z.2.1/\Fl.Mi S M t ro place stage/\2<=S.length/\S.length<=5):=by
  refine M.o_iter (fun m (z:Int × Int × Int × Int × Int × List Sect × List Mrk × List Int × List Int)=>m=z.2.2.2.2.1.toNat/\0<=z.2.2.2.2.1/\z.2.2.2.2.1+z.2.2.2.2.2.1.length=N/\SOk (3+100*z.2.2.2.2.2.1.length) z.1 z.2.1/\Fl.Mi z.2.2.2.2.2.1 z.2.2.2.2.2.2.1 z.2.2.2.2.2.2.2.1 z.2.2.2.2.2.2.2.2 z.2.2.1 z.2.2.2.1) ?_ _ (u,x,p,s,N,[],[],[],[]) ⟨rfl,by dsimp only; omega,by simp,by simpa using hS,?_⟩
  · rintro m ⟨u,x,place,stage,n,S,M1,t,ro⟩ ⟨rfl,n0,nl,hS,h⟩
    dsimp only at n0 nl hS h ⊢
    simp only [zaO]
    have e1:=h.tl
    have e2:=h.rl
    have p0:=h.p0
    have p1:=h.p1
    have s0:=h.s0
    have s1:=h.s1
    refine M.o_if (fun hb=>?_) (fun hb=>?_)
    · have hb:=of_decide_eq_true hb
      refine M.o_bind (next_out hS (by omega) (by omega)) ?_
      rintro ⟨r5,u5,x5⟩ ⟨k5,g5,_⟩
      have g5:=g5 (by omega)
      dsimp only at k5 g5 ⊢
      refine M.o_bind (next_out k5 (by omega) (by omega)) ?_
      rintro ⟨r6,u6,x6⟩ ⟨k6,g6,_⟩
      have g6:=g6 (by omega)
      dsimp only at k6 g6 ⊢
      refine M.o_bind (within_out k6 (by omega) (by omega) (by omega) (by omega)) ?_
      rintro ⟨r7,u7,x7⟩ ⟨k7,g7,g7'⟩
      dsimp only at k7 g7 g7' ⊢
      refine M.o_bind (b6_out k7 (by omega) (by omega) (by omega) ⟨g7,g7'⟩) ?_
      rintro ⟨u8,x8,l2,rows⟩ ⟨k8,hr,hr2,hr8⟩
      dsimp only at k8 hr hr2 hr8 ⊢
      refine M.o_grd (decide_eq_true (by simp; omega)) (M.o_grd (decide_eq_true (by simp; omega)) (M.o_bind (within_out k8 (by omega) (by omega) (by omega) (by omega)) ?_))
      rintro ⟨r10,u10,x10⟩ ⟨k10,g10,g10'⟩
      dsimp only at k10 g10 g10' ⊢
      refine M.o_grd (decide_eq_true (by simp; omega)) ?_
      unfold zbv
      refine M.o_bind (next_out k10 (by omega) (by omega)) ?_
      rintro ⟨r11,u11,x11⟩ ⟨k11,g11,_⟩
      have g11:=g11 (by omega)
      dsimp only at k11 g11 ⊢
      refine M.o_bind (b7_out (Fl.Mt (S++[⟨place,rows⟩]) (t++[stage])) (fun d e f d0 d1 e0 e1' f0 f1=>?_) k11 (by omega) (by omega) (by omega) (by omega) h.m8 (fun m hm=>(h.mt m hm).app e1)) ?_
      · refine ⟨⟨by dsimp only; omega,by dsimp only; omega,by dsimp only; omega,by dsimp only; omega,by dsimp only; omega⟩,S.length,by simp,?_⟩
        rw [Fl.getD_appE rfl,Fl.getD_appE e1]
        dsimp only
        omega
      rintro ⟨u12,x12,l5,M2⟩ ⟨k12,hm2,m8⟩
      dsimp only at k12 hm2 m8 ⊢
      refine M.o_bind (within_out k12 (by omega) (by omega) (by omega) (by omega)) ?_
      rintro ⟨r19,u19,x19⟩ ⟨k19,g19,g19'⟩
      dsimp only at k19 g19 g19' ⊢
      refine M.o_grd (gA2 (by omega) (by omega)) (M.o_bind (next_out k19 (by omega) (by omega)) ?_)
      rintro ⟨r20,u20,x20⟩ ⟨k20,g20,_⟩
      have g20:=g20 (by omega)
      dsimp only at k20 g20 ⊢
      exact M.o_grd (gA2 (by omega) (by omega)) (M.o_grd (gA2 (by omega) (by omega)) (M.o_pure ⟨(n-1).toNat,by omega,rfl,by dsimp only; omega,by simp; omega,k20.mono (by simp; omega),h.step hr hr2 hr8 hm2 m8 ⟨g19,g19'⟩ (by omega) ⟨g10,g10'⟩⟩))
    · have hb:=of_decide_eq_false hb
      exact M.o_pure ⟨S,M1,t,ro,place,stage,rfl,hS.mono (by omega),h,by omega,by omega⟩
  · refine ⟨rfl,rfl,fun j hj=>?_,fun j hj=>?_,fun i j _ hj=>?_,fun j hj=>?_,fun i j _ hj=>?_,fun m hm=>(List.not_mem_nil hm).elim,by simp,fun j hj=>?_,hp.1,by simp; omega,by simp; omega,hs.2⟩ <;> simp at hj
theorem b10_out {b:List UInt8} {u x N:Int} {S:List Sect} {ro:List Int} (hS:SOk 2000 u x) (hn:2<=S.length/\S.length<=5) (hl:ro.length=S.length) (hro:∀ j,j<S.length->30<=ro.getD j 0/\ro.getD j 0<=90) (hN:1<=N/\N<=4) :
    (M.iter (zaK b ro S) (u,x,N,[])).Out (fun z=>z.1=z.2.1/\1<=z.1.length/\z.1.length<=4/\∀ r∈z.1,Fl.Rok S r/\r.lo<=ro.getD (Int.toNat r.up) 0/\r.lo<=ro.getD (Int.toNat r.down) 0/\ro.getD (Int.toNat r.up) 0<=r.hi/\ro.getD (Int.toNat r.down) 0<=r.hi):=by
  refine M.o_iter (fun m (s:Int × Int × Int × List Rch)=>m=s.2.2.1.toNat/\0<=s.2.2.1/\s.2.2.1+s.2.2.2.length=N/\SOk (2000+10*s.2.2.2.length) s.1 s.2.1/\∀ r∈s.2.2.2,Fl.Rok S r/\r.lo<=ro.getD (Int.toNat r.up) 0/\r.lo<=ro.getD (Int.toNat r.down) 0/\ro.getD (Int.toNat r.up) 0<=r.hi/\ro.getD (Int.toNat r.down) 0<=r.hi) ?_ _ (u,x,N,[]) ⟨rfl,by dsimp only; omega,by simp,by simpa using hS,fun r hr=>(List.not_mem_nil hr).elim⟩
  rintro m ⟨u,x,n,l⟩ ⟨rfl,n0,nl,hS,hr⟩
  dsimp only at n0 nl hS hr ⊢
  simp only [zaK]
  refine M.o_if (fun hb=>?_) (fun hb=>?_)
  · have hb:=of_decide_eq_true hb
    refine M.o_bind (next_out hS (by omega) (by omega)) ?_
    rintro ⟨a,u1,x1⟩ ⟨k1,g1,_⟩
    have g1:=g1 (by omega)
    dsimp only at k1 g1 ⊢
    refine M.o_bind (next_out k1 (by omega) (by omega)) ?_
    rintro ⟨w,u2,x2⟩ ⟨k2,g2,_⟩
    dsimp only at k2 ⊢
    refine M.o_grd (gA2 (by omega) (by omega)) (M.o_bind (within_out k2 (by omega) (by omega) (by omega) (by omega)) ?_)
    rintro ⟨d,u3,x3⟩ ⟨k3,g3,g3'⟩
    dsimp only at k3 g3 g3' ⊢
    have ra:=hro (Int.toNat a) (by omega)
    have rb:=hro (Int.toNat (a+d)) (by omega)
    refine M.o_grd (gA2 (by omega) (by omega)) (M.o_grd (gA2 (by omega) (by omega)) (M.o_grd (gA2 (by omega) (by omega)) (M.o_bind (next_out k3 (by omega) (by omega)) ?_)))
    rintro ⟨e,u4,x4⟩ ⟨k4,g4,_⟩
    have g4:=g4 (by omega)
    dsimp only at k4 g4 ⊢
    refine M.o_grd (gA2 (by omega) (by omega)) (M.o_bind (next_out k4 (by omega) (by omega)) ?_)
    rintro ⟨f,u5,x5⟩ ⟨k5,g5,_⟩
    have g5:=g5 (by omega)
    dsimp only at k5 g5 ⊢
    refine M.o_grd (gA2 (by omega) (by omega)) (M.o_grd (decide_eq_true (by simp; omega)) (M.o_grd (gA2 (by omega) (by omega)) (M.o_pure ⟨(n-1).toNat,by omega,rfl,by dsimp only; omega,by simp; omega,k5.mono (by simp; omega),fun r h=>?_⟩)))
    rcases List.mem_append.1 h with h | h
    · exact hr r h
    · rw [List.mem_singleton] at h
      subst h
      dsimp only
      exact ⟨⟨by dsimp only; omega,by dsimp only; omega,by dsimp only; omega,by dsimp only; omega,by dsimp only; omega,by dsimp only; omega⟩,by omega,by omega,by omega,by omega⟩
  · have hb:=of_decide_eq_false hb
    exact M.o_pure ⟨rfl,by dsimp only; omega,by dsimp only; omega,hr⟩
theorem truth_of {S:List Sect} {M':List Mrk} {R:List Rch} {t ro:List Int} {place stage:Int} (h:Fl.Mi S M' t ro place stage) (hn:2<=S.length/\S.length<=5) (hm:1<=M'.length) (hr:1<=R.length/\R.length<=4)
    (hR:∀ r∈R,Fl.Rok S r/\r.lo<=ro.getD (Int.toNat r.up) 0/\r.lo<=ro.getD (Int.toNat r.down) 0/\ro.getD (Int.toNat r.up) 0<=r.hi/\ro.getD (Int.toNat r.down) 0<=r.hi):Fl.Truth S M' R t ro:=by
  have p1:=h.p1
  have s0:=h.s0
  have m8:=h.m8
  refine ⟨⟨⟨by omega,h.rows,fun i hi=>?_,fun i j hij hj=>?_⟩,by omega,by omega,fun m hm=>(h.mt m hm).1,fun r hr=>(hR r hr).1⟩,h.m8,h.tl,h.rl,fun i hi=>?_,h.td,h.gap,fun m hm=>(h.mt m hm).2,fun i hi=>?_,fun r hr=>(hR r hr).2⟩
  · have:=h.pl i hi; omega
  · have:=h.gap i j hij hj; omega
  · have:=h.tr i hi; omega
  · have:=h.ro0 i hi; omega
theorem j11_out {b:List UInt8} {u x:Int} {S:List Sect} {M':List Mrk} {t ro:List Int} {place stage:Int} (h:Fl.Mi S M' t ro place stage) (hn:2<=S.length/\S.length<=5) (hm:1<=M'.length) (hS:SOk 1000 u x) :
    (zaB b u x ro t S M').Out (fun z=>Fl.Truth z.1 z.2.1 z.2.2.1 z.2.2.2.1 z.2.2.2.2.1):=by
  unfold zaB
  refine M.o_bind (within_out hS (by omega) (by omega) (by omega) (by omega)) ?_
  rintro ⟨r,u1,x1⟩ ⟨k1,g1,g1'⟩
  dsimp only at k1 g1 g1' ⊢
  refine M.o_bind (b10_out (k1.mono (by omega)) hn h.rl h.ro0 ⟨g1,g1'⟩) ?_
  rintro ⟨l,l',u2,x2⟩ ⟨e,h1,h2,h3⟩
  dsimp only at e h1 h2 h3 ⊢
  subst e
  exact M.o_pure (truth_of h hn hm ⟨h1,h2⟩ h3)
theorem Made_out {b:List UInt8}:(zbK b 0 0 8 false).Out (fun z=>Fl.Truth z.1 z.2.1 z.2.2.1 z.2.2.2.1 z.2.2.2.2.1):=by
  unfold zbK
  refine M.o_bind (next_out SOk.zero (by omega) (by omega)) ?_
  rintro ⟨r2,u1,x1⟩ ⟨k1,g1,_⟩
  have g1:=g1 (by omega)
  dsimp only at k1 g1 ⊢
  refine M.o_bind (within_out k1 (by omega) (by omega) (by omega) (by omega)) ?_
  rintro ⟨r3,u2,x2⟩ ⟨k2,g2,g2'⟩
  dsimp only at k2 g2 g2' ⊢
  refine M.o_bind (within_out k2 (by omega) (by omega) (by omega) (by omega)) ?_
  rintro ⟨r4,u3,x3⟩ ⟨k3,g3,g3'⟩
  dsimp only at k3 g3 g3' ⊢
  refine M.o_bind (b9_out (k3.mono (by omega)) (by omega) ⟨g2,g2'⟩ ⟨g3,g3'⟩) ?_
  rintro ⟨u4,x4,z⟩ ⟨S,M',t,ro,place,stage,e,k4,h,n2,n5⟩
  obtain rfl:=(Prod.mk.inj (Prod.mk.inj e).2).2
  dsimp only at k4 ⊢
  have p1:=h.p1
  have s0:=h.s0
  refine M.o_if (fun hb=>?_) (fun hb=>?_)
  · rw [beq_iff_eq] at hb
    have hz:M'.length=0:=by omega
    have t0:=h.tr 0 (by omega)
    have p0:=h.pl 0 (by omega)
    have tl:=h.tl
    refine M.o_grd (decide_eq_true (by omega)) (M.o_grd (decide_eq_true (by omega)) (M.o_grd (gA2 (by omega) (by omega)) (M.o_grd (gA2 (by omega) (by omega)) (M.o_grd (decide_eq_true (by simp; omega)) (j11_out (place:=place) (stage:=stage) ?_ ⟨n2,n5⟩ (by simp) k4)))))
    have hm:Fl.Mt S t ⟨(S.getD 0 default).place,t.getD 0 0-5,t.getD 0 0+5⟩:=⟨⟨by dsimp only; omega,by dsimp only; omega,by dsimp only; omega,by dsimp only; omega,by dsimp only; omega⟩,0,by omega,by dsimp only; omega⟩
    exact ⟨h.tl,h.rl,h.rows,h.pl,h.gap,h.tr,h.td,fun m hmm=>by
      rcases List.mem_append.1 hmm with hmm | hmm
      · exact h.mt m hmm
      · rw [List.mem_singleton] at hmm
        subst hmm
        exact hm,by simp; omega,h.ro0,h.p0,h.p1,h.s0,h.s1⟩
  · rw [beq_eq_false_iff_ne] at hb
    exact j11_out h ⟨n2,n5⟩ (by omega) k4
end Go.Proofs.YtpiebomegbbpcaaGreat
-- libD/GP.lean
namespace Go.Nm
namespace Fl
section
variable {S:List Sect} {M:List Mrk} {R:List Rch} {t ro ms:List Int} {r:Rch}
theorem ints_ix (M:List Mrk):Ixs M (ints M.length):=fun k hk=>by
  unfold ints at hk
  obtain ⟨i,hi,rfl⟩:=List.mem_map.1 hk
  have:=List.mem_range.1 hi
  omega
theorem ints_inc (M:List Mrk):Inc M (ints M.length):=by
  refine ⟨?_,ints_ix M⟩
  unfold ints
  rw [List.pairwise_map]
  exact List.Pairwise.imp (fun h=>by omega) List.pairwise_lt_range
end
end Fl
end Go.Nm
namespace Go.Proofs.YtpiebomegbbpcaaGreat
open Go Go.Nm
section
variable {S:List Sect} {M':List Mrk} {R':List Rch} {t ro:List Int}
end
end Go.Proofs.YtpiebomegbbpcaaGreat
namespace Go.Nm
namespace Bk
/-- A flood's year between years of which an old note says that the water was lower. -/
def ym (Y lo hi:Int):List Yr:=[⟨Y,lo,hi⟩]
def om (l Y lo:Int):List Old10:=[⟨1500,l,lo,[Y]⟩]
theorem kn_at {l Y lo hi:Int} (h1:1500<=Y) (h2:Y<=l):kn (ym Y lo hi) (om l Y lo) Y=⟨lo,hi⟩:=by
  simp [kn,ym,om,rec,told,h1,h2]
theorem kn_off {l Y lo hi z:Int} (h1:1500<=z) (h2:z<=l) (hz:z ≠ Y) (hl:lo<=2000):kn (ym Y lo hi) (om l Y lo) z=⟨0,lo-1⟩:=by
  have e:(Y==z)=false:=by simp; omega
  simp [kn,ym,om,rec,told,h1,h2,hz,e]
  omega
theorem one_of {n k:Nat} (p:Nat->Bool) (hp:∀ i,i<n->p i=decide (i=k)):(List.range n).countP p=if k<n then 1 else 0:=by
  induction n with
  | zero=>simp
  | succ n ih =>
    rw [List.range_succ,List.countP_append,ih fun i hi=>hp i (by omega)]
    simp only [List.countP_cons,List.countP_nil,hp n (by omega),decide_eq_true_eq]
    by_cases e:n=k
    · subst e; simp
    · by_cases e2:k<n
      · rw [if_pos e2,if_neg e,if_pos (by omega)]
      · rw [if_neg e2,if_neg e,if_neg (by omega)]
end Bk
end Go.Nm
namespace Go.Proofs.YtpiebomegbbpcaaGreat
open Go Go.Nm
theorem all_ends {M':List Mrk} (hn:M'.length<=16):(M.iter (zas M') (0,[])).Ends (Fl.ints M'.length,Fl.ints M'.length):=by
  refine M.i_for (fun i=>(i,Fl.ints i)) M'.length (fun i hi=>?_) ?_
  · simp only [zas]
    refine M.i_t (decide_eq_true (by omega)) (M.i_grd (decide_eq_true (by rw [Fl.ints_len]; simp; omega)) ?_)
    rw [Fl.ints_succ]
    exact M.i_pure
  · simp only [zas]
    exact M.i_f (decide_eq_false (by omega)) M.i_pure
/-- What each year had. -/
structure Yh (lo real r5:Int) (l:List Int):Prop where
  h:∀ j,j<l.length->((j:Int)=r5->l.getD j 0=real)/\((j:Int) ≠ r5->0<=l.getD j 0/\l.getD j 0<lo)
theorem Yh.app {lo real r5 x:Int} {l:List Int} (h:Yh lo real r5 l) (hx:((l.length:Int)=r5->x=real)/\((l.length:Int) ≠ r5->0<=x/\x<lo)):Yh lo real r5 (l++[x]):=⟨fun j hj=>by
  rw [List.length_append,List.length_singleton] at hj
  by_cases e:j<l.length
  · rw [getD_app_lt e]; exact h.h j e
  · obtain rfl:j=l.length:=by omega
    rw [getD_app_eq]; exact hx⟩
theorem yh_out {lower r3 r5 r6 lo real:Int} {ro:List Int} {r0:List Span} (h5:0<=r5/\r5<100) (h6:0<=r6/\r6<100) (hr:ro.getD (Int.toNat r3) 0=real) (hl:(r0.getD (Int.toNat r3) default).lo=lo) (h1:1<=lo) (h2:lo<=2000) :
    (M.iter (zay lower ro r0 r3 r5 r6) (1500,[])).Out (fun z=>z.1=z.2/\(z.2.length:Int)=r5+r6+1/\Yh lo real r5 z.2):=by
  refine M.o_for (Int.toNat (r5+r6+1)) (fun i (s:Nat × List Int)=>s.1=1500+i/\s.2.length=i/\Yh lo real r5 s.2) ?_ ?_ ⟨rfl,rfl,⟨fun j hj=>by simp at hj⟩⟩
  · rintro i ⟨k,l⟩ hi ⟨hk,hln,hY⟩
    dsimp only at hk hln hY
    subst hk
    simp only [zay]
    refine M.o_t (decide_eq_true (by omega)) (M.o_bind (pick_num (by omega)) fun r7 h7=>?_)
    rw [hl] at h7
    refine M.o_if (fun hb=>?_) (fun hb=>?_)
    · have hb:=eq_of_beq hb
      refine M.o_grd (decide_eq_true (by simp; omega)) (M.o_grd (gA2 (by omega) (by omega)) (M.o_pure ⟨by dsimp only; omega,by simp [hln],hY.app ⟨fun _=>hr,fun hne=>?_⟩⟩))
      exact absurd (by omega) hne
    · have hb:=beq_eq_false_iff_ne.1 hb
      refine M.o_grd (decide_eq_true (by simp; omega)) (M.o_grd (gA2 (by omega) (by omega)) (M.o_pure ⟨by dsimp only; omega,by simp [hln],hY.app ⟨fun he=>?_,fun _=>h7⟩⟩))
      exact absurd (by omega) hb
  · rintro ⟨k,l⟩ ⟨hk,hln,hY⟩
    dsimp only at hk hln hY
    subst hk
    simp only [zay]
    exact M.o_f (decide_eq_false (by omega)) (M.o_pure ⟨rfl,by dsimp only; omega,hY⟩)
theorem marked_tr {lo hi real r5 r6:Int} {T:List Int} (h5:0<=r5/\r5<100) (h6:0<=r6/\r6<100) (h1:1<=lo) (h2:hi<=2000) (h3:lo<=real) (h4:real<=hi) (hT:(T.length:Int)=r5+r6+1) (hY:Yh lo real r5 T) :
    Bk.Tr (Bk.ym (1500+r5) lo hi) (Bk.om (1500+r5+r6) (1500+r5) lo) 1500 (1500+r5+r6) T:=by
  refine ⟨⟨by omega,by omega,by omega,by omega,by simp [Bk.ym],by simp [Bk.om],fun o ho=>?_,⟨fun r hr=>?_,by simp [Bk.ym]⟩,⟨fun o ho=>?_⟩,fun o ho=>?_⟩,by omega,fun i hi'=>?_,fun i hi'=>?_⟩
  · simp only [Bk.om,List.mem_singleton] at ho; subst ho; simp
  · simp only [Bk.ym,List.mem_singleton] at hr; subst hr; dsimp only; omega
  · simp only [Bk.om,List.mem_singleton] at ho; subst ho; dsimp only; omega
  · simp only [Bk.om,List.mem_singleton] at ho; subst ho
    intro i hi'
    obtain rfl:i=0:=by simpa using hi'
    simp; omega
  · have k:=hY.h i hi'
    by_cases e:(i:Int)=r5
    · have:=k.1 e; omega
    · have:=k.2 e; omega
  · have k:=hY.h i hi'
    by_cases e:(i:Int)=r5
    · have:=k.1 e
      rw [e,Bk.kn_at (by omega) (by omega)]
      dsimp only; omega
    · have:=k.2 e
      rw [Bk.kn_off (by omega) (by omega) (by omega) (by omega)]
      dsimp only; omega
theorem marked_one {lo hi r5 r6:Int} (h5:0<=r5/\r5<100) (h6:0<=r6/\r6<100) (h1:1<=lo) (h2:hi<=2000) (h3:lo<=hi) :
    Bk.many (Bk.lop lo) (Bk.ym (1500+r5) lo hi) (Bk.om (1500+r5+r6) (1500+r5) lo) 1500 (1500+r5+r6)=1/\Bk.many (Bk.hip lo) (Bk.ym (1500+r5) lo hi) (Bk.om (1500+r5+r6) (1500+r5) lo) 1500 (1500+r5+r6)=1:=by
  have key:∀ p:Span->Bool,p ⟨lo,hi⟩=true->p ⟨0,lo-1⟩=false->Bk.many p (Bk.ym (1500+r5) lo hi) (Bk.om (1500+r5+r6) (1500+r5) lo) 1500 (1500+r5+r6)=1:=fun p p1 p2=>by
    unfold Bk.many Bk.kl
    rw [List.countP_map,Bk.one_of (k:=r5.toNat) _ fun i hi'=>?_,if_pos (by omega)]
    · rfl
    · simp only [Function.comp]
      by_cases e:i=r5.toNat
      · rw [show (1500:Int)+(i:Int)=1500+r5 by omega,Bk.kn_at (by omega) (by omega),p1,decide_eq_true e]
      · rw [Bk.kn_off (by omega) (by omega) (by omega) (by omega),p2,decide_eq_false e]
  exact ⟨key _ (by simp [Bk.lop]) (by simp [Bk.lop]; omega),key _ (by simp [Bk.hip]; omega) (by simp [Bk.hip]; omega)⟩
theorem zdI (p:List UInt8) (a b c d:Int):(zcf p a b c d).Ends true:=by
  refine M.Out.ends ?_
  unfold zcf
  refine M.o_bindE (by unfold zcb; exact M.i_pure) (M.o_bind Made_out ?_)
  rintro ⟨S,M',R',t,ro,u,x⟩ h
  dsimp only at h ⊢
  have hm:=h.site.m
  have hS:=h.site.s
  have hn:=hS.n
  refine M.o_bindE (all_ends hm.2) (M.o_bindE (Surface_ends h.site (Fl.ints_inc M') (h.tog (Fl.ints_ix M'))) ?_)
  dsimp only
  have htl:=h.tl
  have hsl:=Fl.surf_len S M' (Fl.ints M'.length)
  refine M.o_f ?_ (M.o_bind (pick_num (by rw [hsl]; omega)) fun r3 h3=>?_)
  · rw [hsl,htl]; simp
  rw [hsl] at h3
  have hi:r3.toNat<S.length:=by omega
  have hb:=h.bet (Fl.ints_ix M') hi
  have hat:=Fl.surf_at (M:=M') (ms:=Fl.ints M'.length) hi
  refine M.o_grd (gA2 (by omega) (by omega)) (M.o_grd (gA2 (by omega) (by omega)) ?_)
  have hh:=Fl.stHi_le (M:=M') (p:=(S.getD r3.toNat default).place) (Fl.ints M'.length)
  generalize hlo:Fl.stLo M' (Fl.ints M'.length) (S.getD r3.toNat default).place=lo at hb hat
  generalize hhi:Fl.stHi M' (Fl.ints M'.length) (S.getD r3.toNat default).place=hi' at hb hat hh
  generalize hreal:t.getD r3.toNat 0=real at hb
  rw [hat]
  dsimp only
  refine M.o_f (by rw [decide_eq_false (by omega),decide_eq_false (by omega)]; rfl) (M.o_if (fun _=>M.o_bindE awake_ends (M.o_pure rfl)) fun h1=>?_)
  have h1:=of_decide_eq_false h1
  refine M.o_bind (pick_num (by omega)) fun r5 h5=>M.o_grd (gA2 (by omega) (by omega)) (M.o_bind (pick_num (by omega)) fun r6 h6=>M.o_grd (gA2 (by omega) (by omega)) ?_)
  unfold zbw
  refine M.o_bind (yh_out h5 h6 hreal (lo:=lo) (by rw [hat]) (by omega) (by omega)) ?_
  rintro ⟨l5,T⟩ ⟨_,hT,hY⟩
  dsimp only at hT hY ⊢
  have hTr:=marked_tr h5 h6 (by omega) (by omega) hb.1 hb.2 hT hY
  obtain ⟨m1,m2⟩:=marked_one (lo:=lo) (hi:=hi') h5 h6 (by omega) (by omega) (by omega)
  obtain ⟨a1,b1,ha,hb1,_,_,gR⟩:=tr_returns hTr (st:=lo) (by omega)
  have hp:=tr_passed hTr (fr:=1500) (to:=1500+r5+r6) (st:=lo) ⟨by omega,by omega,by omega⟩ (by omega)
  have hH:=tr_highest hTr (y:=1500+r5) (by omega) (by omega)
  rw [Bk.kn_at (by omega) (by omega)] at hH
  rw [m1,m2] at hp
  rw [m1] at ha
  rw [m2] at hb1
  obtain rfl:a1=1:=by omega
  obtain rfl:b1=1:=by omega
  simp only [Nat.gcd_one_left,Nat.div_one] at gR
  rw [hat]
  refine M.o_bindE (tr_holds hTr) (M.o_bindE hp ?_)
  unfold zbB
  rw [hat]
  refine M.o_bindE gR ?_
  unfold zbJ
  rw [hat]
  refine M.o_bindE hH ?_
  dsimp only
  refine M.o_bind (P:=fun z=>z=true) (M.o_opt (fun _=>?_) (fun he=>?_)) fun z hz=>M.o_pure ?_
  · exact ⟨true,awake_ends,rfl⟩
  · simp at he
  · subst hz; simp
end Go.Proofs.YtpiebomegbbpcaaGreat
