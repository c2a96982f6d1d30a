/- Part 7 of the texts on which the proof rests. Conditions: none. -/
import Derived.Test.YtclhljenjphofaaZW6
set_option linter.unusedVariables false
set_option linter.unusedSimpArgs false
set_option linter.unusedSectionVars false
namespace Go.Nm
variable {ls : List Line} {n : Int}
/-- Where a walk ends, and what it can rise. -/
def rsW (ls : List Line) : Int -> Int -> List Leg -> Option (Int × Int)
  | last, sum, [] => some (last, sum)
  | last, sum, g :: gs => if sOf ls g = last then rsW ls (gOf ls g) (sum + rOf ls g) gs else none
theorem rsW_cons (l s : Int) (g : Leg) (gs : List Leg) : rsW ls l s (g :: gs) = if sOf ls g = l then rsW ls (gOf ls g) (s + rOf ls g) gs else none := rfl
def legB (ls : List Line) (g : Leg) : Bool := decide (0 <= g.line) && decide (g.line <= (ls.length : Int) - 1)
def rsE (n : Int) (ls : List Line) (walk : List Leg) : Int × Int × Int × Int :=
  bif chkE n ls != 0 then (0, 0, 0, chkE n ls) else bif !(decide (1 <= (walk.length : Int)) && decide ((walk.length : Int) <= 60)) then (0, 0, 0, 3) else bif !(walk.all (legB ls)) then (0, 0, 0, 2) else
  match rsW ls (sOf ls (walk.getD 0 default)) 0 walk with
  | none => (0, 0, 0, 9)
  | some (l, s) => (sOf ls (walk.getD 0 default), l, s, 0)
theorem legB_ok {walk : List Leg} (h : walk.all (legB ls) = true) {i : Nat} (hi : i < walk.length) : LegOk ls (walk.getD i default) := by
  have := List.all_eq_true.1 h (walk.getD i default) (by rw [getD_el walk hi]; exact List.getElem_mem hi)
  unfold legB at this
  rw [Bool.and_eq_true, decide_eq_true_eq, decide_eq_true_eq] at this
  exact ⟨this.1, by omega⟩
theorem drop_D {α : Type} (l : List α) {i : Nat} (h : i < l.length) (d : α) : l.drop i = l.getD i d :: l.drop (i + 1) := by
  rw [List.drop_eq_getElem_cons h, getD_el l h]
end Go.Nm
namespace Go.Proofs.Ytclhljenjphofaa
open Go Go.Nm
variable {ls : List Line} {n : Int}
theorem index_leg {l : List Leg} {f : Leg -> M Bool} {q : Leg -> Bool} (h : ∀ x, x ∈ l -> (f x).Ends (q x)) : (m_slices_IndexFunc_level_Leg l f).Out (fun r => decide (0 <= r) = l.any q) := by
  unfold m_slices_IndexFunc_level_Leg
  refine M.o_bind (P := fun y => match y with | .inl r => decide (0 <= r) = l.any q | .inr _ => l.any q = false) ?_ (fun y hy => by
    rcases y with y | y
    · exact M.o_pure hy
    · exact M.o_pure (by rw [hy]; rfl))
  refine M.o_for l.length (fun i s => s = i /\ (l.take i).any q = false) ?_ ?_ (s := 0) ⟨rfl, by simp⟩
  · rintro i s hi ⟨rfl, hJ⟩
    simp only [m_slices_IndexFunc_level_Leg_b0]
    refine M.o_t (by simpa using hi) (M.o_grd (by simpa using hi) (M.o_bindE (h (l.getD s default) (by rw [getD_el l hi]; exact List.getElem_mem hi)) (M.o_if (fun hb => ?_) (fun hb => ?_))))
    · refine M.o_pure ?_
      dsimp only
      rw [show l.any q = true from List.any_eq_true.2 ⟨_, by rw [getD_el l hi]; exact List.getElem_mem hi, hb⟩]
      exact decide_eq_true (by omega)
    · refine M.o_pure ⟨rfl, ?_⟩
      rw [← take_succ_D l s hi default, List.any_append, hJ]
      simp only [List.any_cons, List.any_nil, Bool.or_false, Bool.false_or]
      exact hb
  · rintro s ⟨rfl, hJ⟩
    simp only [m_slices_IndexFunc_level_Leg_b0]
    rw [List.take_length] at hJ
    exact M.o_f (by simp) (M.o_pure hJ)
theorem every_leg {l : List Leg} {so : Leg -> M Bool} {p : Leg -> Bool} (h : ∀ x, x ∈ l -> (so x).Ends (p x)) : (m_level_every_level_Leg l so).Ends (l.all p) := by
  unfold m_level_every_level_Leg m_slices_ContainsFunc_level_Leg
  obtain ⟨r, h1, h2⟩ := index_leg (l := l) (f := fun x => m_level_every_level_Leg__1 x so) (q := fun x => !(p x)) (fun x hx => by unfold m_level_every_level_Leg__1; exact M.i_bind (h x hx) M.i_pure)
  refine M.i_bind (M.i_bind h1 M.i_pure) ?_
  rw [h2, List.any_eq_not_all_not]
  simp only [Bool.not_not]
  exact M.i_pure
theorem rbd (hN : NetOk n ls) {g : Leg} (h : LegOk ls g) : -1010000 <= rOf ls g /\ rOf ls g <= 1010000 := hN.ed _ _ _ h.ed
theorem rises_ends (n : Int) (ls : List Line) (walk : List Leg) : (m_level_Rises n ls walk).Ends (rsE n ls walk) := by
  unfold m_level_Rises rsE
  refine M.i_bind (check_ends n ls) (M.i_if (fun hb => by rw [hb]; exact M.i_pure) (fun hb => ?_))
  rw [hb]
  have hN : NetOk n ls := chk_ok.1 (by simpa using hb)
  have hfew := hN.few
  refine M.i_bind (in_ends _ _ _) (M.i_if (fun hb => by rw [hb]; exact M.i_pure) (fun hb => ?_))
  rw [hb]
  have hlen : 1 <= (walk.length : Int) /\ (walk.length : Int) <= 60 := by simpa using hb
  refine M.i_bind (every_leg (p := legB ls) fun x _ => by unfold m_level_Rises_1; exact M.i_bind (in_ends _ _ _) M.i_pure) (M.i_if (fun hb => by rw [hb]; exact M.i_pure) (fun hb => ?_))
  rw [hb]
  have hall : walk.all (legB ls) = true := by simpa using hb
  have ok := fun i hi => legB_ok hall (i := i) hi
  refine M.i_grd (decide_eq_true (by omega)) (M.i_bind (start_ends (ok 0 (by omega))) ?_)
  generalize hs : sOf ls (walk.getD 0 default) = s0
  have o : (M.iter (m_level_Rises_b0 n ls walk) (s0, 0, 0)).Out (fun y => match y with | .inl _ => rsW ls s0 0 walk = none | .inr p => rsW ls s0 0 walk = some p) := by
    refine M.o_for walk.length (fun i st => st.2.2 = i /\ rsW ls st.1 st.2.1 (walk.drop i) = rsW ls s0 0 walk /\ -(1010000 * (i : Int)) <= st.2.1 /\ st.2.1 <= 1010000 * (i : Int)) ?_ ?_ (s := (s0, 0, 0)) ⟨rfl, by simp, by simp, by simp⟩
    · rintro i ⟨s, r, x⟩ hi ⟨e, hJ, b1, b2⟩
      dsimp only at hi hJ b1 b2 e
      subst e
      have hok := ok x hi
      have hr := rbd hN hok
      rw [drop_D walk hi default, rsW_cons] at hJ
      simp only [m_level_Rises_b0]
      refine M.o_t (by simpa using hi) (M.o_grd (by simpa using hi) (M.o_bindE (start_ends hok) (M.o_if (fun c => ?_) (fun c => ?_))))
      · rw [if_neg (bne_iff_ne.1 c)] at hJ
        exact M.o_pure hJ.symm
      · rw [if_pos (by simpa using c)] at hJ
        refine M.o_bindE (goal_ends hok) (M.o_bindE (rise_ends hN hok) (M.o_grd (gA2 (by omega) (by omega)) (M.o_pure ⟨rfl, hJ, by dsimp only; omega, by dsimp only; omega⟩)))
    · rintro ⟨s, r, x⟩ ⟨e, hJ, b1, b2⟩
      dsimp only at hJ e
      subst e
      simp only [m_level_Rises_b0]
      rw [List.drop_length] at hJ
      exact M.o_f (by simp) (M.o_pure hJ.symm)
  obtain ⟨y, h1, h2⟩ := o
  refine M.i_bind h1 ?_
  rcases y with u | ⟨l, r⟩
  · dsimp only at h2 ⊢
    rw [h2]
    exact M.i_pure
  · dsimp only at h2 ⊢
    rw [h2]
    exact M.i_pure
theorem ref_rises (n : Int) (ls : List Line) (walk : List Leg) (hl : ls.length <= 1000000) (hw : walk.length <= 1000000) : (m_nilometerref01_Rises n ls walk).Ends (rsE n ls walk) := by
  have out : ∀ x lo hi, (m_nilometerref01_outside x lo hi).Ends (!(decide (lo <= x) && decide (x <= hi))) := fun x lo hi => by
    unfold m_nilometerref01_outside
    have e : (decide (x < lo) || decide (hi < x)) = !(decide (lo <= x) && decide (x <= hi)) := by
      by_cases h1 : lo <= x <;> by_cases h2 : x <= hi <;> simp [h1, h2] <;> omega
    rw [← e]
    exact M.i_pure
  unfold m_nilometerref01_Rises rsE
  refine M.i_bind (ref_check n ls hl) (M.i_if (fun hb => by rw [hb]; exact M.i_pure) (fun hb => ?_))
  rw [hb]
  have hN : NetOk n ls := chk_ok.1 (by simpa using hb)
  have hfew := hN.few
  have e0 : ((decide ((walk.length : Int) < 1)) || (decide (60 < (walk.length : Int)))) = !(decide (1 <= (walk.length : Int)) && decide ((walk.length : Int) <= 60)) := by
    by_cases h1 : 1 <= (walk.length : Int) <;> by_cases h2 : (walk.length : Int) <= 60 <;> simp [h1, h2] <;> omega
  rw [e0]
  refine M.i_if (fun hb => by rw [hb]; exact M.i_pure) (fun hb => ?_)
  rw [hb]
  have hlen : 1 <= (walk.length : Int) /\ (walk.length : Int) <= 60 := by simpa using hb
  have o1 : (M.iter (m_nilometerref01_Rises_b0 ls walk) 0).Out (fun y => match y with | .inl _ => walk.all (legB ls) = false | .inr _ => walk.all (legB ls) = true) := by
    refine M.o_for walk.length (fun i s => s = i /\ (walk.take i).all (legB ls) = true) ?_ ?_ (s := 0) ⟨rfl, by simp⟩
    · rintro i s hi ⟨rfl, hJ⟩
      simp only [m_nilometerref01_Rises_b0]
      have hm : walk.getD s default ∈ walk := by rw [getD_el walk hi]; exact List.getElem_mem hi
      refine M.o_t (by simpa using hi) (M.o_grd (by simpa using hi) (M.o_bindE (out _ _ _) (M.o_if (fun hb => M.o_pure ?_) (fun hb => M.o_pure ⟨rfl, ?_⟩))))
      · refine List.all_eq_false.2 ⟨_, hm, ?_⟩
        unfold legB
        rw [Bool.not_eq_true'] at hb
        rw [hb]
        simp
      · rw [← take_succ_D walk s hi default, List.all_append, hJ]
        simp only [List.all_cons, List.all_nil, Bool.and_true, Bool.true_and]
        unfold legB
        simpa using hb
    · rintro s ⟨rfl, hJ⟩
      rw [List.take_length] at hJ
      simp only [m_nilometerref01_Rises_b0]
      exact M.o_f (by simp) (M.o_pure hJ)
  obtain ⟨y, h1, h2⟩ := o1
  refine M.i_bind h1 ?_
  rcases y with u | u
  · dsimp only at h2 ⊢
    rw [h2]
    exact M.i_pure
  dsimp only at h2 ⊢
  rw [h2]
  have ok := fun i hi => legB_ok h2 (i := i) hi
  generalize hs : sOf ls (walk.getD 0 default) = s0
  have o : (M.iter (m_nilometerref01_Rises_b1 ls walk) (0, 0, 0, 0)).Out (fun y => match y with | .inl _ => rsW ls s0 0 walk = none | .inr p => p.1 = s0 /\ rsW ls s0 0 walk = some p.2) := by
    refine M.o_for walk.length (fun i st => st.2.2.2 = i /\ (i = 0 -> st.2.2.1 = 0) /\ (0 < i -> st.1 = s0 /\ rsW ls st.2.1 st.2.2.1 (walk.drop i) = rsW ls s0 0 walk) /\ -(1010000 * (i : Int)) <= st.2.2.1 /\ st.2.2.1 <= 1010000 * (i : Int)) ?_ ?_ (s := (0, 0, 0, 0)) ⟨rfl, fun _ => rfl, fun h => by omega, by simp, by simp⟩
    · rintro i ⟨f, l, r, x⟩ hi ⟨e, h0, hJ, b1, b2⟩
      dsimp only at hi h0 hJ b1 b2 e
      subst e
      have hok := ok x hi
      have hr := hN.rise _ hok.mem
      have he := hN.err _ hok.mem
      have q1 := hok.1
      have q2 := hok.2
      have dr := drop_D walk hi default
      -- what the leg is
      have leg : ∀ (st : Int), (x = 0 -> st = s0) -> (0 < x -> st = f) -> (x = 0 ∨ sOf ls (walk.getD x default) = l) -> ∀ r', r' = r + rOf ls (walk.getD x default) →
          st = s0 /\ rsW ls (gOf ls (walk.getD x default)) r' (walk.drop (x + 1)) = rsW ls s0 0 walk := by
        intro st g1 g2 g3 r' hr'
        rcases Nat.eq_zero_or_pos x with z | z
        · refine ⟨g1 z, ?_⟩
          have e1 : rsW ls s0 0 walk = rsW ls s0 0 (walk.drop 0) := rfl
          rw [e1, drop_D walk (i := 0) (by omega) default, rsW_cons]
          subst z
          rw [if_pos hs, hr', h0 rfl]
        · obtain ⟨j1, j2⟩ := hJ z
          refine ⟨(g2 z).trans j1, ?_⟩
          rw [dr, rsW_cons] at j2
          rw [if_pos (by rcases g3 with g3 | g3; omega; exact g3)] at j2
          rw [hr']
          exact j2
      have bad : 0 < x -> sOf ls (walk.getD x default) ≠ l -> rsW ls s0 0 walk = none := fun z hne => by
        obtain ⟨j1, j2⟩ := hJ z
        rw [dr, rsW_cons, if_neg hne] at j2
        exact j2.symm
      have hsx : x = 0 -> sOf ls (walk.getD x default) = s0 := fun z => by subst z; exact hs
      generalize hg : walk.getD x default = g at *
      unfold lnOf at hr he
      simp only [m_nilometerref01_Rises_b1, hg]
      refine M.o_t (by simpa using hi) (M.o_grd (by simpa using hi) (M.o_grd (gA2 (by omega) (by omega)) (M.o_if (fun hb => ?_) (fun hb => ?_))))
      · have es : sOf ls g = (ls.getD g.line.toNat default).dst := by unfold sOf legEnd lnOf; rw [hb]; rfl
        have eg : gOf ls g = (ls.getD g.line.toNat default).src := by unfold gOf legEnd lnOf; rw [hb]; rfl
        have er : rOf ls g = (ls.getD g.line.toNat default).err - (ls.getD g.line.toNat default).rise := by unfold rOf lnOf; rw [hb]; rfl
        rw [es] at leg bad hsx
        rw [eg, er] at leg
        refine M.o_grd (gA2 (by omega) (by omega)) (M.o_if (fun z => ?_) (fun z => ?_))
        · have z : x = 0 := by have := beq_iff_eq.1 z; omega
          exact M.o_grd (gA2 (by omega) (by omega)) (M.o_grd (gA2 (by omega) (by omega)) (M.o_pure ⟨rfl, fun h => by omega, fun _ => leg _ hsx (fun h => by omega) (.inl z) _ (by dsimp only; omega), by dsimp only; omega, by dsimp only; omega⟩))
        · have z : 0 < x := by have := beq_eq_false_iff_ne.1 z; omega
          refine M.o_if (fun c => ?_) (fun c => ?_)
          · exact M.o_pure (bad z (bne_iff_ne.1 c))
          · exact M.o_grd (gA2 (by omega) (by omega)) (M.o_grd (gA2 (by omega) (by omega)) (M.o_pure ⟨rfl, fun h => by omega, fun _ => leg f (fun h => by omega) (fun _ => rfl) (.inr (by simpa using c)) _ (by dsimp only; omega), by dsimp only; omega, by dsimp only; omega⟩))
      · have es : sOf ls g = (ls.getD g.line.toNat default).src := by unfold sOf legEnd lnOf; rw [hb]; rfl
        have eg : gOf ls g = (ls.getD g.line.toNat default).dst := by unfold gOf legEnd lnOf; rw [hb]; rfl
        have er : rOf ls g = (ls.getD g.line.toNat default).err + (ls.getD g.line.toNat default).rise := by unfold rOf lnOf; rw [hb]; rfl
        rw [es] at leg bad hsx
        rw [eg, er] at leg
        refine M.o_if (fun z => ?_) (fun z => ?_)
        · have z : x = 0 := by have := beq_iff_eq.1 z; omega
          exact M.o_grd (gA2 (by omega) (by omega)) (M.o_grd (gA2 (by omega) (by omega)) (M.o_pure ⟨rfl, fun h => by omega, fun _ => leg _ hsx (fun h => by omega) (.inl z) _ (by dsimp only; omega), by dsimp only; omega, by dsimp only; omega⟩))
        · have z : 0 < x := by have := beq_eq_false_iff_ne.1 z; omega
          refine M.o_if (fun c => ?_) (fun c => ?_)
          · exact M.o_pure (bad z (bne_iff_ne.1 c))
          · exact M.o_grd (gA2 (by omega) (by omega)) (M.o_grd (gA2 (by omega) (by omega)) (M.o_pure ⟨rfl, fun h => by omega, fun _ => leg f (fun h => by omega) (fun _ => rfl) (.inr (by simpa using c)) _ (by dsimp only; omega), by dsimp only; omega, by dsimp only; omega⟩))
    · rintro ⟨f, l, r, x⟩ ⟨e, h0, hJ, b1, b2⟩
      dsimp only at hJ e
      subst e
      simp only [m_nilometerref01_Rises_b1]
      obtain ⟨j1, j2⟩ := hJ (by omega)
      rw [List.drop_length] at j2
      exact M.o_f (by simp) (M.o_pure ⟨j1, j2.symm⟩)
  obtain ⟨y, h3, h4⟩ := o
  refine M.i_bind h3 ?_
  rcases y with u | ⟨f, l, r⟩
  · dsimp only at h4 ⊢
    rw [h4]
    exact M.i_pure
  · dsimp only at h4 ⊢
    rw [h4.2, h4.1]
    exact M.i_pure
/-- Both tell the same difference. -/
theorem between_both (hl : ls.length <= 1000000) (f t : Int) : ∃ y, (m_level_Between n ls f t).Ends y /\ (m_nilometerref01_Between n ls f t).Ends y /\ (chkE n ls ≠ 0 -> y = (0, 0, chkE n ls)) /\ (chkE n ls = 0 -> ¬ ((0 <= f /\ f < n) /\ (0 <= t /\ t < n)) -> y = (0, 0, 2)) /\ (chkE n ls = 0 -> (0 <= f /\ f < n) -> (0 <= t /\ t < n) -> Btw ls f t y) := by
  have out : ∀ x lo hi, (m_nilometerref01_outside x lo hi).Ends (!(decide (lo <= x) && decide (x <= hi))) := fun x lo hi => by
    unfold m_nilometerref01_outside
    have e : (decide (x < lo) || decide (hi < x)) = !(decide (lo <= x) && decide (x <= hi)) := by
      by_cases h1 : lo <= x <;> by_cases h2 : x <= hi <;> simp [h1, h2] <;> omega
    rw [← e]
    exact M.i_pure
  by_cases h : chkE n ls = 0
  · have hN := chk_ok.1 h
    have hk := hN.marks
    have c1 : (chkE n ls != 0) = false := by rw [h]; rfl
    by_cases hf : 0 <= f /\ f < n
    · by_cases ht : 0 <= t /\ t < n
      · obtain ⟨y, h1, h2⟩ := between_out hN hf ht
        refine ⟨y, h1, ?_, fun h' => absurd h h', fun _ h' => absurd ⟨hf, ht⟩ h', fun _ _ _ => h2⟩
        have o : (m_nilometerref01_Between n ls f t).Out (Btw ls f t) := by
          unfold m_nilometerref01_Between
          refine M.o_bindE (ref_check n ls hl) (M.o_f c1 (M.o_grd (gA2 (by omega) (by omega)) ?_))
          refine M.o_bindE (out _ _ _) (M.o_bindE (a := false) (M.i_opt (fun _ => by have := out t 0 (n - 1); rwa [gA2 (p := 0 <= t) ht.1 (by omega)] at this) (fun _ => rfl)) ?_)
          rw [gA2 (p := 0 <= f) hf.1 (by omega)]
          refine M.o_f rfl (M.o_bind (ref_agrees hN) ?_)
          intro r hr
          cases r with
          | false => exact M.o_t rfl (M.o_pure ⟨fun _ => rfl, fun hA => (by have := hr.2 hA; cases this), fun hA => (by have := hr.2 hA; cases this)⟩)
          | true =>
            have hA := hr.1 rfl
            obtain ⟨N, rfl⟩ : ∃ N : Nat, n = N := ⟨n.toNat, by omega⟩
            obtain ⟨f, rfl⟩ : ∃ k : Nat, f = k := ⟨f.toNat, by omega⟩
            obtain ⟨t, rfl⟩ : ∃ k : Nat, t = k := ⟨t.toNat, by omega⟩
            refine M.o_f rfl (M.o_bind (tab_out hN) ?_)
            rintro T ⟨T0, hI, hR⟩
            have hT := hR.tab hN hI hA
            have q0 := hT.sq.len
            have q1 := hT.sq.rows f (by omega)
            have q2 := hT.sq.rows t (by omega)
            have b1 := hR.lo t f (by omega) (by omega)
            have ef : Int.toNat (f : Int) = f := Int.toNat_natCast f
            have et : Int.toNat (t : Int) = t := Int.toNat_natCast t
            rw [ef, et]
            unfold tb at b1
            refine M.o_grd (gA2 (by omega) (by omega)) (M.o_grd (gA2 (by omega) (by omega)) (M.o_if (fun c => ?_) (fun c => ?_)))
            · have c := beq_iff_eq.1 c
              have nt : ¬ Tied ls f t := fun h => by
                have := (hT.near f t (by omega) (by omega) h).1
                unfold tb at this
                omega
              exact M.o_pure ⟨fun h => absurd hA h, fun _ _ => rfl, fun _ h => absurd h nt⟩
            · have c := beq_eq_false_iff_ne.1 c
              have tt : Tied ls f t := Classical.byContradiction fun h => c (hT.far f t (by omega) (by omega) h)
              have d1 := (hT.near f t (by omega) (by omega) tt).2
              have d2 := (hT.near t f (by omega) (by omega) tt.symm).2
              refine M.o_grd (gA2 (by omega) (by omega)) (M.o_grd (gA2 (by omega) (by omega)) (M.o_grd (gA2 (by omega) (by omega)) (M.o_pure ⟨fun h => absurd hA h, fun _ h => absurd tt h, fun _ _ => ⟨rfl, d1, ?_⟩⟩)))
              dsimp only
              rw [Int.neg_neg]
              exact d2
        obtain ⟨z, h3, h4⟩ := o
        have : y = z := by
          by_cases hA : Agr ls
          · by_cases tt : Tied ls f t
            · obtain ⟨e1, d1, d2⟩ := h2.yes hA tt
              obtain ⟨e2, d3, d4⟩ := h4.yes hA tt
              have u1 := d1.uniq d3
              have u2 := d2.uniq d4
              obtain ⟨y1, y2, y3⟩ := y
              obtain ⟨z1, z2, z3⟩ := z
              dsimp only at *
              rw [e1, e2, u1, show y1 = z1 by omega]
            · rw [h2.far hA tt, h4.far hA tt]
          · rw [h2.no hA, h4.no hA]
        rw [this]
        exact h3
      · have g1 : (decide (0 <= f) && decide (f <= n - 1)) = true := gA2 hf.1 (by omega)
        have g2 : (decide (0 <= t) && decide (t <= n - 1)) = false := by
          cases hb : (decide (0 <= t) && decide (t <= n - 1)) with
          | false => rfl
          | true =>
            rw [Bool.and_eq_true, decide_eq_true_eq, decide_eq_true_eq] at hb
            exact absurd ⟨hb.1, by omega⟩ ht
        refine ⟨(0, 0, 2), ?_, ?_, fun h' => absurd h h', fun _ _ => rfl, fun _ _ h' => absurd h' ht⟩
        · unfold m_level_Between m_level_asked
          refine M.i_bind (M.i_bind (check_ends n ls) (M.i_f c1 (M.i_grd (gA2 (by omega) (by omega)) (M.i_bind (in_ends _ _ _) (M.i_bind (a := false) (M.i_opt (fun _ => by have := in_ends t 0 (n - 1); rwa [g2] at this) (fun _ => rfl)) (M.i_t (by rw [g1]; rfl) M.i_pure)))))) (M.i_t rfl M.i_pure)
        · unfold m_nilometerref01_Between
          refine M.i_bind (ref_check n ls hl) (M.i_f c1 (M.i_grd (gA2 (by omega) (by omega)) (M.i_bind (out _ _ _) (M.i_bind (a := true) (M.i_opt (fun _ => by have := out t 0 (n - 1); rwa [g2] at this) (fun h => by rw [g1] at h; simp at h)) (M.i_t (by simp) M.i_pure)))))
    · have g1 : (decide (0 <= f) && decide (f <= n - 1)) = false := by
        cases hb : (decide (0 <= f) && decide (f <= n - 1)) with
        | false => rfl
        | true =>
          rw [Bool.and_eq_true, decide_eq_true_eq, decide_eq_true_eq] at hb
          exact absurd ⟨hb.1, by omega⟩ hf
      refine ⟨(0, 0, 2), ?_, ?_, fun h' => absurd h h', fun _ _ => rfl, fun _ h' => absurd h' hf⟩
      · unfold m_level_Between m_level_asked
        refine M.i_bind (M.i_bind (check_ends n ls) (M.i_f c1 (M.i_grd (gA2 (by omega) (by omega)) (M.i_bind (in_ends _ _ _) (M.i_bind (a := false) (M.i_opt (fun h => by rw [g1] at h; simp at h) (fun _ => rfl)) (M.i_t (by rw [g1]; rfl) M.i_pure)))))) (M.i_t rfl M.i_pure)
      · unfold m_nilometerref01_Between
        refine M.i_bind (ref_check n ls hl) (M.i_f c1 (M.i_grd (gA2 (by omega) (by omega)) (M.i_bind (out _ _ _) (M.i_bind (a := false) (M.i_opt (fun h => by rw [g1] at h; simp at h) (fun _ => rfl)) (M.i_t (by rw [g1]; rfl) M.i_pure)))))
  · have c1 : (chkE n ls != 0) = true := by rw [bne_iff_ne]; exact h
    refine ⟨(0, 0, chkE n ls), ?_, ?_, fun _ => rfl, fun h' => absurd h' h, fun h' => absurd h' h⟩
    · unfold m_level_Between m_level_asked
      exact M.i_bind (M.i_bind (check_ends n ls) (M.i_t c1 M.i_pure)) (M.i_t c1 M.i_pure)
    · unfold m_nilometerref01_Between
      exact M.i_bind (ref_check n ls hl) (M.i_t c1 M.i_pure)
end Go.Proofs.Ytclhljenjphofaa
namespace Go.Nm
variable {ls : List Line} {n a : Int} {by_ : Int -> Leg}
/-- So many last legs lead back. -/
inductive ChN (ls : List Line) (a : Int) (by_ : Int -> Leg) : Nat -> Int -> Prop
  | root : ChN ls a by_ 0 a
  | up {k : Nat} {v : Int} (hv : v ≠ a) (h : ChN ls a by_ k (sOf ls (by_ v))) : ChN ls a by_ (k + 1) v
theorem Ch.num {v : Int} (h : Ch ls a by_ v) : ∃ k, ChN ls a by_ k v := by
  induction h with
  | root => exact ⟨0, .root⟩
  | up hv _ ih =>
    obtain ⟨k, hk⟩ := ih
    exact ⟨k + 1, .up hv hk⟩
theorem ChN.uniq {k : Nat} {v : Int} (h : ChN ls a by_ k v) : ∀ {k'}, ChN ls a by_ k' v -> k = k' := by
  induction h with
  | root =>
    intro k' h'
    cases h' with
    | root => rfl
    | up hv _ => exact absurd rfl hv
  | up hv _ ih =>
    intro k' h'
    cases h' with
    | root => exact absurd rfl hv
    | up _ h2 => rw [ih h2]
theorem rsW_snoc (g : Leg) : ∀ (l : List Leg) (x s y r : Int), rsW ls x s l = some (y, r) -> sOf ls g = y -> rsW ls x s (l ++ [g]) = some (gOf ls g, r + rOf ls g)
  | [], x, s, y, r, h, hg => by
    unfold rsW at h
    simp only [Option.some.injEq, Prod.mk.injEq] at h
    obtain ⟨rfl, rfl⟩ := h
    rw [List.nil_append, rsW_cons, if_pos hg]
    rfl
  | g' :: l, x, s, y, r, h, hg => by
    rw [rsW_cons] at h
    rw [List.cons_append, rsW_cons]
    split at h
    · rename_i c
      rw [if_pos c]
      exact rsW_snoc g l _ _ _ _ h hg
    · cases h
end Go.Nm
namespace Go.Proofs.Ytclhljenjphofaa
open Go Go.Nm
variable {ls : List Line} {n : Int}
theorem starts_few (hN : NetOk n ls) {f : Int} {by_ : Int -> Leg} {l : List Leg} (h : ∀ i : Nat, i < l.length -> LegOk ls (l.getD i default) /\ ChN ls f by_ i (sOf ls (l.getD i default))) : l.length <= 12 := by
  have hm := hN.marks
  have := nodup_bound (Int.toNat n) (l.map (sOf ls)) ?_ ?_
  · rw [List.length_map] at this
    omega
  · unfold List.Nodup
    rw [List.pairwise_iff_getElem]
    intro i j hi hj hlt e
    rw [List.length_map] at hi hj
    rw [List.getElem_map, List.getElem_map] at e
    have h1 := (h i hi).2
    have h2 := (h j hj).2
    rw [getD_el l hi] at h1
    rw [getD_el l hj, ← e] at h2
    have := h1.uniq h2
    omega
  · intro x hx
    obtain ⟨g, hg, rfl⟩ := List.mem_map.1 hx
    obtain ⟨i, hi, rfl⟩ := mem_getD hg default
    have := (h i hi).1.ed.rng hN.rng
    omega
theorem highest_1 (hN : NetOk n ls) {can : List Int} {by_ : List Leg} (hW : Wkd ls n can by_) (hA : Agr ls) {f : Int} (hf : 0 <= f /\ f < n) : ∀ (k : Nat) (t : Int), 0 <= t -> t < n -> rw_ can f t < 1099511627776 -> ChN ls f (rb_ by_ f) k t →
    ∃ l, (m_level_Highest_1 t f n ls can by_).Ends l /\ l.length = k /\ rsW ls f 0 l = some (t, rw_ can f t) /\ ∀ i : Nat, i < k -> LegOk ls (l.getD i default) /\ ChN ls f (rb_ by_ f) i (sOf ls (l.getD i default)) := by
  have hm := hN.marks
  have hD := hW.done hN hA hf
  intro k
  induction k with
  | zero =>
    intro t h0 h1 hlt hc
    cases hc
    refine ⟨[], ?_, rfl, ?_, fun i hi => by omega⟩
    · unfold m_level_Highest_1
      refine M.i_fix ?_
      unfold m_level_Highest_1_F
      exact M.i_t (by simp) M.i_pure
    · rw [hW.agr_zero hN hA hf]
      rfl
  | succ k ih =>
    intro t h0 h1 hlt hc
    cases hc with
    | up hv hc2 =>
      obtain ⟨b1, b2, b3, b4⟩ := (hW.row f hf.1 hf.2).bo.leg t h0 h1 hv hlt
      have hr := b1.ed.rng hN.rng
      obtain ⟨l, l1, l2, l3, l4⟩ := ih _ hr.1.1 hr.1.2 b4 hc2
      have hfew := starts_few hN (f := f) (by_ := rb_ by_ f) (l := l) (fun i hi => l4 i (by omega))
      have d1 := hD.dist _ hr.1.1 hr.1.2 b4
      have d2 := hD.dist t h0 h1 hlt
      have ed := b1.ed
      rw [b2] at ed
      have h5 := d1.step ed d2
      refine ⟨l ++ [rb_ by_ f t], ?_, by simp [l2], ?_, fun i hi => ?_⟩
      · unfold m_level_Highest_1 at l1 ⊢
        refine M.i_fix ?_
        unfold m_level_Highest_1_F
        unfold rb_ at l1 b1
        refine M.i_f (by rw [beq_eq_false_iff_ne]; exact hv) (M.i_grd (gA2 (by omega) (by omega)) (M.i_grd (gA2 (by omega) (by omega)) (M.i_bind (start_ends b1) (M.i_bind l1 (M.i_grd (decide_eq_true (by simp only [List.length_cons, List.length_nil]; omega)) M.i_pure)))))
      · have := rsW_snoc (rb_ by_ f t) l _ _ _ _ l3 rfl
        rw [this, b2]
        congr 2
        omega
      · by_cases e : i = k
        · have : (l ++ [rb_ by_ f t]).getD i default = rb_ by_ f t := by rw [e, ← l2]; simp [List.getD_eq_getElem?_getD]
          rw [this, e]
          exact ⟨b1, hc2⟩
        · have : (l ++ [rb_ by_ f t]).getD i default = l.getD i default := by rw [List.getD_eq_getElem?_getD, List.getElem?_append_left (by omega), ← List.getD_eq_getElem?_getD]
          rw [this]
          exact l4 i (by omega)
end Go.Proofs.Ytclhljenjphofaa
namespace Go.Nm
variable {ls : List Line} {n f : Int}
theorem pigeon (N : Nat) (F : Nat -> Int) (hb : ∀ i, i <= N -> 0 <= F i /\ F i < N) : ∃ i j, i < j /\ j <= N /\ F i = F j := by
  refine Classical.byContradiction fun hc => ?_
  have hn : ((List.range (N + 1)).map F).Nodup := by
    refine List.pairwise_iff_getElem.mpr fun i j hi hj hij => ?_
    simp only [List.length_map, List.length_range] at hi hj
    simp only [List.getElem_map, List.getElem_range]
    exact fun e => hc ⟨i, j, hij, by omega, e⟩
  have := nodup_bound N _ hn fun x hx => by
    obtain ⟨i, hi, rfl⟩ := List.mem_map.mp hx
    exact hb i (by have := List.mem_range.mp hi; omega)
  simp at this
  omega
/-- The legs of a ring in the order in which they are gone back. -/
def rgL (ls : List Line) (B : Int -> Leg) (y : Int) (k : Nat) : List Leg := (List.range k).map fun i => B (bk ls B i y)
theorem rgL_succ (B : Int -> Leg) (y : Int) (k : Nat) : rgL ls B y (k + 1) = rgL ls B y k ++ [B (bk ls B k y)] := by
  unfold rgL
  rw [List.range_succ, List.map_append]
  rfl
theorem rgL_length (B : Int -> Leg) (y : Int) (k : Nat) : (rgL ls B y k).length = k := by simp [rgL]
theorem rgL_walk (B : Int -> Leg) (y : Int) : ∀ (k : Nat), (∀ i, i < k -> gOf ls (B (bk ls B i y)) = bk ls B i y) -> ∀ s : Int, rsW ls (bk ls B k y) s (rgL ls B y k).reverse = some (y, s + bs ls B k y)
  | 0, _, s => by
    show some (y, s) = some (y, s + 0)
    rw [Int.add_zero]
  | k + 1, hg, s => by
    have e : (rgL ls B y (k + 1)).reverse = B (bk ls B k y) :: (rgL ls B y k).reverse := by rw [rgL_succ]; simp
    rw [e, rsW_cons, if_pos (bk_succ B k y).symm, hg k (by omega), rgL_walk B y k (fun i hi => hg i (by omega)), bs_add (ls := ls) B k 1 y]
    show some (y, _) = some (y, s + (bs ls B k y + (rOf ls (B (bk ls B k y)) + 0)))
    have : s + rOf ls (B (bk ls B k y)) + bs ls B k y = s + (bs ls B k y + (rOf ls (B (bk ls B k y)) + 0)) := by omega
    rw [this]
/-- What lies behind N + 1 rounds of which the last still let a mark sink. -/
theorem Rk.ringed {r N : Nat} {K : Int} {R : Int -> Int} {B : Int -> Leg} {H : Int -> Prop} {q : Int -> Nat} {at_ : Int} (e : (N : Int) = n) (h : Rk ls n f r N K R B H q at_) (ha : at_ ≠ -1) (hr : N + 1 <= r) :
    (∀ m, 0 < q (bk ls B m at_)) /\ ∃ k, 0 < k /\ k <= N /\ bk ls B k (bk ls B N at_) = bk ls B N at_ /\ (∀ i, 0 < i -> i < k -> bk ls B i (bk ls B N at_) ≠ bk ls B N at_) /\ bs ls B k (bk ls B N at_) < 0 := by
  have hq : ∀ i, i <= N -> 0 < q (bk ls B i at_) := fun i hi => by
    have := h.back ha hr i hi
    omega
  obtain ⟨i, j, hij, hj, hx⟩ := pigeon N (fun i => bk ls B i at_) fun i hi => by
    have := h.dom _ (h.qd _ (hq i hi))
    omega
  have hx : bk ls B i at_ = bk ls B j at_ := hx
  have all : ∀ m, ∃ m', m' <= N /\ bk ls B m at_ = bk ls B m' at_ := by
    intro m
    induction m using Nat.strongRecOn with
    | _ m ih =>
      by_cases hm : m <= N
      · exact ⟨m, hm, rfl⟩
      · obtain ⟨d, rfl⟩ : ∃ d, m = j + d := ⟨m - j, by omega⟩
        obtain ⟨m', h1, h2⟩ := ih (i + d) (by omega)
        refine ⟨m', h1, ?_⟩
        rw [← h2, bk_add, bk_add, hx]
  have pos : ∀ m, 0 < q (bk ls B m at_) := fun m => by
    obtain ⟨m', h1, h2⟩ := all m
    rw [h2]
    exact hq m' h1
  have ring : bk ls B (j - i) (bk ls B N at_) = bk ls B N at_ := by
    rw [← bk_add, show N + (j - i) = j + (N - i) by omega, bk_add, ← hx, ← bk_add, show i + (N - i) = N by omega]
  obtain ⟨k, ⟨k0, k1⟩, k2⟩ := least_nat (p := fun k => 0 < k /\ bk ls B k (bk ls B N at_) = bk ls B N at_) ⟨j - i, by omega, ring⟩
  refine ⟨pos, k, k0, ?_, k1, fun x hx0 hxk hxe => ?_, ?_⟩
  · have := k2 (j - i) ⟨by omega, ring⟩
    omega
  · have := k2 x ⟨hx0, hxe⟩
    omega
  · refine h.sk.ring k _ k0 (fun x _ => ?_) k1
    rw [← bk_add]
    exact pos _
/-- The marks of a ring are distinct. -/
theorem ring_nodup {B : Int -> Leg} {y : Int} {k : Nat} (h1 : bk ls B k y = y) (h2 : ∀ i, 0 < i -> i < k -> bk ls B i y ≠ y) : ∀ i j, i < j -> j < k -> bk ls B i y ≠ bk ls B j y := by
  intro i j hij hj e
  have : bk ls B (k - j + i) y = y := by
    rw [Nat.add_comm, bk_add, e, ← bk_add, show j + (k - j) = k by omega, h1]
  exact h2 (k - j + i) (by omega) (by omega) this
end Go.Nm
namespace Go.Proofs.Ytclhljenjphofaa
open Go Go.Nm
theorem reverse_ends {l : List Leg} (hl : l.length <= 1000000) : (m_slices_Reverse_level_Leg l).Ends l.reverse := by
  have out : (m_slices_Reverse_level_Leg l).Out (fun r => r = l.reverse) := by
    unfold m_slices_Reverse_level_Leg
    refine M.o_bind (P := fun y => y = l.reverse) ?_ (fun y hy => M.o_pure hy)
    refine M.o_for (l.length / 2) (fun i st => st.2.1 = i /\ st.2.2 = (l.length : Int) - 1 - i /\ st.1.length = l.length /\ ∀ x, x < l.length -> st.1.getD x default = if x < i ∨ l.length - 1 - x < i then l.getD (l.length - 1 - x) default else l.getD x default) ?_ ?_ (s := (l, 0, (l.length : Int) - 1)) ⟨rfl, by simp, rfl, fun x hx => by rw [if_neg (by omega)]⟩
    · rintro i ⟨a, s, j⟩ hi ⟨e1, e2, e3, e4⟩
      dsimp only at e1 e2 e3 e4
      subst e1
      have ej : j.toNat = l.length - 1 - s := by omega
      simp only [m_slices_Reverse_level_Leg_b0]
      refine M.o_t (decide_eq_true (by omega)) (M.o_grd (gA2 (by omega) (by omega)) (M.o_grd (decide_eq_true (by omega)) (M.o_grd (gA2 (by omega) (by rw [List.length_set]; omega)) (M.o_grd (gA2 (by omega) (by omega)) (M.o_grd (gA2 (by omega) (by omega)) (M.o_pure ⟨rfl, by dsimp only; omega, by dsimp only; rw [List.length_set, List.length_set]; exact e3, fun x hx => ?_⟩))))))
      dsimp only
      have g1 : a.getD (l.length - 1 - s) default = l.getD (l.length - 1 - s) default := by rw [e4 _ (by omega), if_neg (by omega)]
      have g2 : a.getD s default = l.getD s default := by rw [e4 _ (by omega), if_neg (by omega)]
      rw [ej, g1, g2, gset _ _ _ _ _ (by rw [List.length_set]; omega), gset _ _ _ _ _ (by omega), e4 _ hx]
      by_cases c1 : x = l.length - 1 - s
      · rw [if_pos c1, if_pos (by omega), c1, show l.length - 1 - (l.length - 1 - s) = s by omega]
      · rw [if_neg c1]
        by_cases c2 : x = s
        · rw [if_pos c2, if_pos (by omega), c2]
        · rw [if_neg c2]
          by_cases c3 : x < s ∨ l.length - 1 - x < s
          · rw [if_pos c3, if_pos (by omega)]
          · rw [if_neg c3, if_neg (by omega)]
    · rintro ⟨a, s, j⟩ ⟨e1, e2, e3, e4⟩
      dsimp only at e1 e2 e3 e4
      simp only [m_slices_Reverse_level_Leg_b0]
      refine M.o_f (decide_eq_false (by omega)) (M.o_pure ?_)
      show a = l.reverse
      refine List.ext_getElem (by simp [e3]) fun x h1 h2 => ?_
      have hx : x < l.length := by omega
      have := e4 x hx
      rw [getD_el a h1] at this
      rw [this, List.getElem_reverse, ← getD_el l (by omega) default]
      by_cases c : x < l.length / 2 ∨ l.length - 1 - x < l.length / 2
      · rw [if_pos c]
      · rw [if_neg c, show l.length - 1 - x = x by omega]
  obtain ⟨r, h, rfl⟩ := out
  exact h
end Go.Proofs.Ytclhljenjphofaa
namespace Go.Nm
/-- Functions of marks that say what three rows hold. -/
structure Ag (R : Int -> Int) (B : Int -> Leg) (H : Int -> Prop) (a : List Int) (b : List Leg) (d : List Bool) : Prop where
  la : a.length = 13
  lb : b.length = 13
  ld : d.length = 13
  ra : ∀ v : Nat, v < 13 -> a.getD v 0 = R v
  rb : ∀ v : Nat, v < 13 -> b.getD v default = B v
  rd : ∀ v : Nat, v < 13 -> (d.getD v false = true ↔ H v)
theorem Ag.up {R : Int -> Int} {B : Int -> Leg} {H : Int -> Prop} {a : List Int} {b : List Leg} {d : List Bool} (h : Ag R B H a b d) {v x : Int} {g : Leg} (h0 : 0 <= v) (h1 : v < 13) : Ag (upF R v x) (upF B v g) (fun w => H w ∨ w = v) (a.set v.toNat x) (b.set v.toNat g) (d.set v.toNat true) := by
  have hl : v.toNat < 13 := by omega
  refine ⟨by rw [List.length_set]; exact h.la, by rw [List.length_set]; exact h.lb, by rw [List.length_set]; exact h.ld, fun w hw => ?_, fun w hw => ?_, fun w hw => ?_⟩
  · rw [gset _ _ _ _ _ (by rw [h.la]; exact hl)]
    by_cases e : w = v.toNat
    · rw [if_pos e, show (w : Int) = v by omega, upF_at]
    · rw [if_neg e, upF_no _ _ (by omega)]; exact h.ra w hw
  · rw [gset _ _ _ _ _ (by rw [h.lb]; exact hl)]
    by_cases e : w = v.toNat
    · rw [if_pos e, show (w : Int) = v by omega, upF_at]
    · rw [if_neg e, upF_no _ _ (by omega)]; exact h.rb w hw
  · rw [gset _ _ _ _ _ (by rw [h.ld]; exact hl)]
    by_cases e : w = v.toNat
    · rw [if_pos e]; exact ⟨fun _ => .inr (by omega), fun _ => rfl⟩
    · rw [if_neg e]
      exact ⟨fun hh => .inl ((h.rd w hw).1 hh), fun hh => hh.elim (h.rd w hw).2 (fun hh => absurd hh (by omega))⟩
theorem leg_ne {ls : List Line} {n : Int} (hN : NetOk n ls) {g : Leg} (hg : LegOk ls g) : sOf ls g ≠ gOf ls g := fun e => by
  have h1 := hN.ne _ hg.mem
  unfold sOf gOf legEnd at e
  cases hb : g.back <;> rw [hb] at e <;> simp at e <;> omega
end Go.Nm
namespace Go.Proofs.Ytclhljenjphofaa
open Go Go.Nm
variable {ls : List Line} {n f : Int}
theorem sink_step (hN : NetOk n ls) {r c : Nat} {K : Int} {R : Int -> Int} {B : Int -> Leg} {H : Int -> Prop} {q : Int -> Nat} {at_ : Int} {a : List Int} {b : List Leg} {d : List Bool} (hr : 1 <= r) (hc : (c : Int) < n) (hK : K <= 1000000000000000) (h : Rk ls n f r c K R B H q at_) (hA : Ag R B H a b d) (hH : H c) {g : Leg} (hg : LegOk ls g) (hs : sOf ls g = c) :
    (m_level_survey_sinking_b4 n ls c (at_, a, b, d) g).Out (fun y => match y with
      | .inl (at', a', b', d') => ∃ R' B' H' q', Rk ls n f r c (K + 1010000) R' B' H' q' at' /\ Ag R' B' H' a' b' d' /\ H' c /\ Fin ls R' H' g /\ ∀ g', sOf ls g' = c -> Fin ls R H g' -> Fin ls R' H' g'
      | .inr _ => False) := by
  have hm := hN.marks
  have hrg := (hg.ed.rng hN.rng).2
  have hb := hN.ed _ _ _ hg.ed
  have hl := h.lo c
  have hne := leg_ne hN hg
  have e1 : R (gOf ls g) = a.getD (gOf ls g).toNat 0 := by rw [hA.ra _ (by omega), Int.toNat_of_nonneg hrg.1]
  have e2 : d.getD (gOf ls g).toNat false = true ↔ H (gOf ls g) := by
    have := hA.rd (gOf ls g).toNat (by omega)
    rwa [Int.toNat_of_nonneg hrg.1] at this
  simp only [m_level_survey_sinking_b4]
  rw [hA.ra c (by omega)]
  refine M.o_bindE (goal_ends hg) (M.o_bindE (rise_ends hN hg) (M.o_grd (gA2 (by omega) (by omega)) (M.o_grd (gA2 (by omega) (by omega)) (M.o_if (fun hb => ?_) (fun hb => ?_)))))
  · have hlt : ¬ H (gOf ls g) ∨ R (sOf ls g) + rOf ls g < R (gOf ls g) := by
      rw [hs]
      by_cases hh : H (gOf ls g)
      · have := e2.2 hh
        rw [this] at hb
        right
        rw [e1]
        simpa using hb
      · exact .inl hh
    have hu := h.sink hN hg hr (by rw [hs]; exact hH) hlt
    have ha := hA.up (x := R (sOf ls g) + rOf ls g) (g := g) hrg.1 (show gOf ls g < 13 by omega)
    rw [hs] at ha hu
    refine M.o_pure ⟨_, _, _, _, hu, ha, .inl hH, ⟨.inr rfl, ?_⟩, fun g' hg' hf => ?_⟩
    · rw [upF_at, upF_no _ _ hne, hs]
      exact Int.le_refl _
    · have := hf.up hlt (by rw [hg', ← hs]; exact hne)
      rwa [hs] at this
  · rw [Bool.or_eq_false_iff] at hb
    have hh : d.getD (gOf ls g).toNat false = true := by simpa using hb.1
    refine M.o_pure ⟨R, B, H, q, h.keep (by omega), hA, hH, ⟨e2.1 hh, ?_⟩, fun _ _ hf => hf⟩
    have := of_decide_eq_false hb.2
    rw [hs, e1]
    omega
end Go.Proofs.Ytclhljenjphofaa
namespace Go.Proofs.Ytclhljenjphofaa
open Go Go.Nm
variable {ls : List Line} {n f : Int}
theorem sink_mark (hN : NetOk n ls) {r c : Nat} {K : Int} {R : Int -> Int} {B : Int -> Leg} {H : Int -> Prop} {q : Int -> Nat} {at_ : Int} {a : List Int} {b : List Leg} {d : List Bool} (hr : 1 <= r) (hc : (c : Int) < n) (hK : K <= 900000000000000) (h : Rk ls n f r c K R B H q at_) (hA : Ag R B H a b d) (hH : H c) :
    (m_level_survey_legs_1 (M.yl (m_level_survey_sinking_b4 n ls c)) (.inl (at_, a, b, d)) n ls c).Out (fun y => match y with
      | .inl (at', a', b', d') => ∃ R' B' H' q', Rk ls n f r (c + 1) (K + 60600000) R' B' H' q' at' /\ Ag R' B' H' a' b' d'
      | .inr _ => False) := by
  have hf := hN.few
  refine M.o_mono (legs_out (ls := ls) (n := n) (m := (c : Int)) (fun k s => ∃ R B H q, Rk ls n f r c (K + k * 1010000) R B H q s.1 /\ Ag R B H s.2.1 s.2.2.1 s.2.2.2 /\ H c /\ ∀ (i : Nat) (k' : Bool), i < ls.length -> 2 * i + k'.toNat < k -> sOf ls ⟨i, k'⟩ = c -> Fin ls R H ⟨i, k'⟩) (fun _ => False) ?_ ?_ (s := (at_, a, b, d)) ⟨R, B, H, q, h.keep (by omega), hA, hH, fun i k' _ h => by omega⟩) ?_
  · rintro i k ⟨at_, a, b, d⟩ hi hs ⟨R, B, H, q, h, hA, hH, hF⟩
    dsimp only at h hA
    have hb2 : k.toNat <= 1 := by cases k <;> decide
    refine M.o_mono (sink_step hN hr hc (by omega) h hA hH (g := ⟨i, k⟩) (ij hi) hs) ?_
    rintro (⟨at', a', b', d'⟩ | x) hy
    · obtain ⟨R', B', H', q', h1, h2, h3, h4, h5⟩ := hy
      refine ⟨R', B', H', q', h1.keep (by omega), h2, h3, fun i' k' hi' hk' hs' => ?_⟩
      by_cases e : 2 * i' + k'.toNat < 2 * i + k.toNat
      · exact h5 _ hs' (hF i' k' hi' e hs')
      · have hb3 : k'.toNat <= 1 := by cases k' <;> decide
        have e1 : i' = i := by omega
        subst e1
        have e2 : k' = k := by
          have : k'.toNat = k.toNat := by omega
          cases k <;> cases k' <;> simp at this <;> rfl
        rw [e2]
        exact h4
    · exact hy
  · rintro i k ⟨at_, a, b, d⟩ hi hs ⟨R, B, H, q, h, hA, hH, hF⟩
    dsimp only at h hA
    refine ⟨R, B, H, q, h.keep (by omega), hA, hH, fun i' k' hi' hk' hs' => ?_⟩
    by_cases e : 2 * i' + k'.toNat < 2 * i + k.toNat
    · exact hF i' k' hi' e hs'
    · have hb2 : k.toNat <= 1 := by cases k <;> decide
      have hb3 : k'.toNat <= 1 := by cases k' <;> decide
      have e1 : i' = i := by omega
      subst e1
      have e2 : k' = k := by
        have : k'.toNat = k.toNat := by omega
        cases k <;> cases k' <;> simp at this <;> rfl
      rw [e2] at hs'
      exact absurd hs' hs
  · rintro (⟨at', a', b', d'⟩ | x) hy
    · obtain ⟨R', B', H', q', h1, h2, h3, h4⟩ := hy
      refine ⟨R', B', H', q', (h1.mark fun _ g hg hs => ?_).keep (by omega), h2⟩
      obtain ⟨i, k⟩ := g
      obtain ⟨g0, g1⟩ := hg
      dsimp only at g0 g1
      obtain ⟨j, rfl⟩ : ∃ j : Nat, i = (j : Int) := ⟨i.toNat, by omega⟩
      have hb2 : k.toNat <= 1 := by cases k <;> decide
      exact h4 j k (by omega) (by omega) hs
    · exact hy
theorem sink_marks (hN : NetOk n ls) {r N : Nat} (e : (N : Int) = n) {K : Int} {R : Int -> Int} {B : Int -> Leg} {H : Int -> Prop} {q : Int -> Nat} {a : List Int} {b : List Leg} {d : List Bool} (hr : 1 <= r) (hK : K <= 800000000000000) (h : Rk ls n f r 0 K R B H q (-1)) (hA : Ag R B H a b d) :
    (M.iter (m_level_survey_sinking_b5 n ls) (0, a, b, d, -1)).Out (fun y => ∃ R' B' H' q', Rk ls n f r N (K + 727200000) R' B' H' q' y.2.2.2 /\ Ag R' B' H' y.1 y.2.1 y.2.2.1) := by
  have hm := hN.marks
  refine M.o_for N (fun c s => s.1 = c /\ ∃ R B H q, Rk ls n f r c (K + c * 60600000) R B H q s.2.2.2.2 /\ Ag R B H s.2.1 s.2.2.1 s.2.2.2.1) ?_ ?_ (s := (0, a, b, d, -1)) ⟨rfl, R, B, H, q, h.keep (by omega), hA⟩
  · rintro c ⟨s, a, b, d, at_⟩ hc ⟨e1, R, B, H, q, h, hA⟩
    dsimp only at e1 h hA
    subst e1
    simp only [m_level_survey_sinking_b5]
    have hd := hA.rd s (by omega)
    refine M.o_t (decide_eq_true (by omega)) (M.o_grd (gA2 (by omega) (by omega)) (M.o_if (fun hb => ?_) (fun hb => ?_)))
    · refine M.o_grd (gA2 (by omega) (by omega)) (M.o_pure ⟨rfl, R, B, H, q, (h.mark fun hh => ?_).keep (by omega), hA⟩)
      rw [hd.2 hh] at hb
      cases hb
    · have hh : H s := hd.1 (by simpa using hb)
      refine M.o_bindE (a := (s : Int)) (by unfold m_level_survey_legs; exact M.i_pure) (M.o_bind (sink_mark hN hr (by omega) (by omega) h hA hh) ?_)
      rintro (⟨at', a', b', d'⟩ | x) hy
      · obtain ⟨R', B', H', q', h1, h2⟩ := hy
        exact M.o_grd (gA2 (by omega) (by omega)) (M.o_pure ⟨rfl, R', B', H', q', h1.keep (by omega), h2⟩)
      · exact hy.elim
  · rintro ⟨s, a, b, d, at_⟩ ⟨e1, R, B, H, q, h, hA⟩
    dsimp only at e1 h hA
    subst e1
    simp only [m_level_survey_sinking_b5]
    exact M.o_f (decide_eq_false (by omega)) (M.o_pure ⟨R, B, H, q, h.keep (by omega), hA⟩)
theorem sink_rounds (hN : NetOk n ls) {N : Nat} (e : (N : Int) = n) {B : Int -> Leg} {a : List Int} {b : List Leg} {d : List Bool} (hf : 0 <= f /\ f < n) (hA : Ag (fun _ => 0) B (fun v => v = f) a b d) :
    (M.iter (m_level_survey_sinking_b6 n ls) (a, b, d, -1, 0)).Out (fun y => ∃ K R' B' H' q', Rk ls n f (N + 1) N K R' B' H' q' y.2.2.2 /\ Ag R' B' H' y.1 y.2.1 y.2.2.1) := by
  have hm := hN.marks
  refine M.o_for (N + 1) (fun p s => s.2.2.2.2 = p /\ ∃ R B H q, Ag R B H s.1 s.2.1 s.2.2.1 /\ Rk ls n f (p + 1) 0 (p * 727200000) R B H q (-1) /\ (0 < p -> Rk ls n f p N (p * 727200000) R B H q s.2.2.2.1)) ?_ ?_ (s := (a, b, d, -1, 0)) ⟨rfl, fun _ => 0, B, fun v => v = f, fun _ => 0, hA, (Rk.start hf B).keep (by omega), fun h => by omega⟩
  · rintro p ⟨a, b, d, at_, s⟩ hp ⟨e1, R, B, H, q, hA, h, _⟩
    dsimp only at e1 h hA
    subst e1
    simp only [m_level_survey_sinking_b6]
    refine M.o_t (decide_eq_true (by omega)) (M.o_bind (sink_marks hN e (by omega) (by omega) h hA) ?_)
    rintro ⟨a', b', d', at'⟩ ⟨R', B', H', q', h1, h2⟩
    dsimp only at h1 h2
    have h3 := h1.keep (K' := ((s + 1 : Nat) : Int) * 727200000) (by omega)
    exact M.o_grd (gA2 (by omega) (by omega)) (M.o_pure ⟨rfl, R', B', H', q', h2, h3.round e, fun _ => h3⟩)
  · rintro ⟨a, b, d, at_, s⟩ ⟨e1, R, B, H, q, hA, _, h⟩
    dsimp only at e1 h hA
    subst e1
    simp only [m_level_survey_sinking_b6]
    exact M.o_f (decide_eq_false (by omega)) (M.o_pure ⟨_, R, B, H, q, h (by omega), hA⟩)
end Go.Proofs.Ytclhljenjphofaa
namespace Go.Nm
/-- The marks that are met on a walk. -/
def metL (ls : List Line) (l : List Leg) (e : Bool) : List Int := l.map (sOf ls) ++ (if e = true /\ l ≠ [] then [gOf ls (l.getD (l.length - 1) default)] else [])
end Go.Nm
namespace Go.Proofs.Ytclhljenjphofaa
open Go Go.Nm
variable {ls : List Line} {n : Int}
theorem twice_no {l : List Leg} {e : Bool} (hok : ∀ i : Nat, i < l.length -> LegOk ls (l.getD i default)) (hlen : l.length <= 1000000) (hn : (metL ls l e).Nodup) : (m_nilometerlaw01_twice n ls l e).Ends false := by
  have out : (m_nilometerlaw01_twice n ls l e).Out (fun r => r = false) := by
    unfold m_nilometerlaw01_twice
    refine M.o_bind (P := fun y => match y with | .inl _ => False | .inr p => p.2 = metL ls l e) ?_ ?_
    · refine M.o_for l.length (fun i st => st.1 = i /\ st.2 = if i = l.length then metL ls l e else (l.take i).map (sOf ls)) ?_ ?_ (s := (0, [])) ⟨rfl, by
        split
        · rename_i h
          have : l = [] := List.eq_nil_of_length_eq_zero h.symm
          subst this
          unfold metL
          simp
        · simp⟩
      · rintro i ⟨s, m⟩ hi ⟨e1, e2⟩
        dsimp only at hi e1 e2
        subst e1
        rw [if_neg (by omega)] at e2
        subst e2
        have hk := hok s hi
        have q1 := hk.1
        have q2 := hk.2
        have tk := take_succ_D l s hi default
        have lm : ((l.take s).map (sOf ls)).length = s := by rw [List.length_map, List.length_take]; omega
        -- behind the leg
        have tk2 : (l.take (s + 1)).map (sOf ls) = (l.take s).map (sOf ls) ++ [sOf ls (l.getD s default)] := by rw [← tk, List.map_append]; rfl
        have fin : ∀ m', m' = ((l.take s).map (sOf ls) ++ [sOf ls (l.getD s default)]) ++ (if (s : Int) = (l.length : Int) - 1 /\ e = true then [gOf ls (l.getD s default)] else []) -> m' = if s + 1 = l.length then metL ls l e else (l.take (s + 1)).map (sOf ls) := by
          intro m' hm
          rw [hm, ← tk2]
          by_cases h : s + 1 = l.length
          · rw [if_pos h]
            unfold metL
            have e3 : l.take (s + 1) = l := by rw [h]; exact List.take_length ..
            have e4 : l.length - 1 = s := by omega
            have e5 : l ≠ [] := fun h => by rw [h] at hi; simp at hi
            rw [e3, e4]
            congr 1
            by_cases h2 : e = true
            · rw [if_pos ⟨by omega, h2⟩, if_pos ⟨h2, e5⟩]
            · rw [if_neg (fun h => h2 h.2), if_neg (fun h => h2 h.1)]
          · rw [if_neg h, if_neg (fun h2 => h (by omega)), List.append_nil]
        simp only [m_nilometerlaw01_twice_b0]
        refine M.o_t (by simpa using hi) (M.o_grd (by simpa using hi) (M.o_f (by rw [decide_eq_false (by omega), decide_eq_false (by omega)]; rfl) (M.o_grd (gA2 (by omega) (by omega)) (M.o_if (fun hb => ?_) (fun hb => ?_)))))
        · have es : sOf ls (l.getD s default) = (ls.getD (l.getD s default).line.toNat default).dst := by unfold sOf legEnd lnOf; rw [hb]; rfl
          have eg : gOf ls (l.getD s default) = (ls.getD (l.getD s default).line.toNat default).src := by unfold gOf legEnd lnOf; rw [hb]; rfl
          rw [es, eg] at fin
          refine M.o_grdD (by rw [lm]; simp only [List.length_cons, List.length_nil]; omega) (M.o_if (fun c => ?_) (fun c => ?_))
          · rw [Bool.and_eq_true, beq_iff_eq] at c
            refine M.o_grdD (by rw [List.length_append, lm]; simp only [List.length_cons, List.length_nil]; omega) (M.o_pure ⟨rfl, fin _ (by rw [if_pos c])⟩)
          · refine M.o_pure ⟨rfl, fin _ ?_⟩
            rw [if_neg (fun h => by rw [h.2, beq_iff_eq.2 h.1] at c; simp at c), List.append_nil]
        · have es : sOf ls (l.getD s default) = (ls.getD (l.getD s default).line.toNat default).src := by unfold sOf legEnd lnOf; rw [hb]; rfl
          have eg : gOf ls (l.getD s default) = (ls.getD (l.getD s default).line.toNat default).dst := by unfold gOf legEnd lnOf; rw [hb]; rfl
          rw [es, eg] at fin
          refine M.o_grdD (by rw [lm]; simp only [List.length_cons, List.length_nil]; omega) (M.o_if (fun c => ?_) (fun c => ?_))
          · rw [Bool.and_eq_true, beq_iff_eq] at c
            refine M.o_grdD (by rw [List.length_append, lm]; simp only [List.length_cons, List.length_nil]; omega) (M.o_pure ⟨rfl, fin _ (by rw [if_pos c])⟩)
          · refine M.o_pure ⟨rfl, fin _ ?_⟩
            rw [if_neg (fun h => by rw [h.2, beq_iff_eq.2 h.1] at c; simp at c), List.append_nil]
      · rintro ⟨s, m⟩ ⟨e1, e2⟩
        dsimp only at e1 e2
        subst e1
        rw [if_pos rfl] at e2
        simp only [m_nilometerlaw01_twice_b0]
        exact M.o_f (by simp) (M.o_pure e2)
    · rintro (y | ⟨l4, l5⟩) hy
      · exact hy.elim
      · dsimp only at hy ⊢
        subst hy
        refine M.o_bind (P := fun y => y = .inr ()) ?_ (fun y hy => by subst hy; exact M.o_pure rfl)
        refine M.o_for (metL ls l e).length (fun i st => st = i) ?_ ?_ rfl
        · rintro i s hi rfl
          simp only [m_nilometerlaw01_twice_b3]
          refine M.o_t (by simpa using hi) (M.o_bind (P := fun y => y = .inr ()) ?_ (fun y hy => by subst hy; exact M.o_pure rfl))
          refine M.o_for s (fun i st => st = i) ?_ ?_ rfl
          · rintro i k hk rfl
            simp only [m_nilometerlaw01_twice_b2]
            refine M.o_t (decide_eq_true (by omega)) (M.o_grd (by simpa using hi) (M.o_grdD (by omega) (M.o_f ?_ (M.o_pure rfl))))
            rw [beq_eq_false_iff_ne, getD_el _ hi, getD_el _ (show k < (metL ls l e).length by omega)]
            exact fun h => (List.pairwise_iff_getElem.1 hn k s (by omega) hi hk) h.symm
          · rintro k rfl
            simp only [m_nilometerlaw01_twice_b2]
            exact M.o_f (decide_eq_false (by omega)) (M.o_pure rfl)
        · rintro s rfl
          simp only [m_nilometerlaw01_twice_b3]
          exact M.o_f (by simp) (M.o_pure rfl)
  obtain ⟨r, h, rfl⟩ := out
  exact h
end Go.Proofs.Ytclhljenjphofaa
namespace Go.Nm
/-- A walk that proves a greatest difference. -/
structure HiOk (ls : List Line) (f t : Int) (l : List Leg) : Prop where
  pos : 0 < l.length
  few : l.length <= 12
  ok : ∀ i : Nat, i < l.length -> LegOk ls (l.getD i default)
  first : sOf ls (l.getD 0 default) = f
  once : (metL ls l true).Nodup
  rise : ∃ d, IsDist ls f t d /\ rsW ls f 0 l = some (t, d)
/-- What is said of Highest. -/
structure HiE (n : Int) (ls : List Line) (f t : Int) (l : List Leg) (e : Int) : Prop where
  err : e ≠ 0 -> l = []
  chk : chkE n ls ≠ 0 -> e = chkE n ls
  arg : chkE n ls = 0 -> ¬ ((0 <= f /\ f < n) /\ (0 <= t /\ t < n)) ∨ f = t -> e = 2
  no : chkE n ls = 0 -> (0 <= f /\ f < n) -> (0 <= t /\ t < n) -> f ≠ t -> ¬ Agr ls -> e = 7
  far : chkE n ls = 0 -> (0 <= f /\ f < n) -> (0 <= t /\ t < n) -> f ≠ t -> Agr ls -> ¬ Tied ls f t -> e = 5
  yes : chkE n ls = 0 -> (0 <= f /\ f < n) -> (0 <= t /\ t < n) -> f ≠ t -> Agr ls -> Tied ls f t -> e = 0 /\ HiOk ls f t l
end Go.Nm
namespace Go.Proofs.Ytclhljenjphofaa
open Go Go.Nm
variable {ls : List Line} {n : Int}
theorem highest_all (f t : Int) : (m_level_Highest n ls f t).Out (fun y => HiE n ls f t y.1 y.2) := by
  unfold m_level_Highest m_level_asked
  by_cases h : chkE n ls = 0
  · have hN := chk_ok.1 h
    have hk := hN.marks
    have c1 : (chkE n ls != 0) = false := by rw [h]; rfl
    by_cases hr : ((0 <= f /\ f < n) /\ (0 <= t /\ t < n)) /\ f ≠ t
    · obtain ⟨⟨hf, ht⟩, hne⟩ := hr
      refine M.o_bind (P := fun y => ∃ can by_ e, y = .inr (n, can, by_, e) /\ Wkd ls n can by_ /\ (¬ Agr ls -> e = 7) /\ (Agr ls -> e = if rw_ can f t = 1099511627776 then 5 else 0)) ?_ ?_
      · refine M.o_bindE (check_ends n ls) (M.o_f c1 (M.o_grd (gA2 (by omega) (by omega)) (M.o_bindE (in_ends _ _ _) ?_)))
        rw [show (decide (0 <= f) && decide (f <= n - 1)) = true from gA2 (by omega) (by omega)]
        refine M.o_bindE (a := true) (M.i_opt (fun _ => by rw [← show (decide (0 <= t) && decide (t <= n - 1)) = true from gA2 (by omega) (by omega)]; exact in_ends _ _ _) (fun h => by cases h)) ?_
        refine M.o_f (by rw [beq_eq_false_iff_ne.2 hne]; rfl) (M.o_bind (agreed_out hN) ?_)
        rintro y ⟨c, b, e, rfl, hW, h1, h2⟩
        dsimp only
        refine M.o_grd (gOr2 (by omega) (by omega)) (M.o_grd (gOr2 (by omega) (by omega)) ?_)
        by_cases hA : Agr ls
        · have := h2 hA
          subst this
          by_cases e : rw_ c f t = 1099511627776
          · exact M.o_t (by unfold rw_ at e; rw [e]; rfl) (M.o_pure ⟨c, b, 5, rfl, hW, fun h => absurd hA h, fun _ => by rw [if_pos e]⟩)
          · exact M.o_f (by unfold rw_ at e; simpa using e) (M.o_pure ⟨c, b, 0, rfl, hW, fun h => absurd hA h, fun _ => by rw [if_neg e]⟩)
        · have := h1 hA
          subst this
          exact M.o_f (by simp) (M.o_pure ⟨c, b, 7, rfl, hW, fun _ => rfl, fun h => absurd h hA⟩)
      · rintro y ⟨c, b, e, rfl, hW, h1, h2⟩
        dsimp only
        have no2 : ¬ (((0 <= f /\ f < n) /\ (0 <= t /\ t < n)) -> f = t) := fun h => hne (h ⟨hf, ht⟩)
        by_cases hA : Agr ls
        · have hD := hW.done hN hA hf
          by_cases e5 : rw_ c f t = 1099511627776
          · have := h2 hA
            rw [if_pos e5] at this
            subst this
            refine M.o_t (by decide) (M.o_pure ⟨fun _ => rfl, fun h' => absurd h h', fun _ h' => ?_, fun _ _ _ _ h' => absurd hA h', fun _ _ _ _ _ _ => rfl, fun _ _ _ _ _ hT => ?_⟩)
            · rcases h' with h' | h'
              · exact absurd ⟨hf, ht⟩ h'
              · exact absurd h' hne
            · have := hD.tied t ht.1 ht.2 hT
              omega
          · have := h2 hA
            rw [if_neg e5] at this
            subst this
            have hlt := hD.far t ht.1 ht.2 e5
            have d1 := hD.dist t ht.1 ht.2 hlt
            obtain ⟨h', hF⟩ := hA
            obtain ⟨k, hch⟩ := ((hW.row f hf.1 hf.2).bo.chn h' hF t ht.1 ht.2 hlt).num
            obtain ⟨l, l1, l2, l3, l4⟩ := highest_1 hN hW ⟨h', hF⟩ hf k t ht.1 ht.2 hlt hch
            have hkp : 0 < k := by
              cases hch with
              | root => exact absurd rfl hne
              | up => omega
            have few := starts_few hN (f := f) (by_ := rb_ b f) (l := l) (fun i hi => l4 i (by omega))
            have ho : HiOk ls f t l := by
              refine ⟨by omega, few, fun i hi => (l4 i (by omega)).1, ?_, ?_, _, d1, l3⟩
              · have h0 := (l4 0 hkp).2
                generalize sOf ls (l.getD 0 default) = x at h0
                cases h0
                rfl
              · -- no mark twice: each has its own number of legs back
                have hlast : gOf ls (l.getD (l.length - 1) default) = t := by
                  have g : ∀ (l : List Leg) (x s y r : Int), l ≠ [] -> rsW ls x s l = some (y, r) -> gOf ls (l.getD (l.length - 1) default) = y := by
                    intro l
                    induction l with
                    | nil => intro x s y r h; exact absurd rfl h
                    | cons g l ih =>
                      intro x s y r _ hr
                      rw [rsW_cons] at hr
                      split at hr
                      · cases l with
                        | nil =>
                          unfold rsW at hr
                          simp only [Option.some.injEq, Prod.mk.injEq] at hr
                          exact hr.1
                        | cons g2 l2 =>
                          have := ih _ _ _ _ (by simp) hr
                          simpa using this
                      · cases hr
                  exact g l _ _ _ _ (fun e => by rw [e] at l2; simp at l2; omega) l3
                unfold metL
                rw [if_pos ⟨rfl, fun e => by rw [e] at l2; simp at l2; omega⟩, hlast, List.nodup_append]
                refine ⟨?_, by simp, fun a ha b' hb' e => ?_⟩
                · unfold List.Nodup
                  rw [List.pairwise_iff_getElem]
                  intro i j hi hj hlt' e
                  rw [List.length_map] at hi hj
                  rw [List.getElem_map, List.getElem_map] at e
                  have h1 := (l4 i (by omega)).2
                  have h2 := (l4 j (by omega)).2
                  rw [getD_el l hi] at h1
                  rw [getD_el l hj, ← e] at h2
                  have := h1.uniq h2
                  omega
                · obtain ⟨g, hg, rfl⟩ := List.mem_map.1 ha
                  obtain ⟨i, hi, rfl⟩ := mem_getD hg default
                  obtain rfl : b' = t := by simpa using hb'
                  have h1 := (l4 i (by omega)).2
                  rw [e] at h1
                  have := h1.uniq hch
                  omega
            refine M.o_f (by decide) (M.o_bindE l1 (M.o_pure ⟨fun h => absurd rfl h, fun h' => absurd h h', fun _ h' => ?_, fun _ _ _ _ h' => absurd ⟨_, hF⟩ h', fun _ _ _ _ _ h' => absurd d1.tied h', fun _ _ _ _ _ _ => ⟨rfl, ho⟩⟩))
            rcases h' with h' | h'
            · exact absurd ⟨hf, ht⟩ h'
            · exact absurd h' hne
        · have := h1 hA
          subst this
          refine M.o_t (by decide) (M.o_pure ⟨fun _ => rfl, fun h' => absurd h h', fun _ h' => ?_, fun _ _ _ _ _ => rfl, fun _ _ _ _ h' => absurd h' hA, fun _ _ _ _ h' => absurd h' hA⟩)
          rcases h' with h' | h'
          · exact absurd ⟨hf, ht⟩ h'
          · exact absurd h' hne
    · have two : ∀ y : (List Leg) × Int, y = ([], 2) -> HiE n ls f t y.1 y.2 := by
        rintro _ rfl
        exact ⟨fun _ => rfl, fun h' => absurd h h', fun _ _ => rfl, fun _ a b c => absurd ⟨⟨a, b⟩, c⟩ hr, fun _ a b c => absurd ⟨⟨a, b⟩, c⟩ hr, fun _ a b c => absurd ⟨⟨a, b⟩, c⟩ hr⟩
      refine M.o_bindE (a := .inl 2) ?_ (by dsimp only; exact M.o_t rfl (M.o_pure (two ([], 2) rfl)))
      refine M.i_bind (check_ends n ls) (M.i_f c1 (M.i_grd (gA2 (by omega) (by omega)) (M.i_bind (in_ends _ _ _) ?_)))
      have opt : (M.opt (!(!(decide (0 <= f) && decide (f <= n - 1)))) (m_level_in t 0 (n - 1)) false).Ends ((decide (0 <= f) && decide (f <= n - 1)) && (decide (0 <= t) && decide (t <= n - 1))) := M.i_opt (fun e => by rw [Bool.not_not] at e; rw [e, Bool.true_and]; exact in_ends _ _ _) (fun e => by rw [Bool.not_not] at e; rw [e]; rfl)
      refine M.i_bind opt (M.i_t ?_ M.i_pure)
      by_cases a1 : 0 <= f /\ f < n
      · by_cases a2 : 0 <= t /\ t < n
        · have a3 : f = t := Classical.byContradiction fun h => hr ⟨⟨a1, a2⟩, h⟩
          rw [a3]
          simp
        · have : (decide (0 <= t) && decide (t <= n - 1)) = false := by
            cases hb : (decide (0 <= t) && decide (t <= n - 1)) with
            | false => rfl
            | true =>
              rw [Bool.and_eq_true, decide_eq_true_eq, decide_eq_true_eq] at hb
              exact absurd ⟨hb.1, by omega⟩ a2
          rw [this]
          simp
      · have : (decide (0 <= f) && decide (f <= n - 1)) = false := by
          cases hb : (decide (0 <= f) && decide (f <= n - 1)) with
          | false => rfl
          | true =>
            rw [Bool.and_eq_true, decide_eq_true_eq, decide_eq_true_eq] at hb
            exact absurd ⟨hb.1, by omega⟩ a1
        rw [this]
        rfl
  · have c1 : (chkE n ls != 0) = true := by rw [bne_iff_ne]; exact h
    refine M.o_bindE (M.i_bind (check_ends n ls) (M.i_t c1 M.i_pure)) (M.o_t c1 (M.o_pure ⟨fun _ => rfl, fun _ => rfl, fun h' => absurd h' h, fun h' => absurd h' h, fun h' => absurd h' h, fun h' => absurd h' h⟩))
end Go.Proofs.Ytclhljenjphofaa
namespace Go.Nm
/-- A closed walk that proves that the lines disagree. -/
structure LpOk (ls : List Line) (l : List Leg) : Prop where
  pos : 0 < l.length
  few : l.length <= 12
  ok : ∀ i : Nat, i < l.length -> LegOk ls (l.getD i default)
  once : (metL ls l false).Nodup
  ring : ∃ d, d < 0 /\ rsW ls (sOf ls (l.getD 0 default)) 0 l = some (sOf ls (l.getD 0 default), d)
theorem lp_of {ls : List Line} {B : Int -> Leg} {y : Int} {k : Nat} (k0 : 0 < k) (k12 : k <= 12) (hl : ∀ i, LegOk ls (B (bk ls B i y)) /\ gOf ls (B (bk ls B i y)) = bk ls B i y) (h1 : bk ls B k y = y) (h2 : ∀ i, 0 < i -> i < k -> bk ls B i y ≠ y) (h3 : bs ls B k y < 0) : LpOk ls (rgL ls B y k).reverse := by
  have len : (rgL ls B y k).reverse.length = k := by rw [List.length_reverse, rgL_length]
  refine ⟨by omega, by omega, fun i hi => ?_, ?_, ?_⟩
  · have hm : (rgL ls B y k).reverse.getD i default ∈ (rgL ls B y k).reverse := by
      rw [getD_el _ hi]
      exact List.getElem_mem hi
    obtain ⟨x, _, e⟩ := List.mem_map.1 (List.mem_reverse.1 hm)
    rw [← e]
    exact (hl x).1
  · unfold metL
    rw [if_neg (fun h => by cases h.1), List.append_nil, List.map_reverse]
    unfold rgL
    rw [List.map_map]
    refine List.pairwise_reverse.mpr (List.pairwise_iff_getElem.mpr fun i j hi hj hij => Ne.symm ?_)
    simp only [List.length_map, List.length_range] at hi hj
    simp only [List.getElem_map, List.getElem_range, Function.comp]
    rw [← bk_succ, ← bk_succ]
    by_cases c : j + 1 = k
    · rw [c, h1]
      exact h2 (i + 1) (by omega) (by omega)
    · exact ring_nodup h1 h2 (i + 1) (j + 1) (by omega) (by omega)
  · have hw := rgL_walk (ls := ls) B y k (fun i _ => (hl i).2) 0
    obtain ⟨k', rfl⟩ : ∃ k', k = k' + 1 := ⟨k - 1, by omega⟩
    have e : (rgL ls B y (k' + 1)).reverse = B (bk ls B k' y) :: (rgL ls B y k').reverse := by rw [rgL_succ]; simp
    have e2 : sOf ls ((rgL ls B y (k' + 1)).reverse.getD 0 default) = y := by
      rw [e]
      show sOf ls (B (bk ls B k' y)) = y
      rw [← bk_succ, h1]
    rw [h1] at hw
    exact ⟨_, h3, by rw [e2, hw, Int.zero_add]⟩
end Go.Nm
namespace Go.Proofs.Ytclhljenjphofaa
open Go Go.Nm
variable {ls : List Line} {n f : Int}
theorem sinking_all (hN : NetOk n ls) (hf : 0 <= f /\ f < n) : (m_level_survey_sinking n ls f).Out (fun y => (y = [] /\ ∃ (R : Int -> Int) (H : Int -> Prop), H f /\ ∀ g, LegOk ls g -> H (sOf ls g) -> Fin ls R H g) ∨ LpOk ls y) := by
  have hm := hN.marks
  obtain ⟨N, e⟩ : ∃ N : Nat, (N : Int) = n := ⟨n.toNat, by omega⟩
  have hA : Ag (fun _ => 0) (fun _ => default) (fun v => v = f) (List.replicate 13 0) (List.replicate 13 default) ((List.replicate 13 false).set f.toNat true) := by
    refine ⟨by simp, by simp, by simp, fun v hv => ?_, fun v hv => ?_, fun v hv => ?_⟩
    · rw [getD_el _ (by simpa using hv), List.getElem_replicate]
    · rw [getD_el _ (by simpa using hv), List.getElem_replicate]
    · rw [gset _ _ _ _ _ (by simp; omega)]
      by_cases c : v = f.toNat
      · rw [if_pos c]; exact ⟨fun _ => by omega, fun _ => rfl⟩
      · rw [if_neg c, getD_el _ (by simpa using hv), List.getElem_replicate]; exact ⟨fun h => (by cases h), fun h => by omega⟩
  unfold m_level_survey_sinking
  refine M.o_grd (gA2 (by omega) (by omega)) (M.o_grd (gA2 (by omega) (by omega)) (M.o_bind (sink_rounds hN e hf hA) ?_))
  rintro ⟨a, b, d, at_⟩ ⟨K, R, B, H, q, h, hA⟩
  dsimp only at h hA ⊢
  by_cases c : at_ = -1
  · subst c
    exact M.o_t rfl (M.o_pure (.inl ⟨rfl, R, H, h.sk.root, h.still e⟩))
  · obtain ⟨pos, k, k0, kN, k1, k2, k3⟩ := h.ringed e c (Nat.le_refl _)
    have leg : ∀ i, LegOk ls (B (bk ls B i at_)) /\ gOf ls (B (bk ls B i at_)) = bk ls B i at_ := fun i => by
      have := h.sk.leg _ (pos i)
      exact ⟨this.2.1, this.2.2.1⟩
    have rng : ∀ i, 0 <= bk ls B i at_ /\ bk ls B i at_ < n := fun i => h.dom _ (h.qd _ (pos i))
    have row : ∀ i, b.getD (bk ls B i at_).toNat default = B (bk ls B i at_) := fun i => by
      have h1 := rng i
      rw [hA.rb _ (by omega), Int.toNat_of_nonneg h1.1]
    have sh : ∀ i, bk ls B i (bk ls B N at_) = bk ls B (N + i) at_ := fun i => (bk_add B N i at_).symm
    refine M.o_f (beq_eq_false_iff_ne.2 c) (M.o_bind (P := fun z => z = bk ls B N at_) ?_ ?_)
    · refine M.o_for N (fun i s => s.1 = bk ls B i at_ /\ s.2 = i) ?_ ?_ (s := (at_, 0)) ⟨rfl, rfl⟩
      · rintro i ⟨x, s⟩ hi ⟨e1, e2⟩
        dsimp only at e1 e2
        subst e2
        subst e1
        have h1 := rng s
        simp only [m_level_survey_sinking_b7]
        rw [row]
        exact M.o_t (decide_eq_true (by omega)) (M.o_grd (gA2 (by omega) (by omega)) (M.o_bindE (start_ends (leg s).1) (M.o_grd (gA2 (by omega) (by omega)) (M.o_pure ⟨(bk_succ B s at_).symm, rfl⟩))))
      · rintro ⟨x, s⟩ ⟨e1, e2⟩
        dsimp only at e1 e2
        subst e2
        simp only [m_level_survey_sinking_b7]
        exact M.o_f (decide_eq_false (by omega)) (M.o_pure e1)
    · rintro _ rfl
      refine M.o_bind (P := fun z => z.2 = rgL ls B (bk ls B N at_) k) ?_ ?_
      · refine M.o_for k (fun i s => s.1 = bk ls B i (bk ls B N at_) /\ s.2 = rgL ls B (bk ls B N at_) i) ?_ ?_ (s := (bk ls B N at_, [])) ⟨rfl, rfl⟩
        · rintro i ⟨x, l⟩ hi ⟨e1, e2⟩
          dsimp only at e1 e2
          subst e1
          subst e2
          have h1 := rng (N + i)
          simp only [m_level_survey_sinking_b8]
          rw [rgL_length]
          have hc : (((i : Int) == 0) || (bk ls B i (bk ls B N at_) != bk ls B N at_)) = true := by
            by_cases z : i = 0
            · rw [z]; rfl
            · rw [show (bk ls B i (bk ls B N at_) != bk ls B N at_) = true from bne_iff_ne.2 (k2 i (by omega) hi), Bool.or_true]
          have hrow : b.getD (bk ls B i (bk ls B N at_)).toNat default = B (bk ls B i (bk ls B N at_)) := by rw [sh]; exact row _
          have hleg : LegOk ls (B (bk ls B i (bk ls B N at_))) := by rw [sh]; exact (leg _).1
          rw [hrow]
          refine M.o_t hc (M.o_grd (gA2 (by rw [sh]; omega) (by rw [sh]; omega)) (M.o_grd (decide_eq_true (by simp only [List.length_cons, List.length_nil]; omega)) (M.o_bindE (start_ends hleg) (M.o_pure ⟨(bk_succ B i _).symm, (rgL_succ B _ i).symm⟩))))
        · rintro ⟨x, l⟩ ⟨e1, e2⟩
          dsimp only at e1 e2
          subst e1
          subst e2
          simp only [m_level_survey_sinking_b8]
          rw [rgL_length, k1]
          have hc : (((k : Int) == 0) || (bk ls B N at_ != bk ls B N at_)) = false := by
            rw [show ((k : Int) == 0) = false from beq_eq_false_iff_ne.2 (by omega), bne_self_eq_false]
            rfl
          exact M.o_f hc (M.o_pure rfl)
      · rintro ⟨l8, l9⟩ hl
        dsimp only at hl ⊢
        subst hl
        have hlp := lp_of k0 (show k <= 12 by omega) (fun i => by rw [sh]; exact leg _) k1 k2 k3
        exact M.o_bindE (reverse_ends (by rw [rgL_length]; omega)) (M.o_grd (decide_eq_true hlp.pos) (M.o_pure (.inr hlp)))
end Go.Proofs.Ytclhljenjphofaa
namespace Go.Nm
variable {ls : List Line} {n : Int}
theorem ed_leg {a b c : Int} (e : Ed ls a b c) : ∃ g, LegOk ls g /\ sOf ls g = a /\ gOf ls g = b /\ rOf ls g = c := by
  obtain ⟨l, hl, h⟩ := e
  obtain ⟨i, hi, rfl⟩ := mem_getD hl default
  rcases h with ⟨h1, h2, h3⟩ | ⟨h1, h2, h3⟩
  · exact ⟨⟨i, false⟩, ⟨by show (0 : Int) <= (i : Int); omega, by show (i : Int) < _; omega⟩, h1, h2, h3.symm⟩
  · exact ⟨⟨i, true⟩, ⟨by show (0 : Int) <= (i : Int); omega, by show (i : Int) < _; omega⟩, h1, h2, h3.symm⟩
theorem agr_of_parts (hR : Rng n ls) (hh : ∀ f : Nat, (f : Int) < n -> ∃ (R : Int -> Int) (H : Int -> Prop), H f /\ ∀ g, LegOk ls g -> H (sOf ls g) -> Fin ls R H g) : Agr ls := by
  have h1 : ∀ f : Nat, ∃ p : (Int -> Int) × (Int -> Prop), (f : Int) < n -> p.2 f /\ ∀ g, LegOk ls g -> p.2 (sOf ls g) -> Fin ls p.1 p.2 g := fun f => by
    by_cases c : (f : Int) < n
    · obtain ⟨R, H, h⟩ := hh f c
      exact ⟨(R, H), fun _ => h⟩
    · exact ⟨(fun _ => 0, fun _ => False), fun h => absurd h c⟩
  obtain ⟨P, hP⟩ := Classical.axiomOfChoice h1
  have h2 : ∀ v : Int, ∃ f : Nat, (0 <= v /\ v < n) -> ((f : Int) < n /\ (P f).2 v) /\ ∀ u : Nat, ((u : Int) < n /\ (P u).2 v) -> f <= u := fun v => by
    by_cases c : 0 <= v /\ v < n
    · obtain ⟨f, a1, a2⟩ := least_nat (p := fun u : Nat => (u : Int) < n /\ (P u).2 v) ⟨v.toNat, by omega, by
        have := (hP v.toNat (by omega)).1
        rwa [Int.toNat_of_nonneg c.1] at this⟩
      exact ⟨f, fun _ => ⟨a1, a2⟩⟩
    · exact ⟨0, fun h => absurd h c⟩
  obtain ⟨F, hF⟩ := Classical.axiomOfChoice h2
  -- an edge does not lead to a part that is met later
  have go : ∀ a b c, Ed ls a b c -> F b <= F a /\ (P (F a)).1 b <= (P (F a)).1 a + c := fun a b c e => by
    have hr := e.rng hR
    obtain ⟨g, g1, g2, g3, g4⟩ := ed_leg e
    have ha := (hF a hr.1).1
    have fin := (hP (F a) ha.1).2 g g1 (by rw [g2]; exact ha.2)
    unfold Fin at fin
    rw [g2, g3, g4] at fin
    exact ⟨(hF b hr.2).2 _ ⟨ha.1, fin.1⟩, fin.2⟩
  refine ⟨fun v => (P (F v)).1 v, feas_of fun a b c e => ?_⟩
  obtain ⟨c', e'⟩ := e.rev
  have k1 := go a b c e
  have k2 := go b a c' e'
  have k3 : F b = F a := by omega
  show (P (F b)).1 b - (P (F a)).1 a <= c
  rw [k3]
  omega
end Go.Nm
namespace Go.Nm
/-- What is said of Loop. -/
structure LoE (n : Int) (ls : List Line) (l : List Leg) (e : Int) : Prop where
  err : e ≠ 0 -> l = []
  chk : chkE n ls ≠ 0 -> e = chkE n ls
  agr : chkE n ls = 0 -> Agr ls -> e = 5
  no : chkE n ls = 0 -> ¬ Agr ls -> e = 0 /\ LpOk ls l
end Go.Nm
namespace Go.Proofs.Ytclhljenjphofaa
open Go Go.Nm
variable {ls : List Line} {n : Int}
theorem loop_all : (m_level_Loop n ls).Out (fun y => LoE n ls y.1 y.2) := by
  unfold m_level_Loop
  by_cases h : chkE n ls = 0
  · have hN := chk_ok.1 h
    have hm := hN.marks
    refine M.o_bind (opened_out hN) ?_
    rintro y ⟨c, b, rfl, hW⟩
    dsimp only
    refine M.o_f rfl (M.o_bind (open_out hN hW) ?_)
    intro r hr
    cases r with
    | false =>
      have hA : Agr ls := Classical.byContradiction fun h => by have := hr.2 h; cases this
      exact M.o_t rfl (M.o_pure ⟨fun _ => rfl, fun h' => absurd h h', fun _ _ => rfl, fun _ h' => absurd hA h'⟩)
    | true =>
      have hA : ¬ Agr ls := hr.1 rfl
      refine M.o_f rfl (M.o_bind (P := fun y => LpOk ls y.1) ?_ ?_)
      · obtain ⟨N, e⟩ : ∃ N : Nat, (N : Int) = n := ⟨n.toNat, by omega⟩
        refine M.o_for N (fun i s => s.1 = i /\ ∀ f : Nat, f < i -> ∃ (R : Int -> Int) (H : Int -> Prop), H f /\ ∀ g, LegOk ls g -> H (sOf ls g) -> Fin ls R H g) ?_ ?_ (s := (0, [])) ⟨rfl, fun f h => by omega⟩
        · rintro i ⟨s, l⟩ hi ⟨e1, hp⟩
          dsimp only at e1
          subst e1
          simp only [m_level_Loop_b0]
          refine M.o_t (decide_eq_true (by omega)) (M.o_bind (sinking_all hN (f := (s : Int)) ⟨by omega, by omega⟩) ?_)
          rintro r (⟨rfl, hR⟩ | hl)
          · refine M.o_f rfl (M.o_grd (gA2 (by omega) (by omega)) (M.o_pure ⟨rfl, fun f hf => ?_⟩))
            by_cases e2 : f = s
            · rw [e2]; exact hR
            · exact hp f (by omega)
          · have hne : (!r.isEmpty) = true := by
              have := hl.pos
              cases r with
              | nil => simp at this
              | cons x xs => rfl
            exact M.o_t hne (M.o_pure hl)
        · rintro ⟨s, l⟩ ⟨e1, hp⟩
          exact absurd (agr_of_parts hN.rng fun f hf => hp f (by omega)) hA
      · rintro ⟨l2, l3⟩ hl
        exact M.o_pure ⟨fun h => absurd rfl h, fun h' => absurd h h', fun _ h' => absurd h' hA, fun _ _ => ⟨rfl, hl⟩⟩
  · have hc : (chkE n ls != 0) = true := bne_iff_ne.2 h
    unfold m_level_opened
    refine M.o_bind (P := fun y => y = .inl (chkE n ls)) (M.o_bindE (check_ends n ls) (M.o_t hc (M.o_pure rfl))) ?_
    rintro _ rfl
    dsimp only
    exact M.o_t hc (M.o_pure ⟨fun _ => rfl, fun _ => rfl, fun h' => absurd h' h, fun h' => absurd h' h⟩)
end Go.Proofs.Ytclhljenjphofaa
namespace Go.Proofs.Ytclhljenjphofaa
open Go Go.Nm
theorem copy_leg {l : List Leg} (h : l.length <= 1000000) : (m_nilometerkit_Copy_level_Leg l).Ends l := by
  unfold m_nilometerkit_Copy_level_Leg
  exact M.i_grd (decide_eq_true (by simp only [List.length_nil]; omega)) M.i_pure
theorem walk_leg {l : List Leg} (h : l.length <= 1000000) : (m_nilometerlaw01_walk l).Ends l := by
  have out : (m_nilometerlaw01_walk l).Out (fun r => r = l) := by
    unfold m_nilometerlaw01_walk
    refine M.o_bind (P := fun p => p.2 = l) ?_ ?_
    · refine M.o_for l.length (fun i st => st.1 = i /\ st.2 = l.take i) ?_ ?_ (s := (0, [])) ⟨rfl, rfl⟩
      · rintro i ⟨s, m⟩ hi ⟨e1, e2⟩
        dsimp only at e1 e2
        subst e1
        subst e2
        simp only [m_nilometerlaw01_walk_b0]
        exact M.o_t (decide_eq_true (by omega)) (M.o_grd (decide_eq_true (by omega)) (M.o_grd (decide_eq_true (by rw [List.length_take]; simp only [List.length_cons, List.length_nil]; omega)) (M.o_pure ⟨rfl, take_succ_D l s hi default⟩)))
      · rintro ⟨s, m⟩ ⟨e1, e2⟩
        dsimp only at e1 e2
        subst e1
        simp only [m_nilometerlaw01_walk_b0]
        refine M.o_f (decide_eq_false (by omega)) (M.o_pure ?_)
        show m = l
        rw [e2, List.take_length]
    · rintro ⟨a, b⟩ h
      exact M.o_pure h
  obtain ⟨r, h, rfl⟩ := out
  exact h
theorem same_leg (ls : List Leg) : (m_nilometerkit_Same_level_Leg ls ls).Ends true := by
  have out : (m_nilometerkit_Same_level_Leg ls ls).Out (fun r => r = true) := by
    unfold m_nilometerkit_Same_level_Leg
    refine M.o_f (by simp) (M.o_bind (P := fun y => y = .inr ()) ?_ (fun y hy => by subst hy; exact M.o_pure rfl))
    refine M.o_for ls.length (fun i st => st = i) ?_ ?_ rfl
    · rintro i s hi rfl
      simp only [m_nilometerkit_Same_level_Leg_b0]
      exact M.o_t (by simpa using hi) (M.o_grd (by simpa using hi) (M.o_grd (by simpa using hi) (M.o_f (by simp) (M.o_pure rfl))))
    · rintro s rfl
      simp only [m_nilometerkit_Same_level_Leg_b0]
      exact M.o_f (by simp) (M.o_pure rfl)
  obtain ⟨r, h, rfl⟩ := out
  exact h
end Go.Proofs.Ytclhljenjphofaa
namespace Go.Proofs.Ytclhljenjphofaa
open Go Go.Nm
variable {ls : List Line} {n : Int}
theorem walks_j0 (legs : List Leg) : (m_nilometerlaw01_LevelWalks_j0 n ls legs n ls legs).Ends true := by
  unfold m_nilometerlaw01_LevelWalks_j0
  exact M.i_bind (same_net n ls) (M.i_bind (a := true) (M.i_opt (fun _ => same_leg legs) (fun h => by cases h)) (M.i_bind (a := true) (M.i_opt (fun _ => awake_ends) (fun h => by cases h)) M.i_pure))
theorem rsE_ok (h : chkE n ls = 0) {l : List Leg} (h1 : 0 < l.length) (h2 : l.length <= 12) (hk : ∀ i : Nat, i < l.length -> LegOk ls (l.getD i default)) {y d : Int} (hr : rsW ls (sOf ls (l.getD 0 default)) 0 l = some (y, d)) : rsE n ls l = (sOf ls (l.getD 0 default), y, d, 0) := by
  have hall : l.all (legB ls) = true := List.all_eq_true.2 fun g hg => by
    obtain ⟨i, hi, rfl⟩ := mem_getD hg default
    have := hk i hi
    exact gA2 this.1 (by have := this.2; omega)
  unfold rsE
  rw [h, hall, hr, show (decide (1 <= (l.length : Int)) && decide ((l.length : Int) <= 60)) = true from gA2 (by omega) (by omega)]
  rfl
theorem walks_j1 (hl : ls.length <= 1000000) (legs : List Leg) {s2 : Int} (hs : ∀ l e, LoE n ls l e -> e = s2) : (m_nilometerlaw01_LevelWalks_j1 n ls legs n ls legs s2).Out (fun r => r = true) := by
  unfold m_nilometerlaw01_LevelWalks_j1
  refine M.o_bind loop_all ?_
  rintro ⟨l, e⟩ hL
  have es := hs l e hL
  dsimp only at hL ⊢
  subst es
  by_cases e0 : e = 0
  · subst e0
    have hc : chkE n ls = 0 := Classical.byContradiction fun h => h (hL.chk h).symm
    have hA : ¬ Agr ls := fun h => by have := hL.agr hc h; omega
    have hp := (hL.no hc hA).2
    obtain ⟨d, d1, d2⟩ := hp.ring
    have hr := rsE_ok hc hp.pos hp.few hp.ok d2
    have q := hp.few
    have rr := ref_rises n ls l hl (by omega)
    rw [hr] at rr
    refine M.o_f (by simp) (M.o_t rfl (M.o_bindE (net_ends n hl) (M.o_bindE (walk_leg (by omega)) (M.o_bindE rr ?_))))
    dsimp only
    have c1 : (((0 : Int) != 0) || (sOf ls (l.getD 0 default) != sOf ls (l.getD 0 default)) || decide (0 <= d)) = false := by simp; omega
    rw [c1]
    exact M.o_bindE (a := false) (M.i_opt (fun _ => twice_no hp.ok (by omega) hp.once) (fun h => by cases h)) (M.o_f rfl ⟨_, walks_j0 legs, rfl⟩)
  · have := hL.err e0
    subst this
    exact M.o_f (by simp) (M.o_f (beq_eq_false_iff_ne.2 e0) ⟨_, walks_j0 legs, rfl⟩)
theorem walks_j2 (hl : ls.length <= 1000000) (legs : List Leg) : (m_nilometerlaw01_LevelWalks_j2 n ls legs n ls legs).Out (fun r => r = true) := by
  unfold m_nilometerlaw01_LevelWalks_j2
  obtain ⟨b, e, _, a2, a3, a4⟩ := agrees_both (n := n) hl
  refine M.o_bindE (net_ends n hl) (M.o_bindE a2 ?_)
  dsimp only
  by_cases h : chkE n ls = 0
  · obtain ⟨k1, k2⟩ := a4 h
    cases b with
    | true => exact M.o_t rfl (walks_j1 hl legs fun l e hL => hL.agr h (k2.1 rfl))
    | false => exact M.o_f rfl (walks_j1 hl legs fun l e' hL => by rw [k1]; exact (hL.no h fun hA => by have := k2.2 hA; cases this).1)
  · obtain ⟨rfl, rfl⟩ := a3 h
    exact M.o_f rfl (walks_j1 hl legs fun l e' hL => hL.chk h)
end Go.Proofs.Ytclhljenjphofaa
namespace Go.Proofs.Ytclhljenjphofaa
open Go Go.Nm
variable {ls : List Line} {n : Int}
theorem chk_ne7 (n : Int) (ls : List Line) : chkE n ls ≠ 7 := by
  unfold chkE
  cases ((!(decide (1 <= n) && decide (n <= 12))) || decide (30 < (ls.length : Int))) <;> cases (!(ls.all (okLine n))) <;> simp
theorem walks_j3 (hl : ls.length <= 1000000) (legs : List Leg) {f t d s : Int} (hs : ∀ l e, HiE n ls f t l e -> e = s /\ (e = 0 -> chkE n ls = 0 /\ HiOk ls f t l /\ IsDist ls f t d)) : (m_nilometerlaw01_LevelWalks_j3 n ls f t legs n ls legs d s).Out (fun r => r = true) := by
  unfold m_nilometerlaw01_LevelWalks_j3
  refine M.o_bind (highest_all f t) ?_
  rintro ⟨l, e⟩ hL
  obtain ⟨es, hy⟩ := hs l e hL
  dsimp only at hL ⊢
  subst es
  by_cases e0 : e = 0
  · obtain ⟨hc, hp, hD⟩ := hy e0
    subst e0
    obtain ⟨d', d1, d2⟩ := hp.rise
    have e3 := d1.uniq hD
    subst e3
    rw [← hp.first] at d2
    have hr := rsE_ok hc hp.pos hp.few hp.ok d2
    have q := hp.few
    have rr := ref_rises n ls l hl (by omega)
    rw [hr, hp.first] at rr
    refine M.o_f (by simp) (M.o_t rfl (M.o_bindE (net_ends n hl) (M.o_bindE (walk_leg (by omega)) (M.o_bindE rr ?_))))
    dsimp only
    have c1 : ((((0 : Int) != 0) || (f != f)) || (t != t) || (d' != d')) = false := by simp
    rw [c1]
    exact M.o_bindE (a := false) (M.i_opt (fun _ => twice_no hp.ok (by omega) hp.once) (fun h => by cases h)) (M.o_f rfl (walks_j2 hl legs))
  · have := hL.err e0
    subst this
    exact M.o_f (by simp) (M.o_f (beq_eq_false_iff_ne.2 e0) (walks_j2 hl legs))
theorem levelWalks_ends (n : Int) (ls : List Line) (f t : Int) (legs : List Leg) : (m_nilometerlaw01_LevelWalks n ls f t legs).Ends true := by
  have out : (m_nilometerlaw01_LevelWalks n ls f t legs).Out (fun r => r = true) := by
    unfold m_nilometerlaw01_LevelWalks
    refine M.o_if (fun hb => M.o_bindE awake_ends (M.o_pure rfl)) (fun hb => ?_)
    rw [Bool.or_eq_false_iff] at hb
    have q1 := of_decide_eq_false hb.1
    have q2 := of_decide_eq_false hb.2
    have hl : ls.length <= 1000000 := by omega
    obtain ⟨⟨y1, y2, y3⟩, b1, b2, b3, b4, b5⟩ := between_both (n := n) hl f t
    refine M.o_bindE (copy_net hl n) (M.o_bindE (copy_leg (by omega)) (M.o_bindE b1 (M.o_bindE (net_ends n hl) (M.o_bindE b2 ?_))))
    dsimp only
    refine M.o_f (by simp) (M.o_bindE (rises_ends n ls legs) (M.o_bindE (net_ends n hl) (M.o_bindE (walk_leg (by omega)) (M.o_bindE (ref_rises n ls legs hl (by omega)) ?_))))
    refine M.o_f (by simp) ?_
    by_cases hc : chkE n ls = 0
    · by_cases hr : (0 <= f /\ f < n) /\ (0 <= t /\ t < n)
      · have hB := b5 hc hr.1 hr.2
        by_cases e : f = t
        · subst e
          have h3 : y3 = 0 ∨ y3 = 7 := by
            by_cases hA : Agr ls
            · exact .inl (hB.yes hA ⟨[], 0, .one⟩).1
            · have := hB.no hA
              simp only [Prod.mk.injEq] at this
              exact .inr this.2.2
          refine M.o_t (by rcases h3 with rfl | rfl <;> simp) (walks_j3 hl legs fun l e hL => ?_)
          have := hL.arg hc (.inr rfl)
          exact ⟨this, fun h => by omega⟩
        · refine M.o_f (by rw [beq_eq_false_iff_ne.2 e]; rfl) (walks_j3 hl legs fun l e' hL => ?_)
          by_cases hA : Agr ls
          · by_cases hT : Tied ls f t
            · obtain ⟨k1, k2, _⟩ := hB.yes hA hT
              obtain ⟨k3, k4⟩ := hL.yes hc hr.1 hr.2 e hA hT
              dsimp only at k1 k2
              exact ⟨by rw [k1, k3], fun _ => ⟨hc, k4, k2⟩⟩
            · have k1 := hB.far hA hT
              simp only [Prod.mk.injEq] at k1
              have := hL.far hc hr.1 hr.2 e hA hT
              exact ⟨by rw [this, k1.2.2], fun h => by omega⟩
          · have k1 := hB.no hA
            simp only [Prod.mk.injEq] at k1
            have := hL.no hc hr.1 hr.2 e hA
            exact ⟨by rw [this, k1.2.2], fun h => by omega⟩
      · have k := b4 hc hr
        simp only [Prod.mk.injEq] at k
        obtain ⟨rfl, rfl, rfl⟩ := k
        refine M.o_f (by simp) (walks_j3 hl legs fun l e' hL => ?_)
        have := hL.arg hc (.inl hr)
        exact ⟨this, fun h => by omega⟩
    · have k := b3 hc
      simp only [Prod.mk.injEq] at k
      obtain ⟨rfl, rfl, rfl⟩ := k
      have h7 := chk_ne7 n ls
      refine M.o_f (by rw [beq_eq_false_iff_ne.2 hc, beq_eq_false_iff_ne.2 h7]; simp) (walks_j3 hl legs fun l e' hL => ?_)
      have := hL.chk hc
      exact ⟨this, fun h => absurd (this ▸ h) hc⟩
  obtain ⟨r, h, rfl⟩ := out
  exact h
end Go.Proofs.Ytclhljenjphofaa
