/- Part 7 of the texts on which the proof rests. Conditions: none. -/
import Derived.Test.YtclhljenjphofaaZM6
set_option linter.unusedVariables false
set_option linter.unusedSimpArgs false
set_option linter.unusedSectionVars false
namespace Go.Nm
variable {ls : List Line} {n : Int}
/-- Days that are tried. -/
def Dq (ls : List Line) (d : Int) : Prop := (d = 1 ∨ ∃ l, l ∈ ls ∧ d = l.day + 1) ∧ d ≤ 40000
theorem Dy.dq (hN : NetOk n ls) {mk d : Int} (h : Dy ls mk d) : Dq ls d := by
  refine ⟨?_, (h.rng hN).2⟩
  rcases h.1 with rfl | ⟨l, hl, _, rfl⟩
  · exact .inl rfl
  · exact .inr ⟨l, hl, rfl⟩
theorem day_least (w : Int) (k : Nat) : 1 + (k : Int) ≤ 40000 → ∃ d, d ≤ 1 + (k : Int) ∧ Dy ls w d ∧ ptL n ⟨w, d⟩ ls = ptL n ⟨w, 1 + k⟩ ls := by
  induction k with
  | zero => exact fun _ => ⟨1, by omega, ⟨.inl rfl, by omega⟩, rfl⟩
  | succ k ih =>
    intro hk
    obtain ⟨d, h1, h2, h3⟩ := ih (by omega)
    by_cases e : ∃ l, l ∈ ls ∧ (l.src = w ∨ l.dst = w) ∧ l.day = 1 + k
    · obtain ⟨l, hl, hw, hd⟩ := e
      exact ⟨1 + (k + 1 : Nat), Int.le_refl _, ⟨.inr ⟨l, hl, hw, by omega⟩, by omega⟩, rfl⟩
    · refine ⟨d, by omega, h2, h3.trans ?_⟩
      unfold ptL
      refine List.map_congr_left fun l hl => ?_
      dsimp only
      unfold pt1
      by_cases c : l.day < 1 + (k : Int)
      · rw [if_pos c, if_pos (by omega)]
      · rw [if_neg c]
        by_cases c2 : l.day < 1 + ((k + 1 : Nat) : Int)
        · have e1 : l.day = 1 + k := by omega
          have e2 : l.src ≠ w := fun h => e ⟨l, hl, .inl h, e1⟩
          have e3 : l.dst ≠ w := fun h => e ⟨l, hl, .inr h, e1⟩
          rw [if_pos c2, if_neg e2, if_neg e3]
        · rw [if_neg c2]
/-- What was tried so far. -/
def TrD (ls : List Line) (i : Nat) (d : Int) : Prop := (1 ≤ i ∧ d = 1) ∨ ∃ j : Nat, j + 1 < i ∧ d = (ls.getD j default).day + 1 ∧ d ≤ 40000
/-- The first day that is found among all is one of the mark's own. -/
structure Best (n : Int) (ls : List Line) (mk best : Int) : Prop where
  none : best = 0 → ∀ d, Dq ls d → ¬ Agr (ptL n ⟨mk, d⟩ ls)
  some : best ≠ 0 → Dq ls best ∧ 1 ≤ best ∧ Agr (ptL n ⟨mk, best⟩ ls) ∧ ∀ d, Dq ls d → Agr (ptL n ⟨mk, d⟩ ls) → best ≤ d
theorem Best.own {mk best : Int} (hN : NetOk n ls) (h : Best n ls mk best) (hb : best ≠ 0) : Dy ls mk best := by
  obtain ⟨h1, h2, h3, h4⟩ := h.some hb
  obtain ⟨k, hk⟩ : ∃ k : Nat, best = 1 + k := ⟨(best - 1).toNat, by omega⟩
  obtain ⟨d, d1, d2, d3⟩ := day_least (ls := ls) (n := n) mk k (by have := h1.2; omega)
  rw [← hk] at d1 d3
  have := h4 d (d2.dq hN) (by rw [d3]; exact h3)
  have : d = best := by omega
  rw [← this]
  exact d2
theorem asc_mem_eq : ∀ {l m : List Mv}, l.Pairwise (fun a b => a.mark < b.mark) → m.Pairwise (fun a b => a.mark < b.mark) → (∀ x, x ∈ l ↔ x ∈ m) → l = m
  | [], [], _, _, _ => rfl
  | [], y :: m, _, _, h => by have := (h y).2 (List.mem_cons_self ..); cases this
  | x :: l, [], _, _, h => by have := (h x).1 (List.mem_cons_self ..); cases this
  | x :: l, y :: m, h1, h2, h => by
    rw [List.pairwise_cons] at h1 h2
    have e : x = y := by
      rcases List.mem_cons.1 ((h x).1 (List.mem_cons_self ..)) with e | e
      · exact e
      · rcases List.mem_cons.1 ((h y).2 (List.mem_cons_self ..)) with e2 | e2
        · exact e2.symm
        · have := h2.1 x e
          have := h1.1 y e2
          omega
    subst e
    refine congrArg _ (asc_mem_eq h1.2 h2.2 fun z => ⟨fun hz => ?_, fun hz => ?_⟩)
    · rcases List.mem_cons.1 ((h z).1 (List.mem_cons_of_mem _ hz)) with e | e
      · have := h1.1 z hz; rw [e] at this; omega
      · exact e
    · rcases List.mem_cons.1 ((h z).2 (List.mem_cons_of_mem _ hz)) with e | e
      · have := h2.1 z hz; rw [e] at this; omega
      · exact e
theorem asc_same {l : List Mv} (h : l.Pairwise (fun a b => a.mark < b.mark)) {x y : Mv} (hx : x ∈ l) (hy : y ∈ l) (e : x.mark = y.mark) : x = y := by
  induction l with
  | nil => cases hx
  | cons a l ih =>
    rw [List.pairwise_cons] at h
    rcases List.mem_cons.1 hx with e1 | hx2 <;> rcases List.mem_cons.1 hy with e2 | hy2
    · rw [e1, e2]
    · have := h.1 y hy2; rw [e1] at e; omega
    · have := h.1 x hx2; rw [e2] at e; omega
    · exact ih h.2 hx2 hy2
theorem MvOk.sub {la lb : List Mv} (hA : MvOk n ls n la) (hB : MvOk n ls n lb) {x : Mv} (hx : x ∈ la) : x ∈ lb := by
  obtain ⟨h1, h2, h3⟩ := hA.each x hx
  obtain ⟨y, hy, e1, e2⟩ := hB.all x.mark x.day h1.1 h1.2 h2 h3
  obtain ⟨g1, g2, g3⟩ := hB.each y hy
  obtain ⟨z, hz, e3, e4⟩ := hA.all y.mark y.day g1.1 g1.2 g2 g3
  obtain rfl := asc_same hA.asc hz hx (by omega)
  obtain ⟨a, b⟩ := z
  obtain ⟨c, d⟩ := y
  dsimp only at *
  obtain rfl : c = a := by omega
  obtain rfl : d = b := by omega
  exact hy
theorem MvOk.uniq {la lb : List Mv} (hA : MvOk n ls n la) (hB : MvOk n ls n lb) : la = lb := asc_mem_eq hA.asc hB.asc fun _ => ⟨hA.sub hB, hB.sub hA⟩
end Go.Nm
namespace Go.Proofs.Ytclhljenjphofaa
open Go Go.Nm
variable {ls : List Line} {n : Int}
theorem ref_parted (hn : 0 ≤ n ∧ n ≤ 12) (h2 : ls.length ≤ 30) (m : Mv) : (m_nilometerref01_parted n ls m).Ends (n + 1, ptL n m ls) := by
  have out : (m_nilometerref01_parted n ls m).Out (fun r => r = (n + 1, ptL n m ls)) := by
    unfold m_nilometerref01_parted
    refine M.o_grd (gA2 (by omega) (by omega)) (M.o_grdD (by simp only [List.length_nil]; omega) ?_)
    refine M.o_bind (P := fun y => y.2 = ptL n m ls) ?_ (fun y hy => M.o_pure (by rw [hy]))
    refine M.o_for ls.length (fun i st => st.2 = i ∧ Don (pt1 n m.mark m.day) ls i st.1) ?_ ?_ (s := (ls, 0)) ⟨rfl, Don.zero _ _⟩
    · rintro i ⟨l, s⟩ hi ⟨e, hD⟩
      dsimp only at hi hD e
      subst e
      simp only [m_nilometerref01_parted_b0]
      have g : ∀ x, (l.set s x).getD s default = x := fun x => by rw [gset _ _ _ _ _ (by rw [hD.len]; exact hi), if_pos rfl]
      simp only [g, List.set_set, hD.here hi]
      have hl := hD.len
      refine M.o_t (decide_eq_true (by omega)) (M.o_grdD (by omega) (M.o_if (fun h1 => ?_) (fun h1 => ?_)))
      · simp only [Bool.and_eq_true, decide_eq_true_eq, beq_iff_eq] at h1
        refine M.o_grdD (by simp only [List.length_set]; omega) (M.o_if (fun h2 => ?_) (fun h2 => ?_))
        · simp only [Bool.and_eq_true, decide_eq_true_eq, beq_iff_eq] at h2
          refine M.o_pure ⟨rfl, hD.set hi ?_⟩
          unfold pt1
          rw [if_neg (by omega), if_pos h1.2, if_pos h2.2]
        · have h2 : (ls.getD s default).dst ≠ m.mark := fun e => by rw [decide_eq_true h1.1, e] at h2; simp at h2
          refine M.o_pure ⟨rfl, hD.set hi ?_⟩
          unfold pt1
          rw [if_neg (by omega), if_pos h1.2, if_neg h2]
      · refine M.o_grdD (by omega) (M.o_if (fun h2 => ?_) (fun h2 => ?_))
        · simp only [Bool.and_eq_true, decide_eq_true_eq, beq_iff_eq] at h2
          have h1 : (ls.getD s default).src ≠ m.mark := fun e => by rw [decide_eq_true h2.1, e] at h1; simp at h1
          refine M.o_pure ⟨rfl, hD.set hi ?_⟩
          unfold pt1
          rw [if_neg (by omega), if_neg h1, if_pos h2.2]
        · refine M.o_pure ⟨rfl, hD.same hi ?_⟩
          unfold pt1
          by_cases c : m.day ≤ (ls.getD s default).day
          · have h1 : (ls.getD s default).src ≠ m.mark := fun e => by rw [decide_eq_true c, e] at h1; simp at h1
            have h2 : (ls.getD s default).dst ≠ m.mark := fun e => by rw [decide_eq_true c, e] at h2; simp at h2
            rw [if_neg (by omega), if_neg h1, if_neg h2]
          · rw [if_pos (by omega)]
    · rintro ⟨l, s⟩ ⟨e, hD⟩
      dsimp only at hD e
      subst e
      simp only [m_nilometerref01_parted_b0]
      exact M.o_f (decide_eq_false (by have := hD.len; omega)) (M.o_pure (hD.fin rfl))
  obtain ⟨r, h, rfl⟩ := out
  exact h
theorem best_out (hN : NetOk n ls) (hn : n < 12) {mk : Nat} (hm : (mk : Int) < n) : (M.iter (m_nilometerref01_Moves_b2 n ls mk) (0, -1)).Out (Best n ls mk) := by
  have hk := hN.marks
  have hfew := hN.few
  have tryD : ∀ (d : Int), (1 ≤ d ∧ d ≤ 40000) → ∃ r, (m_nilometerref01_agrees (n + 1) (ptL n ⟨mk, d⟩ ls)).Ends r ∧ (r = true ↔ Agr (ptL n ⟨mk, d⟩ ls)) := fun d hd => ref_agrees (ptL_ok hN hn ⟨by dsimp only; omega, hm⟩)
  refine M.o_for (ls.length + 1) (fun i st => st.2 = (i : Int) - 1 ∧ (st.1 = 0 → ∀ d, TrD ls i d → ¬ Agr (ptL n ⟨mk, d⟩ ls)) ∧ (st.1 ≠ 0 → TrD ls i st.1 ∧ (1 ≤ st.1 ∧ st.1 ≤ 40000) ∧ Agr (ptL n ⟨mk, st.1⟩ ls) ∧ ∀ d, TrD ls i d → Agr (ptL n ⟨mk, d⟩ ls) → st.1 ≤ d)) ?_ ?_ (s := (0, -1)) ⟨rfl, fun _ d hd => by rcases hd with h | ⟨j, h, _⟩ <;> omega, fun h => absurd rfl h⟩
  · rintro i ⟨best, x⟩ hi ⟨e, h0, h1⟩
    dsimp only at hi e h0 h1
    subst e
    simp only [m_nilometerref01_Moves_b2]
    have mono : ∀ d, TrD ls i d → TrD ls (i + 1) d := fun d hd => by
      rcases hd with ⟨h, hd⟩ | ⟨j, h, hd⟩
      · exact .inl ⟨by omega, hd⟩
      · exact .inr ⟨j, by omega, hd⟩
    -- one day more
    have step : ∀ (D : Int), (∀ d, TrD ls (i + 1) d → TrD ls i d ∨ (d = D ∧ D ≤ 40000)) → (D ≤ 40000 → TrD ls (i + 1) D) → 1 ≤ D → ∀ r : Bool, (r = true ↔ Agr (ptL n ⟨mk, D⟩ ls)) → D ≤ 40000 → (best = 0 ∨ D < best) →
        ((if r then D else best) = 0 → ∀ d, TrD ls (i + 1) d → ¬ Agr (ptL n ⟨mk, d⟩ ls)) ∧ ((if r then D else best) ≠ 0 → TrD ls (i + 1) (if r then D else best) ∧ (1 ≤ (if r then D else best) ∧ (if r then D else best) ≤ 40000) ∧ Agr (ptL n ⟨mk, (if r then D else best)⟩ ls) ∧ ∀ d, TrD ls (i + 1) d → Agr (ptL n ⟨mk, d⟩ ls) → (if r then D else best) ≤ d) := by
      intro D hD hD2 hD1 r hr hD3 hlt
      cases r with
      | true =>
        simp only [if_true]
        refine ⟨fun h => by omega, fun _ => ⟨hD2 hD3, ⟨hD1, hD3⟩, hr.1 rfl, fun d hd ha => ?_⟩⟩
        rcases hD d hd with h | ⟨rfl, _⟩
        · by_cases hb : best = 0
          · exact absurd ha (h0 hb d h)
          · have := (h1 hb).2.2.2 d h ha
            omega
        · exact Int.le_refl _
      | false =>
        have no : ¬ Agr (ptL n ⟨mk, D⟩ ls) := fun h => by have := hr.2 h; cases this
        simp only [Bool.false_eq_true, if_false]
        refine ⟨fun hb d hd ha => ?_, fun hb => ?_⟩
        · rcases hD d hd with h | ⟨rfl, _⟩
          · exact h0 hb d h ha
          · exact no ha
        · obtain ⟨a1, a2, a3, a4⟩ := h1 hb
          refine ⟨mono _ a1, a2, a3, fun d hd ha => ?_⟩
          rcases hD d hd with h | ⟨rfl, _⟩
          · exact a4 d h ha
          · exact absurd ha no
    have skip : ∀ (D : Int), (∀ d, TrD ls (i + 1) d → TrD ls i d ∨ (d = D ∧ D ≤ 40000)) → (40000 < D ∨ (best ≠ 0 ∧ best ≤ D)) →
        (best = 0 → ∀ d, TrD ls (i + 1) d → ¬ Agr (ptL n ⟨mk, d⟩ ls)) ∧ (best ≠ 0 → TrD ls (i + 1) best ∧ (1 ≤ best ∧ best ≤ 40000) ∧ Agr (ptL n ⟨mk, best⟩ ls) ∧ ∀ d, TrD ls (i + 1) d → Agr (ptL n ⟨mk, d⟩ ls) → best ≤ d) := by
      intro D hD hlt
      refine ⟨fun hb d hd ha => ?_, fun hb => ?_⟩
      · rcases hD d hd with h | ⟨rfl, h⟩
        · exact h0 hb d h ha
        · omega
      · obtain ⟨a1, a2, a3, a4⟩ := h1 hb
        refine ⟨mono _ a1, a2, a3, fun d hd ha => ?_⟩
        rcases hD d hd with h | ⟨rfl, h⟩
        · exact a4 d h ha
        · omega
    have nx : (i : Int) - 1 + 1 = ((i + 1 : Nat) : Int) - 1 := by omega
    refine M.o_t (decide_eq_true (by omega)) (M.o_if (fun c => ?_) (fun c => ?_))
    · have c := of_decide_eq_true c
      have ej : Int.toNat ((i : Int) - 1) = i - 1 := by omega
      have hj : i - 1 < ls.length := by omega
      rw [ej]
      have hd := hN.day (ls.getD (i - 1) default) (by rw [getD_el ls hj]; exact List.getElem_mem hj)
      generalize hD : (ls.getD (i - 1) default).day = dd at *
      have hTr : ∀ d, TrD ls (i + 1) d → TrD ls i d ∨ (d = dd + 1 ∧ dd + 1 ≤ 40000) := fun d h => by
        rcases h with ⟨_, h⟩ | ⟨j, h, h2, h3⟩
        · exact .inl (.inl ⟨by omega, h⟩)
        · by_cases e : j = i - 1
          · rw [e, hD] at h2; exact .inr ⟨h2, by omega⟩
          · exact .inl (.inr ⟨j, by omega, h2, h3⟩)
      refine M.o_grd (gA2 (by omega) (by omega)) (M.o_grd (gA2 (by omega) (by omega)) (M.o_if (fun c2 => ?_) (fun c2 => ?_)))
      · simp only [Bool.and_eq_true, decide_eq_true_eq, Bool.or_eq_true, beq_iff_eq] at c2
        obtain ⟨r, r1, r2⟩ := tryD (dd + 1) (by omega)
        have hs := step (dd + 1) hTr (fun h => .inr ⟨i - 1, by omega, by rw [hD], h⟩) (by omega) r r2 c2.1 c2.2
        have cc : ((decide ((dd + 1) ≤ 40000)) && ((best == 0) || (decide ((dd + 1) < best)))) = true := by
          simp only [Bool.and_eq_true, decide_eq_true_eq, Bool.or_eq_true, beq_iff_eq]
          exact c2
        rw [cc]
        refine M.o_bindE (ref_parted (by omega) hfew _) (M.o_bindE (M.i_opt (fun _ => r1) (fun h => by cases h)) ?_)
        cases r with
        | true => exact M.o_t rfl (M.o_grd (gA2 (by omega) (by omega)) (M.o_pure ⟨nx, hs⟩))
        | false => exact M.o_f rfl (M.o_grd (gA2 (by omega) (by omega)) (M.o_pure ⟨nx, hs⟩))
      · refine M.o_grd (gA2 (by omega) (by omega)) (M.o_pure ⟨nx, skip (dd + 1) hTr ?_⟩)
        by_cases e : dd + 1 ≤ 40000
        · rw [decide_eq_true e] at c2
          simp only [Bool.true_and, Bool.or_eq_false_iff, beq_eq_false_iff_ne, decide_eq_false_iff_not] at c2
          exact .inr ⟨c2.1, by omega⟩
        · exact .inl (by omega)
    · have c := of_decide_eq_false c
      obtain rfl : i = 0 := by omega
      have hTr : ∀ d, TrD ls (0 + 1) d → TrD ls 0 d ∨ (d = 1 ∧ (1 : Int) ≤ 40000) := fun d h => by
        rcases h with ⟨_, h⟩ | ⟨j, h, _⟩
        · exact .inr ⟨h, by decide⟩
        · omega
      have hb : best = 0 := Classical.byContradiction fun hb => by
        rcases (h1 hb).1 with ⟨h, _⟩ | ⟨j, h, _⟩ <;> omega
      subst hb
      obtain ⟨r, r1, r2⟩ := tryD 1 (by decide)
      have hs := step 1 hTr (fun _ => .inl ⟨by omega, rfl⟩) (by decide) r r2 (by decide) (.inl rfl)
      refine M.o_t rfl (M.o_bindE (ref_parted (by omega) hfew _) (M.o_bindE (M.i_opt (fun _ => r1) (fun h => by cases h)) ?_))
      cases r with
      | true => exact M.o_t rfl (M.o_grd (gA2 (by omega) (by omega)) (M.o_pure ⟨nx, hs⟩))
      | false => exact M.o_f rfl (M.o_grd (gA2 (by omega) (by omega)) (M.o_pure ⟨nx, hs⟩))
  · rintro ⟨best, x⟩ ⟨e, h0, h1⟩
    dsimp only at e h0 h1
    subst e
    have all : ∀ d, Dq ls d → TrD ls (ls.length + 1) d := fun d hd => by
      rcases hd.1 with h | ⟨l, hl, h⟩
      · exact .inl ⟨by omega, h⟩
      · obtain ⟨j, hj, rfl⟩ := mem_getD hl default
        exact .inr ⟨j, by omega, h, hd.2⟩
    have back : ∀ d, d ≤ 40000 → TrD ls (ls.length + 1) d → Dq ls d := fun d h4 hd => by
      rcases hd with ⟨_, h⟩ | ⟨j, h, h2, h3⟩
      · exact ⟨.inl h, h4⟩
      · have hj : j < ls.length := by omega
        exact ⟨.inr ⟨ls.getD j default, by rw [getD_el ls hj]; exact List.getElem_mem hj, h2⟩, h4⟩
    simp only [m_nilometerref01_Moves_b2]
    refine M.o_f (decide_eq_false (by omega)) (M.o_pure ⟨fun hb d hd => h0 hb d (all d hd), fun hb => ?_⟩)
    obtain ⟨a1, a2, a3, a4⟩ := h1 hb
    exact ⟨back _ a2.2 a1, a2.1, a3, fun d hd ha => a4 d (all d hd) ha⟩
theorem ref_moves (hN : NetOk n ls) : (m_nilometerref01_Moves n ls).Out (fun y => (Agr ls → y = ([], 8)) ∧ (¬ Agr ls → n = 12 → y = ([], 3)) ∧ (¬ Agr ls → n < 12 → y.2 = 0 ∧ MvOk n ls n y.1)) := by
  have hk := hN.marks
  have hfew := hN.few
  unfold m_nilometerref01_Moves
  refine M.o_bindE (ref_check n ls (by omega)) ?_
  rw [chk_ok.2 hN]
  refine M.o_f rfl (M.o_bind (ref_agrees hN) ?_)
  intro r hr
  cases r with
  | true =>
    have hA := hr.1 rfl
    exact M.o_t rfl (M.o_pure ⟨fun _ => rfl, fun h => absurd hA h, fun h => absurd hA h⟩)
  | false =>
    have hA : ¬ Agr ls := fun h => by have := hr.2 h; cases this
    refine M.o_f rfl (M.o_if (fun hb => ?_) (fun hb => ?_))
    · have hb := of_decide_eq_true hb
      exact M.o_pure ⟨fun h => absurd h hA, fun _ _ => rfl, fun _ h => by omega⟩
    · have hb := of_decide_eq_false hb
      refine M.o_bind (P := fun y => MvOk n ls n y.2) ?_ (fun y hy => M.o_pure ⟨fun h => absurd h hA, fun _ h => by omega, fun _ _ => ⟨rfl, hy⟩⟩)
      refine M.o_for (Int.toNat n) (fun i st => st.1 = i ∧ MvOk n ls i st.2) ?_ ?_ (s := (0, [])) ⟨rfl, ⟨by simp, by simp, .nil, fun mk d h1 h2 => by omega⟩⟩
      · rintro i ⟨s, l⟩ hi ⟨e, hJ⟩
        dsimp only at hi hJ e
        subst e
        simp only [m_nilometerref01_Moves_b3]
        have hlen := hJ.len
        refine M.o_t (decide_eq_true (by omega)) (M.o_bind (best_out hN (by omega) (mk := s) (by omega)) ?_)
        intro best hB
        refine M.o_if (fun c => ?_) (fun c => ?_)
        · have c := of_decide_eq_true c
          obtain ⟨b1, b2, b3, b4⟩ := hB.some (by omega)
          have own := hB.own hN (by omega)
          refine M.o_grdD (by simp only [List.length_cons, List.length_nil]; omega) (M.o_grd (gA2 (by omega) (by omega)) (M.o_pure ⟨rfl, ⟨by simp; omega, fun m hm => ?_, ?_, fun mk d h0 h1 hd hag => ?_⟩⟩))
          · rcases List.mem_append.1 hm with hm | hm
            · have := hJ.each m hm
              exact ⟨by omega, this.2⟩
            · obtain rfl : m = ⟨(s : Int), best⟩ := by simpa using hm
              exact ⟨⟨by dsimp only; omega, by dsimp only; omega⟩, own, b3⟩
          · rw [List.pairwise_append]
            refine ⟨hJ.asc, by simp, fun a ha b hb => ?_⟩
            obtain rfl : b = ⟨(s : Int), best⟩ := by simpa using hb
            exact (hJ.each a ha).1.2
          · by_cases e : mk = s
            · subst e
              exact ⟨_, List.mem_append_right _ (List.mem_cons_self ..), rfl, b4 d (hd.dq hN) hag⟩
            · obtain ⟨m, hm, h2⟩ := hJ.all mk d h0 (by omega) hd hag
              exact ⟨m, List.mem_append_left _ hm, h2⟩
        · have c := of_decide_eq_false c
          have hz : best = 0 := Classical.byContradiction fun h => by have := (hB.some h).2.1; omega
          refine M.o_grd (gA2 (by omega) (by omega)) (M.o_pure ⟨rfl, ⟨by dsimp only; omega, fun m hm => ?_, hJ.asc, fun mk d h0 h1 hd hag => ?_⟩⟩)
          · have := hJ.each m hm
            exact ⟨by omega, this.2⟩
          · by_cases e : mk = s
            · subst e
              exact absurd hag (hB.none hz d (hd.dq hN))
            · exact hJ.all mk d h0 (by omega) hd hag
      · rintro ⟨s, l⟩ ⟨e, hJ⟩
        dsimp only at hJ e
        subst e
        rw [Int.toNat_of_nonneg (by omega)] at hJ
        simp only [m_nilometerref01_Moves_b3]
        exact M.o_f (decide_eq_false (by omega)) (M.o_pure hJ)
/-- Both find the same. -/
theorem moves_both (hl : ls.length ≤ 1000000) : ∃ l e, (m_level_Moves n ls).Ends (l, e) ∧ (m_nilometerref01_Moves n ls).Ends (l, e) := by
  by_cases h : chkE n ls = 0
  · have hN := chk_ok.1 h
    have hk := hN.marks
    obtain ⟨⟨la, ea⟩, p1, a1, a2, a3⟩ := moves_out hN
    obtain ⟨⟨lb, eb⟩, p2, b1, b2, b3⟩ := ref_moves hN
    refine ⟨la, ea, p1, ?_⟩
    have : (la, ea) = (lb, eb) := by
      by_cases hA : Agr ls
      · rw [a1 hA, b1 hA]
      · by_cases h12 : n = 12
        · rw [a2 hA h12, b2 hA h12]
        · obtain ⟨q1, q2⟩ := a3 hA (by omega)
          obtain ⟨q3, q4⟩ := b3 hA (by omega)
          dsimp only at q1 q2 q3 q4
          rw [q1, q3, q2.uniq q4]
    rw [this]
    exact p2
  · refine ⟨[], chkE n ls, ?_, ?_⟩
    · unfold m_level_Moves
      exact M.i_bind (opened_bad h) (M.i_t (by rw [bne_iff_ne]; exact h) M.i_pure)
    · unfold m_nilometerref01_Moves
      exact M.i_bind (ref_check n ls hl) (M.i_t (by rw [bne_iff_ne]; exact h) M.i_pure)
theorem convict_both (hl : ls.length ≤ 1000000) : ∃ y, (m_level_Convict n ls).Ends y ∧ (m_nilometerref01_Convict n ls).Ends y := by
  obtain ⟨l, e, h1, h2⟩ := moves_both (n := n) hl
  by_cases he : e = 0
  · subst he
    unfold m_level_Convict m_nilometerref01_Convict
    cases l with
    | nil => exact ⟨_, M.i_bind h1 (M.i_f rfl (M.i_t rfl M.i_pure)), M.i_bind h2 (M.i_f rfl (M.i_t rfl M.i_pure))⟩
    | cons a l =>
      by_cases hb : 1 < (((a :: l).length : Nat) : Int)
      · have z : ((((a :: l).length : Nat) : Int) == 0) = false := by simp; omega
        exact ⟨_, M.i_bind h1 (M.i_f rfl (M.i_f z (M.i_t (decide_eq_true hb) M.i_pure))), M.i_bind h2 (M.i_f rfl (M.i_f z (M.i_t (decide_eq_true hb) M.i_pure)))⟩
      · have z : ((((a :: l).length : Nat) : Int) == 0) = false := by simp; omega
        exact ⟨_, M.i_bind h1 (M.i_f rfl (M.i_f z (M.i_f (decide_eq_false hb) (M.i_grd (by simp) M.i_pure)))), M.i_bind h2 (M.i_f rfl (M.i_f z (M.i_f (decide_eq_false hb) (M.i_grd (by simp) M.i_pure))))⟩
  · unfold m_level_Convict m_nilometerref01_Convict
    exact ⟨_, M.i_bind h1 (M.i_t (by rw [bne_iff_ne]; exact he) M.i_pure), M.i_bind h2 (M.i_t (by rw [bne_iff_ne]; exact he) M.i_pure)⟩
theorem part_both (hl : ls.length ≤ 1000000) (m : Mv) : ∃ k ks e, (m_level_Part n ls m).Ends (k, ks, e) ∧ (m_nilometerref01_Part n ls m).Ends (k, ks, e) ∧ ks.length ≤ 1000000 := by
  have out : ∀ x lo hi, (m_nilometerref01_outside x lo hi).Ends (!(decide (lo ≤ x) && decide (x ≤ hi))) := fun x lo hi => by
    unfold m_nilometerref01_outside
    have e : (decide (x < lo) || decide (hi < x)) = !(decide (lo ≤ x) && decide (x ≤ hi)) := by
      by_cases h1 : lo ≤ x <;> by_cases h2 : x ≤ hi <;> simp [h1, h2] <;> omega
    rw [← e]
    exact M.i_pure
  unfold m_level_Part m_nilometerref01_Part
  by_cases h : chkE n ls = 0
  · have hN := chk_ok.1 h
    have hk := hN.marks
    have hfew := hN.few
    have c1 : (chkE n ls != 0) = false := by rw [h]; rfl
    by_cases g1 : (decide (0 ≤ m.mark) && decide (m.mark ≤ n - 1)) = true
    · by_cases g2 : (decide (1 ≤ m.day) && decide (m.day ≤ 40000)) = true
      · by_cases g3 : n = 12
        · refine ⟨0, [], 3, M.i_bind (check_ends n ls) (M.i_f c1 (M.i_grd (gA2 (by omega) (by omega)) (M.i_bind (in_ends _ _ _) (M.i_f (by rw [g1]; rfl) (M.i_bind (in_ends _ _ _) (M.i_f (by rw [g2]; rfl) (M.i_t (by rw [beq_iff_eq]; exact g3) M.i_pure))))))), M.i_bind (ref_check n ls hl) (M.i_f c1 (M.i_grd (gA2 (by omega) (by omega)) (M.i_bind (out _ _ _) (M.i_f (by rw [g1]; rfl) (M.i_bind (out _ _ _) (M.i_f (by rw [g2]; rfl) (M.i_t (decide_eq_true (by omega)) M.i_pure))))))), by simp⟩
        · refine ⟨n + 1, ptL n m ls, 0, M.i_bind (check_ends n ls) (M.i_f c1 (M.i_grd (gA2 (by omega) (by omega)) (M.i_bind (in_ends _ _ _) (M.i_f (by rw [g1]; rfl) (M.i_bind (in_ends _ _ _) (M.i_f (by rw [g2]; rfl) (M.i_f (by rw [beq_eq_false_iff_ne]; exact g3) (M.i_bind (parted_any (by omega) hfew m) M.i_pure)))))))), M.i_bind (ref_check n ls hl) (M.i_f c1 (M.i_grd (gA2 (by omega) (by omega)) (M.i_bind (out _ _ _) (M.i_f (by rw [g1]; rfl) (M.i_bind (out _ _ _) (M.i_f (by rw [g2]; rfl) (M.i_f (decide_eq_false (by omega)) (M.i_bind (ref_parted (by omega) hfew m) M.i_pure)))))))), by unfold ptL; rw [List.length_map]; exact hl⟩
      · have g2 : (decide (1 ≤ m.day) && decide (m.day ≤ 40000)) = false := by simpa using g2
        refine ⟨0, [], 4, M.i_bind (check_ends n ls) (M.i_f c1 (M.i_grd (gA2 (by omega) (by omega)) (M.i_bind (in_ends _ _ _) (M.i_f (by rw [g1]; rfl) (M.i_bind (in_ends _ _ _) (M.i_t (by rw [g2]; rfl) M.i_pure)))))), M.i_bind (ref_check n ls hl) (M.i_f c1 (M.i_grd (gA2 (by omega) (by omega)) (M.i_bind (out _ _ _) (M.i_f (by rw [g1]; rfl) (M.i_bind (out _ _ _) (M.i_t (by rw [g2]; rfl) M.i_pure)))))), by simp⟩
    · have g1 : (decide (0 ≤ m.mark) && decide (m.mark ≤ n - 1)) = false := by simpa using g1
      refine ⟨0, [], 2, M.i_bind (check_ends n ls) (M.i_f c1 (M.i_grd (gA2 (by omega) (by omega)) (M.i_bind (in_ends _ _ _) (M.i_t (by rw [g1]; rfl) M.i_pure)))), M.i_bind (ref_check n ls hl) (M.i_f c1 (M.i_grd (gA2 (by omega) (by omega)) (M.i_bind (out _ _ _) (M.i_t (by rw [g1]; rfl) M.i_pure)))), by simp⟩
  · have c1 : (chkE n ls != 0) = true := by rw [bne_iff_ne]; exact h
    exact ⟨0, [], chkE n ls, M.i_bind (check_ends n ls) (M.i_t c1 M.i_pure), M.i_bind (ref_check n ls hl) (M.i_t c1 M.i_pure), by simp⟩
theorem plain_ends (n : Int) (h : ls.length ≤ 1000000) : (m_nilometerlaw01_plain n ls).Ends (n, ls) := by
  have out : (m_nilometerlaw01_plain n ls).Out (fun r => r = (n, ls)) := by
    unfold m_nilometerlaw01_plain
    refine M.o_bind (P := fun y => y.2 = ls) ?_ (fun y hy => M.o_pure (by rw [hy]))
    refine M.o_for ls.length (fun i st => st.1 = i ∧ st.2 = ls.take i) ?_ ?_ (s := (0, [])) ⟨rfl, by simp⟩
    · rintro i ⟨s, l⟩ hi ⟨e1, e2⟩
      dsimp only at hi e1 e2
      subst e1
      subst e2
      simp only [m_nilometerlaw01_plain_b0]
      refine M.o_t (by simpa using hi) (M.o_grd (by simpa using hi) (M.o_grdD (by simp [List.length_take]; omega) (M.o_pure ⟨rfl, ?_⟩)))
      dsimp only
      rw [take_succ_D ls s hi default]
    · rintro ⟨s, l⟩ ⟨e1, e2⟩
      dsimp only at e1 e2
      subst e1
      subst e2
      simp only [m_nilometerlaw01_plain_b0]
      exact M.o_f (by simp) (M.o_pure (List.take_length ..))
  obtain ⟨r, h, rfl⟩ := out
  exact h
theorem levelMoves_ends (n : Int) (ls : List Line) (m : Mv) : (m_nilometerlaw01_LevelMoves n ls m).Ends true := by
  unfold m_nilometerlaw01_LevelMoves
  refine M.i_if (fun _ => M.i_bind awake_ends M.i_pure) (fun hb => ?_)
  have hb := of_decide_eq_false hb
  have hl : ls.length ≤ 1000000 := by omega
  obtain ⟨k, ks, e, p1, p2, p3⟩ := part_both (n := n) hl m
  obtain ⟨l, f, q1, q2⟩ := moves_both (n := n) hl
  obtain ⟨⟨y1, y2⟩, z1, z2⟩ := convict_both (n := n) hl
  refine M.i_bind (copy_net hl n) (M.i_bind p1 (M.i_bind (net_ends n hl) (M.i_bind p2 (M.i_bind (plain_ends k p3) (M.i_bind (same_net k ks) (M.i_f (by simp) ?_))))))
  refine M.i_bind q1 (M.i_bind (net_ends n hl) (M.i_bind q2 (M.i_f (by simp) ?_)))
  have lp : (M.iter (m_nilometerlaw01_LevelMoves_b0 l l) 0).Out (fun y => y = .inr ()) := by
    refine M.o_for l.length (fun i st => st = i) ?_ ?_ rfl
    · rintro i s hi rfl
      simp only [m_nilometerlaw01_LevelMoves_b0]
      exact M.o_t (by simpa using hi) (M.o_grd (by simpa using hi) (M.o_grd (by simpa using hi) (M.o_f (by simp) (M.o_pure rfl))))
    · rintro s rfl
      simp only [m_nilometerlaw01_LevelMoves_b0]
      exact M.o_f (by simp) (M.o_pure rfl)
  obtain ⟨u, h, rfl⟩ := lp
  refine M.i_bind h (M.i_bind z1 (M.i_bind (net_ends n hl) (M.i_bind z2 ?_)))
  simp only [beq_self_eq_true, Bool.and_self]
  exact M.i_bind (M.i_opt (fun _ => same_net n ls) (fun h => by cases h)) (M.i_bind (M.i_opt (fun _ => awake_ends) (fun h => by cases h)) M.i_pure)
end Go.Proofs.Ytclhljenjphofaa
