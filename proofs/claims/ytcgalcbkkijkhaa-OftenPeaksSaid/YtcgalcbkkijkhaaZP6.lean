/- Part 6 of the texts on which the proof rests. Conditions: none. -/
import Derived.Test.YtcgalcbkkijkhaaZP5
set_option linter.unusedVariables false
set_option linter.unusedSimpArgs false
set_option linter.unusedSectionVars false
namespace Go.Proofs.Ytcgalcbkkijkhaa
open Go Go.Nm
variable {l : List Pk} {A T : Int}
theorem sf_bound (h : Pk.Asked l A T) : ∀ i : Nat, i ≤ l.length → 0 ≤ Pk.Sf (Pk.kk l A) (vP l T) i ∧ Pk.Sf (Pk.kk l A) (vP l T) i ≤ 2000 * (i : Int) := by
  have F := Pk.fl h.ok.up h.ap.1
  have hS := Pk.sf_is F (vP l T)
  intro i
  induction i using Nat.strongRecOn with
  | _ i ih =>
    intro hi
    cases i with
    | zero => rw [hS.z]; simp
    | succ i =>
      have h1 := ih i (by omega) (by omega)
      have h2 := F.kle i
      have h3 := ih (Pk.kk l A i) (by omega) (by omega)
      have h4 := h.ok.st i hi
      have ht := h.th
      rw [hS.s i hi]
      have hv : vP l T i = Pk.stAt l i - T := rfl
      omega
theorem best_ends (l : List Pk) (A T : Int) : (m_nilometerref10_Best l A T).Out (fun y => (Pk.askP l A T ≠ 0 → y = (0, Pk.askP l A T)) ∧ (Pk.askP l A T = 0 → y = (mxP l A T, 0))) := by
  unfold m_nilometerref10_Best
  refine M.o_bindE (ref_asked l A T) ?_
  by_cases h0 : Pk.askP l A T = 0
  · have h := Pk.ask_ok h0
    have hf := h.ok.few
    have hT := h.th
    have hA := h.ap
    have F := Pk.fl h.ok.up h.ap.1
    have hS := Pk.sf_is F (vP l T)
    rw [h0]
    refine M.o_f rfl (M.o_grd (gA2 (by omega) (by omega)) (M.o_grd (gA3 (by omega) (by omega) (by omega)) (M.o_bind (P := fun y => y.2.length = l.length + 1 ∧ y.2.getD l.length 0 = mxP l A T) ?_ ?_)))
    · refine M.o_for l.length (fun i (s : List Int × Nat) => s.2 = i ∧ s.1.length = l.length + 1 ∧ ∀ k : Nat, k ≤ i → s.1.getD k 0 = Pk.Sf (Pk.kk l A) (vP l T) k) ?_ ?_ ⟨rfl, by simp, fun k hk => ?_⟩
      · rintro i ⟨b, s⟩ hi ⟨e1, hl, hb⟩
        dsimp only at e1 hl hb
        subst e1
        simp only [m_nilometerref10_Best_b2]
        have hday := h.ok.day s hi
        have hst := h.ok.st s hi
        have hv : vP l T s = (l.getD s default).stage - T := rfl
        refine M.o_t (decide_eq_true (by omega)) (M.o_bind (P := fun y => y = (Pk.kk l A s : Int)) ?_ ?_)
        · refine M.o_iter (fun m (k : Int) => ∃ j : Nat, k = j ∧ j ≤ s ∧ m = j ∧ ∀ q, j ≤ q → q < s → Pk.dayAt l s - Pk.dayAt l q < A) ?_ _ _ ⟨s, rfl, Nat.le_refl _, rfl, fun q h1 h2 => by omega⟩
          rintro m k ⟨j, rfl, hj, hm, hq⟩
          simp only [m_nilometerref10_Best_b1]
          have hdj : 0 < j → 0 ≤ (l.getD (Int.toNat ((j : Int) - 1)) default).day ∧ (l.getD (Int.toNat ((j : Int) - 1)) default).day ≤ 4000 := fun h1 => h.ok.day _ (by omega)
          unfold Pk.dayAt at hday
          refine M.o_grd (gI fun _ => by omega) (M.o_grd (gI2 fun hb => by have := of_decide_eq_true hb; omega) (M.o_grd (gI2 fun hb => by have := of_decide_eq_true hb; omega) (M.o_grd (gI2 fun hb => by have := of_decide_eq_true hb; have := hdj (by omega); omega) (M.o_if (fun hc => ?_) (fun hc => ?_)))))
          · rw [Bool.and_eq_true, decide_eq_true_eq, decide_eq_true_eq] at hc
            refine M.o_grd (gA2 (by omega) (by omega)) (M.o_pure ⟨j - 1, by omega, j - 1, by omega, by omega, rfl, fun q h1 h2 => ?_⟩)
            rcases Nat.lt_or_eq_of_le h1 with e | e
            · exact hq q (by omega) h2
            · have e5 : Int.toNat ((j : Int) - 1) = q := by omega
              rw [e5] at hc
              exact hc.2
          · rw [Bool.and_eq_false_iff, decide_eq_false_iff_not, decide_eq_false_iff_not] at hc
            refine M.o_pure ?_
            show (j : Int) = (Pk.kk l A s : Int)
            unfold Pk.kk
            rw [if_pos hi]
            have e : Pk.fst l (Pk.dayAt l s - A + 1) = j := by
              refine Pk.fst_eq h.ok.up (by omega) (fun q hq' => ?_) (fun hjl => ?_)
              · have h1 : A ≤ Pk.dayAt l s - Pk.dayAt l (j - 1) := by
                  have e5 : Int.toNat ((j : Int) - 1) = j - 1 := by omega
                  rw [e5] at hc
                  show A ≤ (l.getD s default).day - (l.getD (j - 1) default).day
                  omega
                have h2 := h.ok.up.le (show q ≤ j - 1 by omega) (by omega)
                omega
              · rcases Nat.lt_or_eq_of_le hj with e | e
                · have := hq j (Nat.le_refl _) e
                  omega
                · subst e; omega
            rw [e]
        · rintro k2 rfl
          have hk := F.kle s
          have b1 := sf_bound h s (by omega)
          have b2 := sf_bound h (Pk.kk l A s) (by omega)
          have g1 := hb s (Nat.le_refl _)
          have g2 := hb _ hk
          unfold Pk.stAt at hst
          rw [Int.toNat_natCast, g2, show Int.toNat ((s : Int) + 1) = s + 1 by omega]
          refine M.o_grdD (by omega) (M.o_grdD (by omega) (M.o_grd (gA2 (by omega) (by omega)) (M.o_grd (gA2 (by omega) (by omega)) (M.o_grd (gA2 (by omega) (by omega)) (M.o_grd (gA2 (by omega) (by omega)) (M.o_pure ⟨rfl, by simpa using hl, fun k hk' => ?_⟩))))))
          dsimp only
          rw [gset _ _ _ _ _ (by omega)]
          split
          · rename_i e
            subst e
            rw [hS.s s hi, g1]
            omega
          · exact hb k (by omega)
      · rintro ⟨b, s⟩ ⟨e1, hl, hb⟩
        dsimp only at e1 hl hb
        subst e1
        simp only [m_nilometerref10_Best_b2]
        exact M.o_f (by simp) (M.o_pure ⟨hl, hb _ (Nat.le_refl _)⟩)
      · obtain rfl : k = 0 := by omega
        rw [hS.z]
        dsimp only
        rw [List.getD_eq_getElem?_getD, List.getElem?_replicate]
        split <;> rfl
    · rintro ⟨b', b⟩ ⟨h1, h2⟩
      dsimp only at h1 h2 ⊢
      exact M.o_grd (gA2 (by omega) (by omega)) (M.o_pure ⟨fun h => absurd rfl h, fun _ => by rw [h2]⟩)
  · exact M.o_t (bne_iff_ne.2 h0) (M.o_pure ⟨fun _ => rfl, fun h => absurd h h0⟩)
/-- Dues that prove something. -/
def Prv (l : List Pk) (A T : Int) (d : List Int) : Prop := ∀ i, i < l.length → vP l T i ≤ Pk.sm (fun k => d.getD k 0) i (Pk.nx l A i - i)
def DuR (d : List Int) : Prop := ∀ i, i < d.length → 0 ≤ d.getD i 0 ∧ d.getD i 0 ≤ 2000
structure PrE (l : List Pk) (A T w : Int) (d : List Int) (y : Bool × Int) : Prop where
  ask : Pk.askP l A T ≠ 0 → y = (false, Pk.askP l A T)
  len : Pk.askP l A T = 0 → d.length ≠ l.length → y = (false, 2)
  rng : Pk.askP l A T = 0 → d.length = l.length → ¬ DuR d → y = (false, 4)
  ok : Pk.askP l A T = 0 → d.length = l.length → DuR d → y.2 = 0 ∧ (y.1 = true ↔ Prv l A T d ∧ Pk.sm (fun k => d.getD k 0) 0 l.length ≤ w)
theorem PrE.uniq {w : Int} {d : List Int} {y y' : Bool × Int} (h : PrE l A T w d y) (h' : PrE l A T w d y') : y = y' := by
  by_cases h0 : Pk.askP l A T = 0
  · by_cases h1 : d.length = l.length
    · by_cases h2 : DuR d
      · obtain ⟨a1, a2⟩ := h.ok h0 h1 h2
        obtain ⟨b1, b2⟩ := h'.ok h0 h1 h2
        have e : y.1 = y'.1 := by
          cases c1 : y.1 <;> cases c2 : y'.1
          · rfl
          · rw [c1] at a2; rw [c2] at b2
            exact a2.2 (b2.1 rfl)
          · rw [c1] at a2; rw [c2] at b2
            exact (b2.2 (a2.1 rfl)).symm
          · rfl
        exact Prod.ext e (by rw [a1, b1])
      · rw [h.rng h0 h1 h2, h'.rng h0 h1 h2]
    · rw [h.len h0 h1, h'.len h0 h1]
  · rw [h.ask h0, h'.ask h0]
theorem index_int {s : List Int} {f : Int → M Bool} {q : Int → Bool} (hl : s.length ≤ 1000000) (h : ∀ x, x ∈ s → (f x).Ends (q x)) : ∃ r, (m_slices_IndexFunc_int s f).Ends r ∧ decide (0 ≤ r) = s.any q := by
  have out : (m_slices_IndexFunc_int s f).Out (fun r => decide (0 ≤ r) = s.any q) := by
    unfold m_slices_IndexFunc_int
    refine M.o_bind (P := fun y => match y with | .inl r => decide (0 ≤ r) = s.any q | .inr (_ : Unit) => s.any q = false) ?_ ?_
    · refine M.o_for s.length (fun i (k : Nat) => k = i ∧ (s.take i).any q = false) ?_ ?_ ⟨rfl, by simp⟩
      · rintro i k hi ⟨rfl, hJ⟩
        simp only [m_slices_IndexFunc_int_b0]
        have hm : s.getD k 0 ∈ s := by rw [getD_el s hi]; exact List.getElem_mem hi
        refine M.o_t (decide_eq_true (by omega)) (M.o_grdD (by omega) (M.o_bindE (h _ hm) (M.o_if (fun hb => ?_) (fun hb => ?_))))
        · refine M.o_pure ?_
          dsimp only
          rw [show s.any q = true from List.any_eq_true.2 ⟨_, hm, hb⟩]
          exact decide_eq_true (by omega)
        · refine M.o_pure ⟨rfl, ?_⟩
          rw [← take_succ_D s k hi 0, List.any_append, hJ]
          simp only [List.any_cons, List.any_nil, Bool.or_false, Bool.false_or]
          exact hb
      · rintro k ⟨rfl, hJ⟩
        simp only [m_slices_IndexFunc_int_b0]
        rw [List.take_length] at hJ
        exact M.o_f (by simp) (M.o_pure hJ)
    · intro y hy
      cases y with
      | inl r => exact M.o_pure hy
      | inr u => exact M.o_pure (by show decide ((0 : Int) ≤ -1) = s.any q; rw [show s.any q = false from hy]; rfl)
  exact out
theorem every_int {s : List Int} {so : Int → M Bool} {p : Int → Bool} (hl : s.length ≤ 1000000) (h : ∀ x, x ∈ s → (so x).Ends (p x)) : (m_often_every_int s so).Ends (s.all p) := by
  unfold m_often_every_int m_slices_ContainsFunc_int
  obtain ⟨r, h1, h2⟩ := index_int (s := s) (f := fun x => m_often_every_int__1 x so) (q := fun x => !(p x)) hl (fun x hx => by unfold m_often_every_int__1; exact M.i_bind (h x hx) M.i_pure)
  refine M.i_bind (M.i_bind h1 M.i_pure) ?_
  rw [h2, List.any_eq_not_all_not]
  simp only [Bool.not_not]
  exact M.i_pure
theorem dur_all {d : List Int} : (d.all fun n => decide (0 ≤ n) && decide (n ≤ 2000)) = true ↔ DuR d := by
  rw [List.all_eq_true]
  constructor
  · intro h i hi
    have := h (d.getD i 0) (by rw [getD_el d hi]; exact List.getElem_mem hi)
    rwa [Bool.and_eq_true, decide_eq_true_eq, decide_eq_true_eq] at this
  · intro h x hx
    obtain ⟨i, hi, rfl⟩ := mem_getD hx 0
    have := h i hi
    exact gA2 this.1 this.2
theorem dur_out {d : List Int} (h : DuR d) (i : Nat) : 0 ≤ d.getD i 0 ∧ d.getD i 0 ≤ 2000 := by
  by_cases hi : i < d.length
  · exact h i hi
  · rw [List.getD_eq_getElem?_getD, List.getElem?_eq_none (by omega)]
    exact ⟨Int.le_refl _, by show (0 : Int) ≤ 2000; decide⟩
theorem proves_out (l : List Pk) (A T w : Int) (d : List Int) (hd45 : d.length ≤ 1000000) : (m_often_Proves l A T w d).Out (PrE l A T w d) := by
  unfold m_often_Proves
  refine M.o_bindE (asked_ends l A T) ?_
  by_cases h0 : Pk.askP l A T = 0
  · have h := Pk.ask_ok h0
    have hf := h.ok.few
    have hT := h.th
    have F := Pk.fl h.ok.up h.ap.1
    rw [h0]
    refine M.o_f rfl (M.o_if (fun hl => ?_) (fun hl => ?_))
    · have hl : d.length ≠ l.length := fun e => by rw [e] at hl; simp at hl
      exact M.o_pure ⟨fun h => absurd h0 h, fun _ _ => rfl, fun _ h => absurd h hl, fun _ h => absurd h hl⟩
    · have hl : d.length = l.length := by have : (d.length : Int) = l.length := by simpa using hl
                                          omega
      refine M.o_bindE (every_int (p := fun n => decide (0 ≤ n) && decide (n ≤ 2000)) hd45 (fun x _ => by unfold m_often_Proves_1; exact M.i_bind (in_ends _ _ _) M.i_pure)) ?_
      by_cases hR : DuR d
      · rw [dur_all.2 hR]
        have hb := dur_out hR
        refine M.o_f rfl (M.o_bind (P := fun y => match y with | .inl (_ : Unit) => ¬ Prv l A T d | .inr q => Prv l A T d ∧ q = Pk.sm (fun k => d.getD k 0) 0 l.length) ?_ ?_)
        · refine M.o_for l.length (fun i (s : Int × Nat) => s.2 = i ∧ s.1 = Pk.sm (fun k => d.getD k 0) 0 i ∧ ∀ k, k < i → vP l T k ≤ Pk.sm (fun k => d.getD k 0) k (Pk.nx l A k - k)) ?_ ?_ ⟨rfl, rfl, fun k hk => by omega⟩
          · rintro i ⟨q, s⟩ hi ⟨e1, e2, hJ⟩
            dsimp only at e1 e2
            subst e1
            subst e2
            simp only [m_often_Proves_b2]
            have l1 := F.lt s hi
            have l2 := F.le s hi
            have k1 := hb s
            have k2 := sm_small hb 0 s
            have hst := h.ok.st s hi
            unfold Pk.stAt at hst
            have hv : vP l T s = (l.getD s default).stage - T := rfl
            refine M.o_t (decide_eq_true (by omega)) (M.o_grdD (by omega) (M.o_grdD (by omega) (M.o_grd (gA2 (by omega) (by omega)) (M.o_bindE (window_ends h hi) (M.o_grd (gA3 (by omega) (by omega) (by omega)) (M.o_bind (P := fun z => z = Pk.sm (fun k => d.getD k 0) s (Pk.nx l A s - s)) ?_ ?_))))))
            · have hlen : ((d.take (Int.toNat (Pk.nx l A s : Int))).drop s).length = Pk.nx l A s - s := by rw [List.length_drop, List.length_take]; omega
              refine M.o_for (Pk.nx l A s - s) (fun j (z : Int × Nat) => z.2 = j ∧ z.1 = Pk.sm (fun k => d.getD k 0) s j) ?_ ?_ ⟨rfl, rfl⟩
              · rintro j ⟨z, t⟩ hj ⟨e1, e2⟩
                dsimp only at e1 e2
                subst e1
                subst e2
                simp only [m_often_Proves_b1]
                have hget : ((d.take (Int.toNat (Pk.nx l A s : Int))).drop s).getD t 0 = d.getD (s + t) 0 := getD_part d (by omega)
                have k3 := hb (s + t)
                have k4 := sm_small hb s t
                refine M.o_t (decide_eq_true (by omega)) (M.o_grdD (by omega) (M.o_grd (gA2 (by omega) (by omega)) (M.o_pure ⟨rfl, ?_⟩)))
                show _ = Pk.sm (fun k => d.getD k 0) s t + d.getD (s + t) 0
                dsimp only
                omega
              · rintro ⟨z, t⟩ ⟨e1, e2⟩
                dsimp only at e1 e2
                subst e1
                simp only [m_often_Proves_b1]
                exact M.o_f (decide_eq_false (by omega)) (M.o_pure e2)
            · rintro z rfl
              refine M.o_grd (gA2 (by omega) (by omega)) (M.o_if (fun hc => ?_) (fun hc => ?_))
              · have hc := of_decide_eq_true hc
                refine M.o_pure fun hP => ?_
                have := hP s hi
                omega
              · have hc := of_decide_eq_false hc
                refine M.o_pure ⟨rfl, ?_, fun k hk => ?_⟩
                · show _ = Pk.sm (fun k => d.getD k 0) 0 s + d.getD (0 + s) 0
                  rw [Nat.zero_add]
                · rcases Nat.lt_or_eq_of_le (Nat.le_of_lt_succ hk) with e | e
                  · exact hJ k e
                  · subst e; omega
          · rintro ⟨q, s⟩ ⟨e1, e2, hJ⟩
            dsimp only at e1 e2
            subst e1
            simp only [m_often_Proves_b2]
            exact M.o_f (by simp) (M.o_pure ⟨hJ, e2⟩)
        · intro y hy
          cases y with
          | inl u => exact M.o_pure ⟨fun h => absurd h0 h, fun _ h => absurd hl h, fun _ _ h => absurd hR h, fun _ _ _ => ⟨rfl, ⟨fun h => Bool.noConfusion h, fun h => absurd h.1 hy⟩⟩⟩
          | inr q =>
            obtain ⟨hP, rfl⟩ := hy
            exact M.o_pure ⟨fun h => absurd h0 h, fun _ h => absurd hl h, fun _ _ h => absurd hR h, fun _ _ _ => ⟨rfl, ⟨fun h => ⟨hP, of_decide_eq_true h⟩, fun h => decide_eq_true h.2⟩⟩⟩
      · have : (d.all fun n => decide (0 ≤ n) && decide (n ≤ 2000)) = false := by
          rw [← Bool.not_eq_true]
          exact fun h => hR (dur_all.1 h)
        rw [this]
        exact M.o_t rfl (M.o_pure ⟨fun h => absurd h0 h, fun _ h => absurd hl h, fun _ _ _ => rfl, fun _ _ h => absurd h hR⟩)
  · exact M.o_t (bne_iff_ne.2 h0) (M.o_pure ⟨fun _ => rfl, fun h => absurd h h0, fun h => absurd h h0, fun h => absurd h h0⟩)
end Go.Proofs.Ytcgalcbkkijkhaa
namespace Go.Proofs.Ytcgalcbkkijkhaa
open Go Go.Nm
variable {l : List Pk} {A T : Int}
theorem ref_proves (l : List Pk) (A T w : Int) (d : List Int) (hd45 : d.length ≤ 1000000) : (m_nilometerref10_Proves l A T w d).Out (PrE l A T w d) := by
  unfold m_nilometerref10_Proves
  refine M.o_bindE (ref_asked l A T) ?_
  by_cases h0 : Pk.askP l A T = 0
  · have h := Pk.ask_ok h0
    have hf := h.ok.few
    have hT := h.th
    have hA := h.ap
    have F := Pk.fl h.ok.up h.ap.1
    rw [h0]
    refine M.o_f rfl (M.o_if (fun hl => ?_) (fun hl => ?_))
    · have hl : d.length ≠ l.length := fun e => by rw [e] at hl; simp at hl
      exact M.o_pure ⟨fun h => absurd h0 h, fun _ _ => rfl, fun _ h => absurd h hl, fun _ h => absurd h hl⟩
    · have hl : d.length = l.length := by have : (d.length : Int) = l.length := by simpa using hl
                                          omega
      refine M.o_bind (P := fun y => match y with | .inl (_ : Unit) => ¬ DuR d | .inr q => DuR d ∧ q = Pk.sm (fun k => d.getD k 0) 0 l.length) ?_ ?_
      · refine M.o_for d.length (fun i (s : Int × Nat) => s.2 = i ∧ s.1 = Pk.sm (fun k => d.getD k 0) 0 i ∧ (∀ k, k < i → 0 ≤ d.getD k 0 ∧ d.getD k 0 ≤ 2000) ∧ 0 ≤ s.1 ∧ s.1 ≤ 2000 * (i : Int)) ?_ ?_ ⟨rfl, rfl, fun k hk => by omega, by simp⟩
        · rintro i ⟨q, s⟩ hi ⟨e1, e2, hJ, hq⟩
          dsimp only at e1 e2 hq
          subst e1
          simp only [m_nilometerref10_Proves_b0]
          refine M.o_t (decide_eq_true (by omega)) (M.o_grdD (by omega) (M.o_bindE (out_ends _ _ _) (M.o_if (fun hb => ?_) (fun hb => ?_))))
          · refine M.o_pure fun hR => ?_
            have := hR s hi
            rw [Bool.not_eq_true', Bool.and_eq_false_iff, decide_eq_false_iff_not, decide_eq_false_iff_not] at hb
            omega
          · rw [Bool.not_eq_false', Bool.and_eq_true, decide_eq_true_eq, decide_eq_true_eq] at hb
            refine M.o_grd (gA2 (by omega) (by omega)) (M.o_pure ⟨rfl, ?_, fun k hk => ?_, ?_⟩)
            · show _ = Pk.sm (fun k => d.getD k 0) 0 s + d.getD (0 + s) 0
              rw [Nat.zero_add, ← e2]
            · rcases Nat.lt_or_eq_of_le (Nat.le_of_lt_succ hk) with e | e
              · exact hJ k e
              · subst e; exact hb
            · dsimp only
              omega
        · rintro ⟨q, s⟩ ⟨e1, e2, hJ, hq⟩
          dsimp only at e1 e2
          subst e1
          simp only [m_nilometerref10_Proves_b0]
          exact M.o_f (by simp) (M.o_pure ⟨hJ, by rw [e2, hl]⟩)
      · intro y hy
        cases y with
        | inl u => exact M.o_pure ⟨fun h => absurd h0 h, fun _ h => absurd hl h, fun _ _ _ => rfl, fun _ _ h => absurd h hy⟩
        | inr q =>
          obtain ⟨hR, rfl⟩ := hy
          have hb := dur_out hR
          refine M.o_bind (P := fun y => match y with | .inl (_ : Unit) => ¬ Prv l A T d | .inr (_ : Unit) => Prv l A T d) ?_ ?_
          · refine M.o_for l.length (fun i (s : Nat) => s = i ∧ ∀ k, k < i → vP l T k ≤ Pk.sm (fun k => d.getD k 0) k (Pk.nx l A k - k)) ?_ ?_ ⟨rfl, fun k hk => by omega⟩
            · rintro i s hi ⟨rfl, hJ⟩
              simp only [m_nilometerref10_Proves_b3]
              have l1 := F.lt s hi
              have l2 := F.le s hi
              have hst := h.ok.st s hi
              have hds : 0 ≤ (l.getD s default).day ∧ (l.getD s default).day ≤ 4000 := h.ok.day s hi
              unfold Pk.stAt at hst
              have hv : vP l T s = (l.getD s default).stage - T := rfl
              refine M.o_t (decide_eq_true (by omega)) (M.o_bind (P := fun z => z = Pk.sm (fun k => d.getD k 0) s (Pk.nx l A s - s)) ?_ ?_)
              · refine M.o_for l.length (fun j (z : Int × Nat) => z.2 = j ∧ z.1 = Pk.sm (fun k => d.getD k 0) s (min j (Pk.nx l A s) - s) ∧ 0 ≤ z.1 ∧ z.1 ≤ 2000 * (j : Int)) ?_ ?_ ⟨rfl, ?_, by simp⟩
                · rintro j ⟨z, t⟩ hj ⟨e1, e2, e3⟩
                  dsimp only at e1 e2 e3
                  subst e1
                  simp only [m_nilometerref10_Proves_b2]
                  have hdt := h.ok.day t hj
                  have i1 := h.ok.up.lt_iff hi hj
                  have i2 := h.ok.up.lt_iff hj hi
                  have i3 := Pk.fst_lt h.ok.up (t := Pk.dayAt l s + A) hj
                  have hbt := hb t
                  refine M.o_t (decide_eq_true (by omega)) (M.o_grdD (by omega) (M.o_grdD (by omega) (M.o_grd (gI2 fun _ => by omega) (M.o_grd (gI2 fun _ => by omega) (M.o_if (fun hc => ?_) (fun hc => ?_))))))
                  · rw [Bool.and_eq_true, decide_eq_true_eq, decide_eq_true_eq] at hc
                    have c1 : s ≤ t := by
                      refine Nat.le_of_not_lt fun hn => ?_
                      have : (l.getD t default).day < (l.getD s default).day := i2.2 hn
                      omega
                    have c2 : t < Pk.nx l A s := i3.2 (by
                      have : (l.getD t default).day ≤ (l.getD s default).day + A - 1 := hc.2
                      show (l.getD t default).day < (l.getD s default).day + A
                      omega)
                    refine M.o_grdD (by omega) (M.o_grd (gA2 (by omega) (by omega)) (M.o_pure ⟨rfl, ?_, by dsimp only; omega, by dsimp only; omega⟩))
                    dsimp only
                    rw [show min (t + 1) (Pk.nx l A s) - s = (min t (Pk.nx l A s) - s) + 1 by omega]
                    show _ = Pk.sm (fun k => d.getD k 0) s (min t (Pk.nx l A s) - s) + d.getD (s + (min t (Pk.nx l A s) - s)) 0
                    rw [← e2, show s + (min t (Pk.nx l A s) - s) = t by omega]
                  · have c : t < s ∨ Pk.nx l A s ≤ t := by
                      refine Classical.byContradiction fun hn => ?_
                      have c1 : ¬ ((l.getD t default).day < (l.getD s default).day) := fun hh => hn (.inl (i2.1 hh))
                      have c2 : (l.getD t default).day < (l.getD s default).day + A := i3.1 (by
                        show t < Pk.nx l A s
                        omega)
                      rw [decide_eq_true (by omega), decide_eq_true (by omega)] at hc
                      cases hc
                    refine M.o_pure ⟨rfl, ?_, by dsimp only; omega, by dsimp only; omega⟩
                    dsimp only
                    rw [e2, show min (t + 1) (Pk.nx l A s) - s = min t (Pk.nx l A s) - s by omega]
                · rintro ⟨z, t⟩ ⟨e1, e2, e3⟩
                  dsimp only at e1 e2 e3
                  subst e1
                  simp only [m_nilometerref10_Proves_b2]
                  rw [Nat.min_eq_right l2] at e2
                  exact M.o_f (by simp) (M.o_pure e2)
                · dsimp only
                  rw [show min 0 (Pk.nx l A s) - s = 0 by omega]
                  rfl
              · rintro z rfl
                have k3 := sm_small hb s (Pk.nx l A s - s)
                refine M.o_grdD (by omega) (M.o_grd (gI2 fun _ => by omega) (M.o_if (fun hc => ?_) (fun hc => ?_)))
                · rw [Bool.and_eq_true, decide_eq_true_eq, decide_eq_true_eq] at hc
                  refine M.o_pure fun hP => ?_
                  have := hP s hi
                  omega
                · rw [Bool.and_eq_false_iff, decide_eq_false_iff_not, decide_eq_false_iff_not] at hc
                  refine M.o_pure ⟨rfl, fun k hk => ?_⟩
                  rcases Nat.lt_or_eq_of_le (Nat.le_of_lt_succ hk) with e | e
                  · exact hJ k e
                  · subst e; omega
            · rintro s ⟨rfl, hJ⟩
              simp only [m_nilometerref10_Proves_b3]
              exact M.o_f (by simp) (M.o_pure hJ)
          · intro y hy
            cases y with
            | inl u => exact M.o_pure ⟨fun h => absurd h0 h, fun _ h => absurd hl h, fun _ _ h => absurd hR h, fun _ _ _ => ⟨rfl, ⟨fun h => Bool.noConfusion h, fun h => absurd h.1 hy⟩⟩⟩
            | inr u => exact M.o_pure ⟨fun h => absurd h0 h, fun _ h => absurd hl h, fun _ _ h => absurd hR h, fun _ _ _ => ⟨rfl, ⟨fun h => ⟨hy, of_decide_eq_true h⟩, fun h => decide_eq_true h.2⟩⟩⟩
  · exact M.o_t (bne_iff_ne.2 h0) (M.o_pure ⟨fun _ => rfl, fun h => absurd h h0, fun h => absurd h h0, fun h => absurd h h0⟩)
theorem copy_pk (h : l.length ≤ 1000000) : (m_nilometerkit_Copy_often_Peak l).Ends l := M.i_grd (decide_eq_true (by simp only [List.length_nil]; omega)) M.i_pure
theorem copy_int {c : List Int} (h : c.length ≤ 1000000) : (m_nilometerkit_Copy_int c).Ends c := M.i_grd (decide_eq_true (by simp only [List.length_nil]; omega)) M.i_pure
theorem peaks_ends (h : l.length ≤ 1000000) : (m_nilometerlaw10_peaks l).Ends l := by
  have out : (m_nilometerlaw10_peaks l).Out (fun y => y = l) := by
    unfold m_nilometerlaw10_peaks
    refine M.o_bind (P := fun y => y.2 = l) ?_ (fun y e => M.o_pure e)
    refine M.o_for l.length (fun i (s : Nat × List Pk) => s.1 = i ∧ s.2 = l.take i) ?_ ?_ ⟨rfl, rfl⟩
    · rintro i ⟨s, q⟩ hi ⟨e1, e2⟩
      dsimp only at e1 e2
      subst e1
      subst e2
      simp only [m_nilometerlaw10_peaks_b0]
      exact M.o_t (decide_eq_true (by omega)) (M.o_grdD (by omega) (M.o_grdD (by simp [List.length_take]; omega) (M.o_pure ⟨rfl, take_succ_D l s hi default⟩)))
    · rintro ⟨s, q⟩ ⟨e1, e2⟩
      dsimp only at e1 e2
      subst e1
      simp only [m_nilometerlaw10_peaks_b0]
      exact M.o_f (by simp) (M.o_pure (by rw [e2]; exact List.take_length))
  obtain ⟨y, h1, rfl⟩ := out
  exact h1
theorem same_pk (l : List Pk) : (m_nilometerkit_Same_often_Peak l l).Ends true := by
  unfold m_nilometerkit_Same_often_Peak
  refine M.i_f (by simp) (M.i_bind (a := (.inr () : Unit ⊕ Unit)) ?_ M.i_pure)
  refine M.i_for (fun i => i) l.length (fun i hi => ?_) ?_
  · simp only [m_nilometerkit_Same_often_Peak_b0]
    exact M.i_t (decide_eq_true (by omega)) (M.i_grd (decide_eq_true (by omega)) (M.i_grd (decide_eq_true (by omega)) (M.i_f (by simp) M.i_pure)))
  · simp only [m_nilometerkit_Same_often_Peak_b0]
    exact M.i_f (by simp) M.i_pure
theorem same_int (l : List Int) : (m_nilometerkit_Same_int l l).Ends true := by
  unfold m_nilometerkit_Same_int
  refine M.i_f (by simp) (M.i_bind (a := (.inr () : Unit ⊕ Unit)) ?_ M.i_pure)
  refine M.i_for (fun i => i) l.length (fun i hi => ?_) ?_
  · simp only [m_nilometerkit_Same_int_b0]
    exact M.i_t (decide_eq_true (by omega)) (M.i_grd (decide_eq_true (by omega)) (M.i_grd (decide_eq_true (by omega)) (M.i_f (by simp) M.i_pure)))
  · simp only [m_nilometerkit_Same_int_b0]
    exact M.i_f (by simp) M.i_pure
/-- Dues that were reckoned prove the greatest worth. -/
theorem du_prv (h : Pk.Asked l A T) {d : List Int} (hl : d.length = l.length) (hD : Pk.Du l.length (Pk.kk l A) (Pk.Sf (Pk.kk l A) (vP l T)) l.length (fun k => d.getD k 0)) : DuR d ∧ Prv l A T d ∧ Pk.sm (fun k => d.getD k 0) 0 l.length = mxP l A T := by
  have F := Pk.fl h.ok.up h.ap.1
  have hS := Pk.sf_is F (vP l T)
  refine ⟨fun i hi => ⟨hD.nn F hS (by omega), hD.most F hS (c := 2000) (by decide) (fun k hk => ?_) (by omega)⟩, fun i hi => hD.proves F hS hi, hD.sum F⟩
  have h1 := h.ok.st k hk
  have h2 := h.th
  show Pk.stAt l k - T ≤ 2000
  omega
theorem oftenPeaks_ends (l : List Pk) (A T : Int) (c : List Int) (w : Int) (d : List Int) : (m_nilometerlaw10_OftenPeaks l A T c w d).Ends true := by
  have out : (m_nilometerlaw10_OftenPeaks l A T c w d).Out (fun r => r = true) := by
    unfold m_nilometerlaw10_OftenPeaks
    refine M.o_if (fun hb => M.o_bindE awake_ends (M.o_pure rfl)) (fun hb => ?_)
    rw [Bool.or_eq_false_iff, Bool.or_eq_false_iff, decide_eq_false_iff_not, decide_eq_false_iff_not, decide_eq_false_iff_not] at hb
    obtain ⟨⟨b1, b2⟩, b3⟩ := hb
    refine M.o_bindE (copy_pk (by omega)) (M.o_bindE (copy_int (by omega)) (M.o_bindE (copy_int (by omega)) (M.o_bindE (peaks_ends (by omega)) (M.o_bindE (chk_ends l) (M.o_bindE (ref_chk l) (M.o_f (by simp) ?_))))))
    obtain ⟨y1, w1, s1⟩ := worth_out l A T c
    obtain ⟨y2, w2, s2⟩ := ref_worth l A T c (by omega)
    have e := s1.uniq s2
    subst e
    refine M.o_bindE w1 (M.o_bindE w2 (M.o_f (by simp) ?_))
    obtain ⟨p1, q1, pi⟩ := pick_out l A T
    obtain ⟨p2, q2, bi⟩ := best_ends l A T
    obtain ⟨p3, q3, di⟩ := dues_out l A T
    obtain ⟨v1, u1, t1⟩ := proves_out l A T w d (by omega)
    obtain ⟨v2, u2, t2⟩ := ref_proves l A T w d (by omega)
    have e := t1.uniq t2
    subst e
    refine M.o_bindE q1 (M.o_bindE q2 (M.o_bindE q3 ?_))
    obtain ⟨c1, m1, x1⟩ := p1
    obtain ⟨m2, x2⟩ := p2
    obtain ⟨d1, x3⟩ := p3
    dsimp only
    have fin : (M.bind (m_often_Proves l A T w d) fun (r08, r18) => M.bind (m_nilometerref10_Proves l A T w d) fun (r09, r19) => M.bind (M.opt ((r18 == r19) && (r08 == r09)) (m_nilometerkit_Same_often_Peak l l) false) fun r9 =>
        M.bind (M.opt (((r18 == r19) && (r08 == r09)) && r9) (m_nilometerkit_Same_int c c) false) fun r10 => M.bind (M.opt ((((r18 == r19) && (r08 == r09)) && r9) && r10) (m_nilometerkit_Same_int d d) false) fun r11 =>
        M.bind (M.opt (((((r18 == r19) && (r08 == r09)) && r9) && r10) && r11) (m_nilometerlaw10_awake) false) fun r20 => M.pure ((((((r18 == r19) && (r08 == r09)) && r9) && r10) && r11) && r20)).Out (fun r => r = true) := by
      refine M.o_bindE u1 (M.o_bindE u2 ?_)
      have e0 : ((v1.2 == v1.2) && (v1.1 == v1.1)) = true := by simp
      obtain ⟨a1, a2⟩ := v1
      dsimp only at e0 ⊢
      rw [e0]
      exact M.o_bindE (M.i_opt (fun _ => same_pk l) (fun h => by cases h)) (M.o_bindE (M.i_opt (fun _ => same_int c) (fun h => by cases h)) (M.o_bindE (M.i_opt (fun _ => same_int d) (fun h => by cases h)) (M.o_bindE (M.i_opt (fun _ => awake_ends) (fun h => by cases h)) (M.o_pure rfl))))
    by_cases h0 : Pk.askP l A T = 0
    · obtain ⟨g1, g2, g3, g4, g5⟩ := pi.ok h0
      obtain ⟨f1, f2, f3⟩ := di.ok h0
      have f0 := bi.2 h0
      simp only [Prod.mk.injEq] at f0
      dsimp only at g1 g2 g3 g4 g5 f1 f2 f3
      obtain ⟨f0, f00⟩ := f0
      subst g1 f1 f0 f00 g5
      have h := Pk.ask_ok h0
      have hf := h.ok.few
      have hcf := g2.few
      refine M.o_grd (gI2 fun _ => by omega) (M.o_f (by simp) (M.o_t rfl ?_))
      obtain ⟨y3, w3, s3⟩ := ref_worth l A T c1 (by omega)
      have e := s3.ok h0 g2 g3
      subst e
      refine M.o_bindE w3 ?_
      rw [g4]
      refine M.o_f (by simp) ?_
      obtain ⟨dr, dp, ds⟩ := du_prv h f2 f3
      obtain ⟨⟨z1, z2⟩, w4, s4⟩ := ref_proves l A T (mxP l A T) d1 (by omega)
      obtain ⟨k1, k2⟩ := s4.ok h0 f2 dr
      have k3 := k2.2 ⟨dp, by rw [ds]; exact Int.le_refl _⟩
      dsimp only at k1 k3
      subst k1 k3
      exact M.o_bindE w4 (M.o_f rfl fin)
    · have g1 := pi.ask h0
      have g2 := bi.1 h0
      have g3 := di.ask h0
      simp only [Prod.mk.injEq] at g1 g2 g3
      obtain ⟨rfl, rfl, rfl⟩ := g1
      obtain ⟨rfl, rfl⟩ := g2
      obtain ⟨rfl, rfl⟩ := g3
      have e1 : (Pk.askP l A T == 0) = false := beq_eq_false_iff_ne.2 h0
      refine M.o_grd (gI2 fun _ => ⟨by simp, by simp⟩) (M.o_f (by simp) (M.o_f e1 fin))
  obtain ⟨r, h, rfl⟩ := out
  exact h
end Go.Proofs.Ytcgalcbkkijkhaa
