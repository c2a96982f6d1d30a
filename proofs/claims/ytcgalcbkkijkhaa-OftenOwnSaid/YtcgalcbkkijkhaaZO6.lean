/- Part 6 of the texts on which the proof rests. Conditions: none. -/
import Derived.KernelRfl
import Derived.Test.YtcgalcbkkijkhaaZO5
set_option linter.unusedVariables false
set_option linter.unusedSimpArgs false
set_option linter.unusedSectionVars false
namespace Go.Nm
namespace Pk
variable {l : List Pk} {A T : Int} {c : List Int}
theorem getD_app (c : List Int) (x : Int) (k : Nat) : (c ++ [x]).getD k 0 = if k < c.length then c.getD k 0 else if k = c.length then x else 0 := by
  simp only [List.getD_eq_getElem?_getD]
  by_cases h : k < c.length
  · rw [if_pos h, List.getElem?_append_left h]
  · rw [if_neg h, List.getElem?_append_right (by omega)]
    by_cases e : k = c.length
    · subst e; simp
    · rw [if_neg e, List.getElem?_eq_none (by simp; omega)]; rfl
theorem Ris.app {n : Nat} (h : Ris n c) {x : Nat} (hx : x < n) (hl : 0 < c.length -> cA c (c.length - 1) < x) : Ris n (c ++ [(x : Int)]) := by
  intro k hk
  rw [List.length_append, List.length_singleton] at hk
  rw [getD_app, getD_app]
  by_cases e : k < c.length
  · rw [if_pos e, if_pos (by omega)]
    exact h k e
  · obtain rfl : k = c.length := by omega
    rw [if_neg (by omega), if_pos rfl]
    refine ⟨by omega, by omega, fun h0 => ?_⟩
    rw [if_pos (by omega)]
    have h1 := hl h0
    have h2 := h (c.length - 1) (by omega)
    unfold cA at h1
    omega
theorem cA_app {k x : Nat} (h : k <= c.length) : cA (c ++ [(x : Int)]) k = if k < c.length then cA c k else x := by
  unfold cA
  rw [getD_app]
  by_cases e : k < c.length
  · rw [if_pos e, if_pos e]
  · rw [if_neg e, if_neg e, if_pos (by omega)]
    omega
theorem Good.app (h : Good l A T c) {x : Nat} (h1 : T < stAt l x) (h2 : 0 < c.length -> A <= dayAt l x - dayAt l (cA c (c.length - 1))) : Good l A T (c ++ [(x : Int)]) := by
  intro k hk
  rw [List.length_append, List.length_singleton] at hk
  rw [cA_app (by omega), cA_app (by omega)]
  by_cases e : k < c.length
  · rw [if_pos e, if_pos (by omega)]
    exact h k e
  · obtain rfl : k = c.length := by omega
    rw [if_neg (by omega)]
    refine ⟨h1, fun h0 => ?_⟩
    rw [if_pos (by omega)]
    exact h2 h0
theorem wS_app {x : Nat} : ∀ k : Nat, k <= c.length -> wS l T (c ++ [(x : Int)]) k = wS l T c k
  | 0, _ => rfl
  | k + 1, h => by
    unfold wS
    rw [wS_app k (by omega), cA_app (by omega), if_pos (by omega)]
theorem wS_snoc {x : Nat} : wS l T (c ++ [(x : Int)]) (c.length + 1) = wS l T c c.length + (stAt l x - T) := by
  show wS l T (c ++ [(x : Int)]) c.length + (stAt l (cA (c ++ [(x : Int)]) c.length) - T) = _
  rw [wS_app _ (Nat.le_refl _), cA_app (Nat.le_refl _), if_neg (by omega)]
end Pk
end Go.Nm
namespace Go.Proofs.Ytcgalcbkkijkhaa
open Go Go.Nm
variable {l : List Pk} {A T : Int}
/-- The greatest worth of a choice. -/
def mxP (l : List Pk) (A T : Int) : Int := Pk.Sf (Pk.kk l A) (vP l T) l.length
structure PiE (l : List Pk) (A T : Int) (y : List Int × Int × Int) : Prop where
  ask : Pk.askP l A T ≠ 0 -> y = ([], 0, Pk.askP l A T)
  ok : Pk.askP l A T = 0 -> y.2.2 = 0 /\ Pk.Ris l.length y.1 /\ Pk.Good l A T y.1 /\ Pk.wS l T y.1 y.1.length = mxP l A T /\ y.2.1 = mxP l A T
theorem pick_out (l : List Pk) (A T : Int) : (m_often_Pick l A T).Out (PiE l A T) := by
  unfold m_often_Pick
  refine M.o_bindE (asked_ends l A T) ?_
  by_cases h0 : Pk.askP l A T = 0
  · have h := Pk.ask_ok h0
    have hf := h.ok.few
    have F := Pk.fl h.ok.up h.ap.1
    rw [h0]
    refine M.o_f rfl (M.o_bind (best_out h) ?_)
    rintro b ⟨bl, hB, bb⟩
    have hmx : b.getD 0 0 = mxP l A T := Pk.both F (Pk.sf_is F _) hB
    refine M.o_bind (P := fun y => Pk.Ris l.length y.2 /\ Pk.Good l A T y.2 /\ Pk.wS l T y.2 y.2.length = mxP l A T) ?_ ?_
    · refine M.o_iter (fun m (s : Int × List Int) => ∃ i : Nat, s.1 = i /\ i <= l.length /\ m = l.length - i /\ Pk.Ris l.length s.2 /\ Pk.Good l A T s.2 /\ Pk.wS l T s.2 s.2.length + b.getD i 0 = mxP l A T /\ (0 < s.2.length -> Pk.nx l A (Pk.cA s.2 (s.2.length - 1)) <= i)) ?_ _ (0, [])
        ⟨0, rfl, Nat.zero_le _, rfl, fun k hk => by simp at hk, fun k hk => by simp at hk, by rw [← hmx]; show (0 : Int) + _ = _; rw [Int.zero_add], fun hk => by simp at hk⟩
      rintro m ⟨i', c⟩ ⟨i, e, hi, rfl, hR, hG, hw, hl⟩
      dsimp only at e hR hG hw hl
      subst e
      simp only [m_often_Pick_b1, Int.toNat_natCast]
      refine M.o_if (fun hb => ?_) (fun hb => ?_)
      · have hb := of_decide_eq_true hb
        have hi : i < l.length := by omega
        have l1 := F.lt i hi
        have l2 := F.le i hi
        have hs := hB.s i hi
        have ha := hB.anti (Nat.le_of_lt_succ (Nat.succ_lt_succ l1) : i + 1 <= Pk.nx l A i) l2
        have hp := hB.pos (i := i + 1) (by omega)
        have hfew := hR.few
        refine M.o_grd (gA2 (by omega) (by omega)) (M.o_grd (gI2 fun _ => by omega) ?_)
        by_cases ht : (l.getD i default).stage <= T
        · have e1 : (!(decide ((l.getD i default).stage <= T))) = false := by rw [decide_eq_true ht]; rfl
          have e2 : decide ((l.getD i default).stage <= T) = true := decide_eq_true ht
          rw [e1, e2]
          refine M.o_bindE (a := 0) (M.i_opt (fun h => by cases h) (fun _ => rfl)) (M.o_t rfl (M.o_pure ⟨l.length - (i + 1), by omega, i + 1, rfl, by omega, rfl, hR, hG, ?_, fun h => Nat.le_succ_of_le (hl h)⟩))
          dsimp only
          have : vP l T i <= 0 := by show (l.getD i default).stage - T <= 0; omega
          omega
        · have e1 : (!(decide ((l.getD i default).stage <= T))) = true := by rw [decide_eq_false ht]; rfl
          have e2 : decide ((l.getD i default).stage <= T) = false := decide_eq_false ht
          rw [e1, e2]
          refine M.o_bindE (M.i_opt (fun _ => with_ends h hi bb) (fun h => by cases h)) ?_
          rw [Bool.false_or]
          refine M.o_if (fun hc => ?_) (fun hc => ?_)
          · have hc := of_decide_eq_true hc
            refine M.o_pure ⟨l.length - (i + 1), by omega, i + 1, rfl, by omega, rfl, hR, hG, ?_, fun h => Nat.le_succ_of_le (hl h)⟩
            dsimp only
            omega
          · have hc := of_decide_eq_false hc
            refine M.o_grdD (by simp only [List.length_cons, List.length_nil]; omega) (M.o_bindE (next_ends h hi) (M.o_pure ⟨l.length - Pk.nx l A i, by omega, Pk.nx l A i, rfl, l2, rfl, ?_, ?_, ?_, fun _ => ?_⟩))
            · refine hR.app hi fun h0 => ?_
              have := F.lt _ (hR.at_ (k := c.length - 1) (by omega))
              have := hl h0
              omega
            · refine hG.app ?_ fun h0 => ?_
              · show T < (l.getD i default).stage
                omega
              · have h1 := hl h0
                have h2 := hR.at_ (k := c.length - 1) (by omega)
                have h3 : ¬ Pk.dayAt l i < Pk.dayAt l (Pk.cA c (c.length - 1)) + A := fun h4 => by
                  have := (Pk.fst_lt h.ok.up hi).2 h4
                  have : i < Pk.nx l A (Pk.cA c (c.length - 1)) := this
                  omega
                omega
            · dsimp only
              rw [List.length_append, List.length_singleton, Pk.wS_snoc]
              unfold vP at hs hc
              omega
            · dsimp only
              rw [List.length_append, List.length_singleton, Nat.add_sub_cancel, Pk.cA_app (Nat.le_refl _), if_neg (by omega)]
              exact Nat.le_refl _
      · have hb := of_decide_eq_false hb
        obtain rfl : i = l.length := by omega
        have := hB.z
        rw [this] at hw
        exact M.o_pure ⟨hR, hG, by dsimp only; omega⟩
    · rintro ⟨c', c⟩ ⟨h1, h2, h3⟩
      exact M.o_grd rfl (M.o_pure ⟨fun h => absurd h0 h, fun _ => ⟨rfl, h1, h2, h3, hmx⟩⟩)
  · exact M.o_t (bne_iff_ne.2 h0) (M.o_pure ⟨fun _ => rfl, fun h => absurd h h0⟩)
theorem getD_part (d : List Int) {a r s : Nat} (h : a + s < r) : ((d.take r).drop a).getD s 0 = d.getD (a + s) 0 := by
  simp only [List.getD_eq_getElem?_getD]
  rw [List.getElem?_drop, List.getElem?_take, if_pos h]
structure DuE (l : List Pk) (A T : Int) (y : List Int × Int) : Prop where
  ask : Pk.askP l A T ≠ 0 -> y = ([], Pk.askP l A T)
  ok : Pk.askP l A T = 0 -> y.2 = 0 /\ y.1.length = l.length /\ Pk.Du l.length (Pk.kk l A) (Pk.Sf (Pk.kk l A) (vP l T)) l.length (fun k => y.1.getD k 0)
theorem sm_small {d : Nat -> Int} {K : Int} (h : ∀ i, 0 <= d i /\ d i <= K) (a : Nat) : ∀ k : Nat, 0 <= Pk.sm d a k /\ Pk.sm d a k <= K * k
  | 0 => by simp [Pk.sm]
  | k + 1 => by
    have ih := sm_small h a k
    have := h (a + k)
    unfold Pk.sm
    have e : K * ((k + 1 : Nat) : Int) = K * k + K := by rw [show ((k + 1 : Nat) : Int) = (k : Int) + 1 by omega, Int.mul_add, Int.mul_one]
    omega
theorem dues_out (l : List Pk) (A T : Int) : (m_often_Dues l A T).Out (DuE l A T) := by
  unfold m_often_Dues
  refine M.o_bindE (asked_ends l A T) ?_
  by_cases h0 : Pk.askP l A T = 0
  · have h := Pk.ask_ok h0
    have hf := h.ok.few
    have hT := h.th
    have F := Pk.fl h.ok.up h.ap.1
    have hS := Pk.sf_is F (vP l T)
    rw [h0]
    refine M.o_f rfl (M.o_grd (gA3 (by omega) (by omega) (by omega)) (M.o_bind (P := fun y => y.2.length = l.length /\ Pk.Du l.length (Pk.kk l A) (Pk.Sf (Pk.kk l A) (vP l T)) l.length (fun k => y.2.getD k 0)) ?_ ?_))
    · refine M.o_for l.length (fun i (s : List Int × Nat) => s.2 = i /\ s.1.length = l.length /\ Pk.Du l.length (Pk.kk l A) (Pk.Sf (Pk.kk l A) (vP l T)) i (fun k => s.1.getD k 0) /\ ∀ k : Nat, 0 <= s.1.getD k 0 /\ s.1.getD k 0 <= 2000 * (i : Int)) ?_ ?_ ⟨rfl, by simp, ?_, fun k => ?_⟩
      · rintro i ⟨d, s⟩ hi ⟨e1, hl, hD, hb⟩
        dsimp only at e1 hl hD hb
        subst e1
        simp only [m_often_Dues_b2]
        have l1 := F.lt s hi
        have l2 := F.le s hi
        have hst := h.ok.st s hi
        unfold Pk.stAt at hst
        refine M.o_t (decide_eq_true (by omega)) (M.o_grdD (by omega) (M.o_bindE (window_ends h hi) (M.o_grd (gA2 (by omega) (by omega)) (M.o_grd (gA3 (by omega) (by omega) (by omega)) (M.o_bind (P := fun q => q = vP l T s - Pk.sm (fun k => d.getD k 0) s (Pk.nx l A s - s)) ?_ ?_)))))
        · have hlen : ((d.take (Int.toNat (Pk.nx l A s : Int))).drop s).length = Pk.nx l A s - s := by rw [List.length_drop, List.length_take]; omega
          refine M.o_for (Pk.nx l A s - s) (fun j (q : Int × Nat) => q.2 = j /\ q.1 = vP l T s - Pk.sm (fun k => d.getD k 0) s j) ?_ ?_ ⟨rfl, by show (l.getD s default).stage - T = vP l T s - 0; rw [Int.sub_zero]; rfl⟩
          · rintro j ⟨q, z⟩ hj ⟨e1, e2⟩
            dsimp only at e1 e2
            subst e1
            subst e2
            simp only [m_often_Dues_b1]
            have k1 := hb (s + z)
            have k2 := sm_small hb s z
            have hv : vP l T s = (l.getD s default).stage - T := rfl
            have hget : ((d.take (Int.toNat (Pk.nx l A s : Int))).drop s).getD z 0 = d.getD (s + z) 0 := getD_part d (by omega)
            have hz : 2000 * (s : Int) * (z : Int) <= 2000 * (40 : Int) * 40 := Int.mul_le_mul (by omega) (by omega) (by omega) (by decide)
            refine M.o_t (decide_eq_true (by omega)) (M.o_grdD (by omega) (M.o_grd (gA2 (by omega) (by omega)) (M.o_pure ⟨rfl, ?_⟩)))
            show _ = vP l T s - (Pk.sm (fun k => d.getD k 0) s z + d.getD (s + z) 0)
            omega
          · rintro ⟨q, z⟩ ⟨e1, e2⟩
            dsimp only at e1 e2
            subst e1
            simp only [m_often_Dues_b1]
            exact M.o_f (decide_eq_false (by omega)) (M.o_pure e2)
        · rintro q rfl
          have k3 := sm_small hb s (Pk.nx l A s - s)
          have hv : vP l T s = (l.getD s default).stage - T := rfl
          have k4 := hb (Pk.nx l A s - 1)
          refine M.o_grd (gA2 (by omega) (by omega)) (M.o_bindE (greatest1 _) ?_)
          have e3 : Int.toNat ((Pk.nx l A s : Int) - 1) = Pk.nx l A s - 1 := by omega
          have hset : (m_often_Dues_1 ((Pk.nx l A s : Int) - 1) (max 0 (vP l T s - Pk.sm (fun k => d.getD k 0) s (Pk.nx l A s - s))) d).Ends (d.set (Pk.nx l A s - 1) (d.getD (Pk.nx l A s - 1) 0 + max 0 (vP l T s - Pk.sm (fun k => d.getD k 0) s (Pk.nx l A s - s)))) := by
            unfold m_often_Dues_1
            rw [e3]
            exact M.i_grd (gA2 (by omega) (by omega)) (M.i_grd (gA2 (by omega) (by omega)) M.i_pure)
          refine M.o_bindE hset (M.o_pure ⟨rfl, by simpa using hl, ?_, fun k => ?_⟩)
          · have := hD.step F hS hi (p := Pk.nx l A s - 1) (by omega) rfl
            have e4 : (fun k => (d.set (Pk.nx l A s - 1) (d.getD (Pk.nx l A s - 1) 0 + max 0 (vP l T s - Pk.sm (fun k => d.getD k 0) s (Pk.nx l A s - s)))).getD k 0) = fun k => if k = Pk.nx l A s - 1 then d.getD k 0 + max 0 (vP l T s - Pk.sm (fun k => d.getD k 0) s (Pk.nx l A s - s)) else d.getD k 0 := by
              funext k
              rw [gset _ _ _ _ _ (by omega)]
              split
              · rename_i e; rw [e]
              · rfl
            show Pk.Du _ _ _ (s + 1) (fun k => (d.set _ _).getD k 0)
            rw [e4]
            exact this
          · show 0 <= (d.set _ _).getD k 0 /\ (d.set _ _).getD k 0 <= 2000 * ((s + 1 : Nat) : Int)
            rw [gset _ _ _ _ _ (by omega)]
            have := hb k
            split <;> omega
      · rintro ⟨d, s⟩ ⟨e1, hl, hD, hb⟩
        dsimp only at e1 hl hD hb
        subst e1
        simp only [m_often_Dues_b2]
        exact M.o_f (by simp) (M.o_pure ⟨hl, hD⟩)
      · have e : (fun k => (List.replicate l.length (0 : Int)).getD k 0) = fun _ => 0 := by
          funext k
          rw [List.getD_eq_getElem?_getD, List.getElem?_replicate]
          split <;> rfl
        show Pk.Du _ _ _ 0 (fun k => (List.replicate l.length (0 : Int)).getD k 0)
        rw [e]
        exact Pk.Du.z hS
      · dsimp only
        rw [List.getD_eq_getElem?_getD, List.getElem?_replicate]
        split
        · show (0 : Int) <= 0 /\ (0 : Int) <= _; omega
        · show (0 : Int) <= 0 /\ (0 : Int) <= _; omega
    · rintro ⟨d', d⟩ ⟨h1, h2⟩
      exact M.o_pure ⟨fun h => absurd h0 h, fun _ => ⟨rfl, h1, h2⟩⟩
  · exact M.o_t (bne_iff_ne.2 h0) (M.o_pure ⟨fun _ => rfl, fun h => absurd h h0⟩)
end Go.Proofs.Ytcgalcbkkijkhaa
namespace Go.Proofs.Ytcgalcbkkijkhaa
open Go Go.Nm
theorem awake_ends : (m_nilometerlaw10_awake).Ends true := ⟨300, by kernel_rfl⟩
end Go.Proofs.Ytcgalcbkkijkhaa
namespace Go.Proofs.Ytcgalcbkkijkhaa
open Go Go.Nm
variable {l : List Pk} {A T : Int}
theorem sf_bound (h : Pk.Asked l A T) : ∀ i : Nat, i <= l.length -> 0 <= Pk.Sf (Pk.kk l A) (vP l T) i /\ Pk.Sf (Pk.kk l A) (vP l T) i <= 2000 * (i : Int) := by
  have F := Pk.fl h.ok.up h.ap.1
  have hS := Pk.sf_is F (vP l T)
  intro i
  induction i using Nat.strongRecOn with
  | _ i ih =>
    intro hi
    cases i with
    | zero => rw [hS.z]; simp
    | succ i =>
      have h1 := ih i (by omega) (by omega)
      have h2 := F.kle i
      have h3 := ih (Pk.kk l A i) (by omega) (by omega)
      have h4 := h.ok.st i hi
      have ht := h.th
      rw [hS.s i hi]
      have hv : vP l T i = Pk.stAt l i - T := rfl
      omega
/-- Dues that prove something. -/
def Prv (l : List Pk) (A T : Int) (d : List Int) : Prop := ∀ i, i < l.length -> vP l T i <= Pk.sm (fun k => d.getD k 0) i (Pk.nx l A i - i)
def DuR (d : List Int) : Prop := ∀ i, i < d.length -> 0 <= d.getD i 0 /\ d.getD i 0 <= 2000
structure PrE (l : List Pk) (A T w : Int) (d : List Int) (y : Bool × Int) : Prop where
  ask : Pk.askP l A T ≠ 0 -> y = (false, Pk.askP l A T)
  len : Pk.askP l A T = 0 -> d.length ≠ l.length -> y = (false, 2)
  rng : Pk.askP l A T = 0 -> d.length = l.length -> ¬ DuR d -> y = (false, 4)
  ok : Pk.askP l A T = 0 -> d.length = l.length -> DuR d -> y.2 = 0 /\ (y.1 = true ↔ Prv l A T d /\ Pk.sm (fun k => d.getD k 0) 0 l.length <= w)
theorem PrE.uniq {w : Int} {d : List Int} {y y' : Bool × Int} (h : PrE l A T w d y) (h' : PrE l A T w d y') : y = y' := by
  by_cases h0 : Pk.askP l A T = 0
  · by_cases h1 : d.length = l.length
    · by_cases h2 : DuR d
      · obtain ⟨a1, a2⟩ := h.ok h0 h1 h2
        obtain ⟨b1, b2⟩ := h'.ok h0 h1 h2
        have e : y.1 = y'.1 := by
          cases c1 : y.1 <;> cases c2 : y'.1
          · rfl
          · rw [c1] at a2; rw [c2] at b2
            exact a2.2 (b2.1 rfl)
          · rw [c1] at a2; rw [c2] at b2
            exact (b2.2 (a2.1 rfl)).symm
          · rfl
        exact Prod.ext e (by rw [a1, b1])
      · rw [h.rng h0 h1 h2, h'.rng h0 h1 h2]
    · rw [h.len h0 h1, h'.len h0 h1]
  · rw [h.ask h0, h'.ask h0]
theorem index_int {s : List Int} {f : Int -> M Bool} {q : Int -> Bool} (hl : s.length <= 1000000) (h : ∀ x, x ∈ s -> (f x).Ends (q x)) : ∃ r, (m_slices_IndexFunc_int s f).Ends r /\ decide (0 <= r) = s.any q := by
  have out : (m_slices_IndexFunc_int s f).Out (fun r => decide (0 <= r) = s.any q) := by
    unfold m_slices_IndexFunc_int
    refine M.o_bind (P := fun y => match y with | .inl r => decide (0 <= r) = s.any q | .inr (_ : Unit) => s.any q = false) ?_ ?_
    · refine M.o_for s.length (fun i (k : Nat) => k = i /\ (s.take i).any q = false) ?_ ?_ ⟨rfl, by simp⟩
      · rintro i k hi ⟨rfl, hJ⟩
        simp only [m_slices_IndexFunc_int_b0]
        have hm : s.getD k 0 ∈ s := by rw [getD_el s hi]; exact List.getElem_mem hi
        refine M.o_t (decide_eq_true (by omega)) (M.o_grdD (by omega) (M.o_bindE (h _ hm) (M.o_if (fun hb => ?_) (fun hb => ?_))))
        · refine M.o_pure ?_
          dsimp only
          rw [show s.any q = true from List.any_eq_true.2 ⟨_, hm, hb⟩]
          exact decide_eq_true (by omega)
        · refine M.o_pure ⟨rfl, ?_⟩
          rw [← take_succ_D s k hi 0, List.any_append, hJ]
          simp only [List.any_cons, List.any_nil, Bool.or_false, Bool.false_or]
          exact hb
      · rintro k ⟨rfl, hJ⟩
        simp only [m_slices_IndexFunc_int_b0]
        rw [List.take_length] at hJ
        exact M.o_f (by simp) (M.o_pure hJ)
    · intro y hy
      cases y with
      | inl r => exact M.o_pure hy
      | inr u => exact M.o_pure (by show decide ((0 : Int) <= -1) = s.any q; rw [show s.any q = false from hy]; rfl)
  exact out
theorem every_int {s : List Int} {so : Int -> M Bool} {p : Int -> Bool} (hl : s.length <= 1000000) (h : ∀ x, x ∈ s -> (so x).Ends (p x)) : (m_often_every_int s so).Ends (s.all p) := by
  unfold m_often_every_int m_slices_ContainsFunc_int
  obtain ⟨r, h1, h2⟩ := index_int (s := s) (f := fun x => m_often_every_int__1 x so) (q := fun x => !(p x)) hl (fun x hx => by unfold m_often_every_int__1; exact M.i_bind (h x hx) M.i_pure)
  refine M.i_bind (M.i_bind h1 M.i_pure) ?_
  rw [h2, List.any_eq_not_all_not]
  simp only [Bool.not_not]
  exact M.i_pure
theorem dur_all {d : List Int} : (d.all fun n => decide (0 <= n) && decide (n <= 2000)) = true ↔ DuR d := by
  rw [List.all_eq_true]
  constructor
  · intro h i hi
    have := h (d.getD i 0) (by rw [getD_el d hi]; exact List.getElem_mem hi)
    rwa [Bool.and_eq_true, decide_eq_true_eq, decide_eq_true_eq] at this
  · intro h x hx
    obtain ⟨i, hi, rfl⟩ := mem_getD hx 0
    have := h i hi
    exact gA2 this.1 this.2
theorem dur_out {d : List Int} (h : DuR d) (i : Nat) : 0 <= d.getD i 0 /\ d.getD i 0 <= 2000 := by
  by_cases hi : i < d.length
  · exact h i hi
  · rw [List.getD_eq_getElem?_getD, List.getElem?_eq_none (by omega)]
    exact ⟨Int.le_refl _, by show (0 : Int) <= 2000; decide⟩
theorem proves_out (l : List Pk) (A T w : Int) (d : List Int) (hd45 : d.length <= 1000000) : (m_often_Proves l A T w d).Out (PrE l A T w d) := by
  unfold m_often_Proves
  refine M.o_bindE (asked_ends l A T) ?_
  by_cases h0 : Pk.askP l A T = 0
  · have h := Pk.ask_ok h0
    have hf := h.ok.few
    have hT := h.th
    have F := Pk.fl h.ok.up h.ap.1
    rw [h0]
    refine M.o_f rfl (M.o_if (fun hl => ?_) (fun hl => ?_))
    · have hl : d.length ≠ l.length := fun e => by rw [e] at hl; simp at hl
      exact M.o_pure ⟨fun h => absurd h0 h, fun _ _ => rfl, fun _ h => absurd h hl, fun _ h => absurd h hl⟩
    · have hl : d.length = l.length := by have : (d.length : Int) = l.length := by simpa using hl
                                          omega
      refine M.o_bindE (every_int (p := fun n => decide (0 <= n) && decide (n <= 2000)) hd45 (fun x _ => by unfold m_often_Proves_1; exact M.i_bind (in_ends _ _ _) M.i_pure)) ?_
      by_cases hR : DuR d
      · rw [dur_all.2 hR]
        have hb := dur_out hR
        refine M.o_f rfl (M.o_bind (P := fun y => match y with | .inl (_ : Unit) => ¬ Prv l A T d | .inr q => Prv l A T d /\ q = Pk.sm (fun k => d.getD k 0) 0 l.length) ?_ ?_)
        · refine M.o_for l.length (fun i (s : Int × Nat) => s.2 = i /\ s.1 = Pk.sm (fun k => d.getD k 0) 0 i /\ ∀ k, k < i -> vP l T k <= Pk.sm (fun k => d.getD k 0) k (Pk.nx l A k - k)) ?_ ?_ ⟨rfl, rfl, fun k hk => by omega⟩
          · rintro i ⟨q, s⟩ hi ⟨e1, e2, hJ⟩
            dsimp only at e1 e2
            subst e1
            subst e2
            simp only [m_often_Proves_b2]
            have l1 := F.lt s hi
            have l2 := F.le s hi
            have k1 := hb s
            have k2 := sm_small hb 0 s
            have hst := h.ok.st s hi
            unfold Pk.stAt at hst
            have hv : vP l T s = (l.getD s default).stage - T := rfl
            refine M.o_t (decide_eq_true (by omega)) (M.o_grdD (by omega) (M.o_grdD (by omega) (M.o_grd (gA2 (by omega) (by omega)) (M.o_bindE (window_ends h hi) (M.o_grd (gA3 (by omega) (by omega) (by omega)) (M.o_bind (P := fun z => z = Pk.sm (fun k => d.getD k 0) s (Pk.nx l A s - s)) ?_ ?_))))))
            · have hlen : ((d.take (Int.toNat (Pk.nx l A s : Int))).drop s).length = Pk.nx l A s - s := by rw [List.length_drop, List.length_take]; omega
              refine M.o_for (Pk.nx l A s - s) (fun j (z : Int × Nat) => z.2 = j /\ z.1 = Pk.sm (fun k => d.getD k 0) s j) ?_ ?_ ⟨rfl, rfl⟩
              · rintro j ⟨z, t⟩ hj ⟨e1, e2⟩
                dsimp only at e1 e2
                subst e1
                subst e2
                simp only [m_often_Proves_b1]
                have hget : ((d.take (Int.toNat (Pk.nx l A s : Int))).drop s).getD t 0 = d.getD (s + t) 0 := getD_part d (by omega)
                have k3 := hb (s + t)
                have k4 := sm_small hb s t
                refine M.o_t (decide_eq_true (by omega)) (M.o_grdD (by omega) (M.o_grd (gA2 (by omega) (by omega)) (M.o_pure ⟨rfl, ?_⟩)))
                show _ = Pk.sm (fun k => d.getD k 0) s t + d.getD (s + t) 0
                dsimp only
                omega
              · rintro ⟨z, t⟩ ⟨e1, e2⟩
                dsimp only at e1 e2
                subst e1
                simp only [m_often_Proves_b1]
                exact M.o_f (decide_eq_false (by omega)) (M.o_pure e2)
            · rintro z rfl
              refine M.o_grd (gA2 (by omega) (by omega)) (M.o_if (fun hc => ?_) (fun hc => ?_))
              · have hc := of_decide_eq_true hc
                refine M.o_pure fun hP => ?_
                have := hP s hi
                omega
              · have hc := of_decide_eq_false hc
                refine M.o_pure ⟨rfl, ?_, fun k hk => ?_⟩
                · show _ = Pk.sm (fun k => d.getD k 0) 0 s + d.getD (0 + s) 0
                  rw [Nat.zero_add]
                · rcases Nat.lt_or_eq_of_le (Nat.le_of_lt_succ hk) with e | e
                  · exact hJ k e
                  · subst e; omega
          · rintro ⟨q, s⟩ ⟨e1, e2, hJ⟩
            dsimp only at e1 e2
            subst e1
            simp only [m_often_Proves_b2]
            exact M.o_f (by simp) (M.o_pure ⟨hJ, e2⟩)
        · intro y hy
          cases y with
          | inl u => exact M.o_pure ⟨fun h => absurd h0 h, fun _ h => absurd hl h, fun _ _ h => absurd hR h, fun _ _ _ => ⟨rfl, ⟨fun h => Bool.noConfusion h, fun h => absurd h.1 hy⟩⟩⟩
          | inr q =>
            obtain ⟨hP, rfl⟩ := hy
            exact M.o_pure ⟨fun h => absurd h0 h, fun _ h => absurd hl h, fun _ _ h => absurd hR h, fun _ _ _ => ⟨rfl, ⟨fun h => ⟨hP, of_decide_eq_true h⟩, fun h => decide_eq_true h.2⟩⟩⟩
      · have : (d.all fun n => decide (0 <= n) && decide (n <= 2000)) = false := by
          rw [← Bool.not_eq_true]
          exact fun h => hR (dur_all.1 h)
        rw [this]
        exact M.o_t rfl (M.o_pure ⟨fun h => absurd h0 h, fun _ h => absurd hl h, fun _ _ _ => rfl, fun _ _ h => absurd h hR⟩)
  · exact M.o_t (bne_iff_ne.2 h0) (M.o_pure ⟨fun _ => rfl, fun h => absurd h h0, fun h => absurd h h0, fun h => absurd h h0⟩)
end Go.Proofs.Ytcgalcbkkijkhaa
namespace Go.Proofs.Ytcgalcbkkijkhaa
open Go Go.Nm
variable {l : List Pk} {A T : Int}
theorem copy_int {c : List Int} (h : c.length <= 1000000) : (m_nilometerkit_Copy_int c).Ends c := M.i_grd (decide_eq_true (by simp only [List.length_nil]; omega)) M.i_pure
/-- Dues that were reckoned prove the greatest worth. -/
theorem du_prv (h : Pk.Asked l A T) {d : List Int} (hl : d.length = l.length) (hD : Pk.Du l.length (Pk.kk l A) (Pk.Sf (Pk.kk l A) (vP l T)) l.length (fun k => d.getD k 0)) : DuR d /\ Prv l A T d /\ Pk.sm (fun k => d.getD k 0) 0 l.length = mxP l A T := by
  have F := Pk.fl h.ok.up h.ap.1
  have hS := Pk.sf_is F (vP l T)
  refine ⟨fun i hi => ⟨hD.nn F hS (by omega), hD.most F hS (c := 2000) (by decide) (fun k hk => ?_) (by omega)⟩, fun i hi => hD.proves F hS hi, hD.sum F⟩
  have h1 := h.ok.st k hk
  have h2 := h.th
  show Pk.stAt l k - T <= 2000
  omega
end Go.Proofs.Ytcgalcbkkijkhaa
namespace Go.Nm
theorem SOk.zero : SOk 0 0 0 := ⟨Int.le_refl _, Int.le_refl _, Int.le_refl _, by decide⟩
namespace Pk
theorem chk_of {l : List Pk} (h : Ok l) : chkP l = 0 := by
  unfold chkP
  rw [if_neg (by have := h.few; omega)]
  refine fe_all.2 fun i hi => ?_
  have h1 := h.day i hi
  have h2 := h.st i hi
  unfold dayAt at h1
  unfold stAt at h2
  unfold errP
  rw [if_neg, if_neg]
  · rintro ⟨h0, h3⟩
    have h4 : (l.getD (i - 1) default).day < (l.getD i default).day := h.up (i - 1) i (by omega) hi
    omega
  · unfold pkB
    rw [decide_eq_true h1.1, decide_eq_true h1.2, decide_eq_true h2.1, decide_eq_true h2.2]
    simp
theorem ask_of {l : List Pk} {A T : Int} (h : Asked l A T) : askP l A T = 0 := by
  unfold askP
  rw [chk_of h.ok, if_neg (by simp), if_pos ⟨h.ap, h.th⟩]
/-- No choice is worth more than dues that prove something. -/
theorem wS_le {l : List Pk} {A T : Int} (h : Asked l A T) {d : Nat -> Int} (d0 : ∀ i, i < l.length -> 0 <= d i) (hd : ∀ i, i < l.length -> stAt l i - T <= sm d i (nx l A i - i)) {c : List Int} (hR : Ris l.length c) (hG : Good l A T c) : wS l T c c.length <= sm d 0 l.length := by
  have F := fl h.ok.up h.ap.1
  have split : ∀ a b : Nat, a <= b -> b <= l.length -> sm d 0 a <= sm d 0 b := by
    intro a b hab hb
    have h1 := sm_range d hab
    have h2 : 0 <= sm d a (b - a) := sm_nn fun i _ hi => d0 i (by omega)
    omega
  have key : ∀ k : Nat, k < c.length -> wS l T c (k + 1) <= sm d 0 (nx l A (cA c k)) := by
    intro k
    induction k with
    | zero =>
      intro hk
      have hc := hR.at_ hk
      have l1 := F.lt _ hc
      have l2 := F.le _ hc
      have h1 := hd _ hc
      have h2 := sm_range d (Nat.le_of_lt l1)
      have h3 := split 0 (cA c 0) (Nat.zero_le _) (by omega)
      have h4 : sm d 0 0 = 0 := rfl
      show wS l T c 0 + (stAt l (cA c 0) - T) <= _
      have h5 : wS l T c 0 = 0 := rfl
      omega
    | succ k ih =>
      intro hk
      have i1 := ih (by omega)
      have hc := hR.at_ hk
      have hc0 := hR.at_ (k := k) (by omega)
      have l1 := F.lt _ hc
      have l2 := F.le _ hc
      have h1 := hd _ hc
      have h2 := sm_range d (Nat.le_of_lt l1)
      have g := (hG (k + 1) hk).2 (by omega)
      rw [Nat.add_sub_cancel] at g
      have g2 : nx l A (cA c k) <= cA c (k + 1) := by
        refine Nat.le_of_not_lt fun hn => ?_
        have : dayAt l (cA c (k + 1)) < dayAt l (cA c k) + A := (fst_lt h.ok.up hc).1 hn
        omega
      have h3 := split _ _ g2 (Nat.le_of_lt hc)
      show wS l T c (k + 1) + (stAt l (cA c (k + 1)) - T) <= _
      omega
  rcases Nat.eq_zero_or_pos c.length with e | e
  · rw [e]
    have := split 0 l.length (Nat.zero_le _) (Nat.le_refl _)
    exact this
  · obtain ⟨m, hm⟩ : ∃ m, c.length = m + 1 := ⟨c.length - 1, by omega⟩
    have h1 := key m (by omega)
    have h2 := split _ _ (F.le _ (hR.at_ (k := m) (by omega))) (Nat.le_refl _)
    rw [hm]
    omega
theorem Good.less {l : List Pk} {A A' T T' : Int} {c : List Int} (h : Good l A' T' c) (hA : A <= A') (hT : T <= T') : Good l A T c := fun k hk => by
  have := h k hk
  exact ⟨by omega, fun h0 => by have := this.2 h0; omega⟩
theorem wS_less {l : List Pk} {T T' : Int} {c : List Int} (hT : T <= T') : ∀ k : Nat, wS l T' c k <= wS l T c k
  | 0 => Int.le_refl _
  | k + 1 => by
    have := wS_less (l := l) (c := c) hT k
    unfold wS
    omega
end Pk
end Go.Nm
namespace Go.Proofs.Ytcgalcbkkijkhaa
open Go Go.Nm
variable {l : List Pk} {A T : Int}
theorem pick_num {v n : Int} (h : 1 <= n /\ n <= 1000000) : (m_nilometerkit_Pick v n).Out (fun r => 0 <= r /\ r < n) := by
  unfold m_nilometerkit_Pick
  have h1 : Int.tmod v n < n := Int.tmod_lt_of_pos v (by omega)
  have h2 : -n < Int.tmod v n := by
    have := Int.tmod_lt_of_pos (-v) (show 0 < n by omega)
    rw [Int.neg_tmod] at this
    omega
  refine M.o_f (decide_eq_false (by omega)) (M.o_grdD (by omega) (M.o_if (fun hb => ?_) (fun hb => ?_)))
  · have := of_decide_eq_true hb
    exact M.o_grd (gA2 (by omega) (by omega)) (M.o_pure (by omega))
  · have := of_decide_eq_false hb
    exact M.o_pure (by omega)
/-- The greatest worth is that of a choice, and no choice has more. -/
theorem mx_le (h : Pk.Asked l A T) {c : List Int} (hR : Pk.Ris l.length c) (hG : Pk.Good l A T c) : Pk.wS l T c c.length <= mxP l A T := by
  have F := Pk.fl h.ok.up h.ap.1
  have hS := Pk.sf_is F (vP l T)
  obtain ⟨y, _, hy⟩ := dues_out l A T
  obtain ⟨_, f2, f3⟩ := hy.ok (Pk.ask_of h)
  obtain ⟨dr, dp, ds⟩ := du_prv h f2 f3
  rw [← ds]
  exact Pk.wS_le h (fun i hi => (dr i (by omega)).1) dp hR hG
theorem prv_ge (h : Pk.Asked l A T) {d : List Int} (hl : d.length = l.length) (hd : DuR d) (hp : Prv l A T d) : mxP l A T <= Pk.sm (fun k => d.getD k 0) 0 l.length := by
  obtain ⟨y, _, hy⟩ := pick_out l A T
  obtain ⟨_, g2, g3, g4, _⟩ := hy.ok (Pk.ask_of h)
  rw [← g4]
  exact Pk.wS_le h (fun i hi => (hd i (by omega)).1) hp g2 g3
theorem own_peaks {b : List UInt8} {c u x n : Int} (hk : SOk c u x) (hc : c <= 1000) (hn : 0 <= n /\ n <= 29) : (M.iter (m_nilometerlaw10_OftenOwn_b0 b) (u, x, 0, n, [])).Out (fun y => Pk.Ok y.2.1 /\ y.2.1.length <= 29 /\ SOk (c + 100) y.2.2.1 y.2.2.2) := by
  obtain ⟨n, rfl⟩ := Int.eq_ofNat_of_zero_le hn.1
  refine M.o_iter (fun m (s : Int × Int × Int × Int × List Pk) => (m : Int) = s.2.2.2.1 /\ SOk (c + 2 * (s.2.2.2.2.length : Int)) s.1 s.2.1 /\ (s.2.2.2.2.length : Int) + s.2.2.2.1 <= 29 /\ 0 <= s.2.2.1 /\ s.2.2.1 <= 12 * (s.2.2.2.2.length : Int) ∧
    (∀ i, i < s.2.2.2.2.length -> (0 <= Pk.dayAt s.2.2.2.2 i /\ Pk.dayAt s.2.2.2.2 i <= s.2.2.1) /\ (0 <= Pk.stAt s.2.2.2.2 i /\ Pk.stAt s.2.2.2.2 i <= 499)) /\ Pk.Up s.2.2.2.2) ?_ n _ ⟨rfl, by simpa using hk, by simp; omega, Int.le_refl _, by simp, fun i hi => by simp at hi, fun i j _ hj => by simp at hj⟩
  rintro m ⟨s1, s2, day, n', q⟩ ⟨e, hS, hl, hd0, hd1, hq, hup⟩
  dsimp only at e hS hl hd0 hd1 hq hup
  simp only [m_nilometerlaw10_OftenOwn_b0]
  refine M.o_if (fun hb => ?_) (fun hb => ?_)
  · have hb := of_decide_eq_true hb
    refine M.o_bind (within_out hS (by omega) (by omega) (by omega) (by omega)) ?_
    rintro ⟨r4, u1, x1⟩ ⟨k1, g0, g1⟩
    dsimp only at k1 g0 g1 ⊢
    refine M.o_grd (gA2 (by omega) (by omega)) (M.o_bind (next_out k1 (by omega) (by omega)) ?_)
    rintro ⟨r5, u2, x2⟩ ⟨k2, g2, _⟩
    have g2 := g2 (by omega)
    dsimp only at k2 g2 ⊢
    refine M.o_grdD (by simp only [List.length_cons, List.length_nil]; omega) (M.o_grd (gA2 (by omega) (by omega)) (M.o_pure ⟨m - 1, by omega, by dsimp only; omega, ?_, ?_, ?_, ?_, fun i hi => ?_, ?_⟩))
    · dsimp only
      rw [List.length_append, List.length_singleton]
      exact k2.mono (by omega)
    · dsimp only
      rw [List.length_append, List.length_singleton]
      omega
    · dsimp only; omega
    · dsimp only
      rw [List.length_append, List.length_singleton]
      omega
    · dsimp only at hi ⊢
      rw [List.length_append, List.length_singleton] at hi
      unfold Pk.dayAt Pk.stAt
      by_cases e2 : i < q.length
      · rw [show (q ++ [(⟨day + r4, r5⟩ : Pk)]).getD i default = q.getD i default by rw [List.getD_eq_getElem?_getD, List.getElem?_append_left e2, ← List.getD_eq_getElem?_getD]]
        have := hq i e2
        unfold Pk.dayAt Pk.stAt at this
        omega
      · obtain rfl : i = q.length := by omega
        rw [show (q ++ [(⟨day + r4, r5⟩ : Pk)]).getD q.length default = ⟨day + r4, r5⟩ by rw [List.getD_eq_getElem?_getD, List.getElem?_append_right (Nat.le_refl _), Nat.sub_self]; rfl]
        dsimp only
        omega
    · dsimp only
      intro i j hij hj
      rw [List.length_append, List.length_singleton] at hj
      unfold Pk.dayAt
      rw [show (q ++ [(⟨day + r4, r5⟩ : Pk)]).getD i default = q.getD i default by rw [List.getD_eq_getElem?_getD, List.getElem?_append_left (by omega), ← List.getD_eq_getElem?_getD]]
      by_cases e2 : j < q.length
      · rw [show (q ++ [(⟨day + r4, r5⟩ : Pk)]).getD j default = q.getD j default by rw [List.getD_eq_getElem?_getD, List.getElem?_append_left e2, ← List.getD_eq_getElem?_getD]]
        exact hup i j hij e2
      · obtain rfl : j = q.length := by omega
        rw [show (q ++ [(⟨day + r4, r5⟩ : Pk)]).getD q.length default = ⟨day + r4, r5⟩ by rw [List.getD_eq_getElem?_getD, List.getElem?_append_right (Nat.le_refl _), Nat.sub_self]; rfl]
        have := (hq i (by omega)).1
        unfold Pk.dayAt at this
        dsimp only
        omega
  · have h29 : q.length <= 29 := by omega
    have hyr : Pk.Ok q := ⟨by omega, fun i hi => by have := (hq i hi).1; omega, fun i hi => by have := (hq i hi).2; omega, hup⟩
    exact M.o_pure ⟨hyr, h29, hS.mono (by omega)⟩
/-- A list of numbers that grow. -/
theorem own_mine {b : List UInt8} {c u x r : Int} (hk : SOk c u x) (hc : c <= 100000) (hl : l.length <= 29) (hr : 0 <= r) : (M.iter (m_nilometerlaw10_OftenOwn_b3 b l) (u, x, r, [])).Out (fun y => Pk.Ris l.length y.2.2.2 /\ SOk (c + 30) y.1 y.2.1) := by
  refine M.o_iter (fun m (s : Int × Int × Int × List Int) => 0 <= s.2.2.1 /\ m = Int.toNat (l.length - s.2.2.1) /\ SOk (c + (s.2.2.2.length : Int)) s.1 s.2.1 /\ Pk.Ris l.length s.2.2.2 /\ (0 < s.2.2.2.length -> (Pk.cA s.2.2.2 (s.2.2.2.length - 1) : Int) < s.2.2.1)) ?_ _ _ ⟨hr, rfl, by simpa using hk, fun k hk => by simp at hk, fun h => by simp at h⟩
  rintro m ⟨s1, s2, i, q⟩ ⟨h0, rfl, hS, hR, hlast⟩
  dsimp only at h0 hS hR hlast
  have hfew := hR.few
  simp only [m_nilometerlaw10_OftenOwn_b3]
  refine M.o_if (fun hb => ?_) (fun hb => ?_)
  · have hb := of_decide_eq_true hb
    obtain ⟨i, rfl⟩ := Int.eq_ofNat_of_zero_le h0
    refine M.o_grdD (by simp only [List.length_cons, List.length_nil]; omega) (M.o_bind (next_out hS (by omega) (by omega)) ?_)
    rintro ⟨r9, u1, x1⟩ ⟨k1, g1, _⟩
    have g1 := g1 (by omega)
    dsimp only at k1 g1 ⊢
    refine M.o_grd (gA2 (by omega) (by omega)) (M.o_grd (gA2 (by omega) (by omega)) (M.o_pure ⟨_, ?_, by dsimp only; omega, rfl, ?_, hR.app (by omega) (fun h => by have := hlast h; omega), fun _ => ?_⟩))
    · dsimp only; omega
    · dsimp only
      rw [List.length_append, List.length_singleton]
      exact k1.mono (by omega)
    · dsimp only
      rw [List.length_append, List.length_singleton, Nat.add_sub_cancel, Pk.cA_app (Nat.le_refl _), if_neg (by omega)]
      omega
  · exact M.o_pure ⟨hR, hS.mono (by omega)⟩
theorem own_cut (d : List Int) (hl : d.length <= 1000) (h0 : ∀ i, i < d.length -> 0 <= d.getD i 0) : (M.iter (m_nilometerlaw10_OftenOwn_b4) (d, 0)).Out (fun y => y.2.length = d.length /\ DuR y.2) := by
  refine M.o_for d.length (fun i (s : List Int × Nat) => s.2 = i /\ s.1.length = d.length /\ (∀ k, k < d.length -> 0 <= s.1.getD k 0) /\ ∀ k, k < i -> s.1.getD k 0 <= 2000) ?_ ?_ ⟨rfl, rfl, h0, fun k hk => by omega⟩
  · rintro i ⟨q, s⟩ hi ⟨e1, e2, e3, e4⟩
    dsimp only at e1 e2 e3 e4
    subst e1
    simp only [m_nilometerlaw10_OftenOwn_b4]
    refine M.o_t (decide_eq_true (by omega)) (M.o_grdD (by omega) (M.o_pure ⟨rfl, by simpa using e2, fun k hk => ?_, fun k hk => ?_⟩))
    · rw [gset _ _ _ _ _ (by omega)]
      have := e3 k hk
      have := e3 s hi
      split <;> omega
    · dsimp only
      rw [gset _ _ _ _ _ (by omega)]
      split
      · omega
      · exact e4 k (by omega)
  · rintro ⟨q, s⟩ ⟨e1, e2, e3, e4⟩
    dsimp only at e1 e2 e3 e4
    subst e1
    simp only [m_nilometerlaw10_OftenOwn_b4]
    exact M.o_f (decide_eq_false (by omega)) (M.o_pure ⟨e2, fun k hk => ⟨e3 k (by dsimp only at hk; omega), e4 k (by dsimp only at hk; omega)⟩⟩)
theorem own_tries {b : List UInt8} {r6 r7 : Int} {d : List Int} {c u x : Int} (hk : SOk c u x) (hc : c <= 1000) (h : Pk.Asked l (1 + r6) r7) (hl : l.length <= 29) (hdl : d.length = l.length) (hdr : DuR d) :
    (M.iter (m_nilometerlaw10_OftenOwn_b5 b l r6 r7 (mxP l (1 + r6) r7) d) (u, x, 0)).Out (fun y => match y with | .inl _ => False | .inr s => SOk (c + 1000) s.1 s.2) := by
  have h0 := Pk.ask_of h
  have hmb := sf_bound h l.length (Nat.le_refl _)
  have hm : 0 <= mxP l (1 + r6) r7 /\ mxP l (1 + r6) r7 <= 2000 * (l.length : Int) := hmb
  refine M.o_for 5 (fun i (s : Int × Int × Nat) => s.2.2 = i /\ SOk (c + 100 * (i : Int)) s.1 s.2.1) ?_ ?_ ⟨rfl, by simpa using hk⟩
  · rintro i ⟨s9, s10, k⟩ hi ⟨e, hS⟩
    dsimp only at e hS
    subst e
    simp only [m_nilometerlaw10_OftenOwn_b5]
    refine M.o_t (decide_eq_true (by omega)) (M.o_bind (next_out hS (by omega) (by omega)) ?_)
    rintro ⟨r8, u1, x1⟩ ⟨k1, g1, _⟩
    have g1 := g1 (by omega)
    dsimp only at k1 g1 ⊢
    refine M.o_bind (own_mine k1 (by omega) hl g1.1) ?_
    rintro ⟨s7, s8, l5, l6⟩ ⟨hR, k2⟩
    dsimp only at hR k2 ⊢
    obtain ⟨⟨y1, y2⟩, w1, wE⟩ := worth_out l (1 + r6) r7 l6
    refine M.o_bindE w1 ?_
    dsimp only
    refine M.o_f ?_ ?_
    · by_cases hG : Pk.Good l (1 + r6) r7 l6
      · have := wE.ok h0 hR hG
        simp only [Prod.mk.injEq] at this
        obtain ⟨rfl, rfl⟩ := this
        have := mx_le h hR hG
        rw [decide_eq_false (by omega)]
        simp
      · have := wE.bad h0 hR hG
        simp only [Prod.mk.injEq] at this
        obtain ⟨rfl, rfl⟩ := this
        simp
    · refine M.o_if (fun he => M.o_pure (k2.mono (by omega))) (fun he => ?_)
      have hpos : 0 < l.length := by
        rcases Nat.eq_zero_or_pos l.length with e | e
        · rw [e] at he; cases he
        · exact e
      refine M.o_bindE (copy_int (by omega)) (M.o_bind (next_out k2 (by omega) (by omega)) ?_)
      rintro ⟨r11, u3, x3⟩ ⟨k3, g3, _⟩
      have g3 := g3 (by omega)
      dsimp only at k3 g3 ⊢
      refine M.o_grd (gA2 (by omega) (by omega)) (M.o_bind (next_out k3 (by omega) (by omega)) ?_)
      rintro ⟨r19, u4, x4⟩ ⟨k4, g4, _⟩
      have g4 := g4 (by omega)
      dsimp only at k4 g4 ⊢
      have hb1 := dur_out hdr (Int.toNat r11)
      refine M.o_grd (gA2 (by omega) (by omega)) ?_
      have hl1 : (d.set (Int.toNat r11) (max 0 (d.getD (Int.toNat r11) 0 - r19))).length = d.length := List.length_set
      have hv1 : ∀ k, 0 <= (d.set (Int.toNat r11) (max 0 (d.getD (Int.toNat r11) 0 - r19))).getD k 0 /\ (d.set (Int.toNat r11) (max 0 (d.getD (Int.toNat r11) 0 - r19))).getD k 0 <= 2000 := fun k => by
        rw [gset _ _ _ _ _ (by omega)]
        have := dur_out hdr k
        split <;> omega
      generalize d.set (Int.toNat r11) (max 0 (d.getD (Int.toNat r11) 0 - r19)) = d1 at *
      refine M.o_bind (next_out k4 (by omega) (by omega)) ?_
      rintro ⟨r20, u5, x5⟩ ⟨k5, g5, _⟩
      have g5 := g5 (by omega)
      dsimp only at k5 g5 ⊢
      refine M.o_grd (gA2 (by omega) (by omega)) (M.o_bind (next_out k5 (by omega) (by omega)) ?_)
      rintro ⟨r21, u6, x6⟩ ⟨k6, g6, _⟩
      have g6 := g6 (by omega)
      have hb2 := hv1 (Int.toNat r20)
      dsimp only at k6 g6 ⊢
      refine M.o_grd (gA2 (by omega) (by omega)) (M.o_bind (own_cut _ (by rw [List.length_set]; omega) (fun k _ => by
        rw [gset _ _ _ _ _ (by omega)]
        have := hv1 k
        split <;> omega)) ?_)
      rintro ⟨l8, l9⟩ ⟨hl9, hR9⟩
      dsimp only at hl9 hR9 ⊢
      rw [List.length_set] at hl9
      refine M.o_bind (next_out k6 (by omega) (by omega)) ?_
      rintro ⟨r24, u7, x7⟩ ⟨k7, g7, _⟩
      have g7 := g7 (by omega)
      dsimp only at k7 g7 ⊢
      obtain ⟨⟨z1, z2⟩, w2, pE⟩ := proves_out l (1 + r6) r7 (mxP l (1 + r6) r7 - r24) l9 (by omega)
      obtain ⟨q1, q2⟩ := pE.ok h0 (by omega) hR9
      dsimp only at q1 q2
      subst q1
      refine M.o_grd (gA2 (by omega) (by omega)) (M.o_bindE w2 (M.o_f ?_ (M.o_pure ⟨rfl, k7.mono (by omega)⟩)))
      cases z1 with
      | false => rfl
      | true =>
        obtain ⟨p1, p2⟩ := q2.1 rfl
        have := prv_ge h (by omega) hR9 p1
        rw [decide_eq_false (by omega)]
        rfl
  · rintro ⟨s9, s10, k⟩ ⟨e, hS⟩
    dsimp only at e hS
    subst e
    simp only [m_nilometerlaw10_OftenOwn_b5]
    exact M.o_f rfl (M.o_pure (hS.mono (by omega)))
theorem oftenOwn_ends (p q : List UInt8) (a b : Int) : (m_nilometerlaw10_OftenOwn p q a b).Ends true := by
  have out : (m_nilometerlaw10_OftenOwn p q a b).Out (fun r => r = true) := by
    unfold m_nilometerlaw10_OftenOwn
    have hnew : ∀ p, (m_nilometerkit_New p).Ends (0, 0) := fun p => M.i_pure
    refine M.o_bindE (hnew p) (M.o_bindE (hnew q) (M.o_bind (next_out SOk.zero (by omega) (by omega)) ?_))
    rintro ⟨r3, u1, x1⟩ ⟨k1, g1, _⟩
    have g1 := g1 (by omega)
    dsimp only at k1 g1 ⊢
    refine M.o_bind (own_peaks k1 (by omega) (by omega)) ?_
    rintro ⟨l2, l, s3, s4⟩ ⟨hO, hl, k2⟩
    dsimp only at hO hl k2 ⊢
    refine M.o_bind (pick_num (by omega)) (fun r6 h6 => M.o_grd (gA2 (by omega) (by omega)) (M.o_bind (pick_num (by omega)) fun r7 h7 => ?_))
    have h : Pk.Asked l (1 + r6) r7 := ⟨hO, by omega, by omega⟩
    have h0 := Pk.ask_of h
    have hmb : 0 <= mxP l (1 + r6) r7 /\ mxP l (1 + r6) r7 <= 2000 * (l.length : Int) := sf_bound h l.length (Nat.le_refl _)
    obtain ⟨⟨c1, m1, e1⟩, w1, pE⟩ := pick_out l (1 + r6) r7
    obtain ⟨p1, p2, p3, p4, p5⟩ := pE.ok h0
    dsimp only at p1 p2 p3 p4 p5
    subst p1 p5
    obtain ⟨⟨d, e2⟩, w2, dE⟩ := dues_out l (1 + r6) r7
    obtain ⟨q1, q2, q3⟩ := dE.ok h0
    dsimp only at q1 q2 q3
    subst q1
    obtain ⟨dr, dp, ds⟩ := du_prv h q2 q3
    obtain ⟨y3, w3, wE⟩ := worth_out l (1 + r6) r7 c1
    have := wE.ok h0 p2 p3
    subst this
    refine M.o_bindE w1 (M.o_bindE w2 (M.o_bindE w3 ?_))
    dsimp only
    refine M.o_f (by rw [p4, q2, decide_eq_false (by omega)]; simp) ?_
    obtain ⟨⟨z1, z2⟩, w4, pE4⟩ := proves_out l (1 + r6) r7 (mxP l (1 + r6) r7) d (by omega)
    obtain ⟨a1, a2⟩ := pE4.ok h0 q2 dr
    dsimp only at a1 a2
    subst a1
    have a3 : z1 = true := a2.2 ⟨dp, by rw [ds]; exact Int.le_refl _⟩
    subst a3
    obtain ⟨⟨z3, z4⟩, w5, pE5⟩ := proves_out l (1 + r6) r7 (mxP l (1 + r6) r7 - 1) d (by omega)
    obtain ⟨b1, b2⟩ := pE5.ok h0 q2 dr
    dsimp only at b1 b2
    subst b1
    have b3 : z3 = false := by
      cases z3 with
      | false => rfl
      | true => have := (b2.1 rfl).2; omega
    subst b3
    refine M.o_bindE w4 (M.o_grd (gA2 (by omega) (by omega)) (M.o_bindE w5 (M.o_f rfl (M.o_bind (own_tries SOk.zero (by omega) h hl q2 dr) ?_))))
    rintro (⟨_, _⟩ | ⟨s13, s14⟩) hS
    · exact hS.elim
    · have hS : SOk (0 + 1000) s13 s14 := hS
      dsimp only
      refine M.o_bind (next_out hS (by omega) (by omega)) ?_
      rintro ⟨r25, u2, x2⟩ ⟨k3, g3, _⟩
      have g3 := g3 (by omega)
      dsimp only at k3 g3 ⊢
      have hA : Pk.Asked l (min 60 ((1 + r6) + r25)) r7 := ⟨hO, by omega, by omega⟩
      obtain ⟨⟨c2, m2, e3⟩, w6, pE2⟩ := pick_out l (min 60 ((1 + r6) + r25)) r7
      obtain ⟨t1, t2, t3, t4, t5⟩ := pE2.ok (Pk.ask_of hA)
      dsimp only at t1 t2 t3 t4 t5
      subst t1
      have v1 := mx_le h t2 (t3.less (by omega) (Int.le_refl _))
      refine M.o_grd (gA2 (by omega) (by omega)) (M.o_bindE w6 (M.o_bind (next_out k3 (by omega) (by omega)) ?_))
      rintro ⟨r27, u3, x3⟩ ⟨k4, g4, _⟩
      have g4 := g4 (by omega)
      dsimp only at k4 g4 ⊢
      have hB : Pk.Asked l (1 + r6) (r7 + r27) := ⟨hO, by omega, by omega⟩
      obtain ⟨⟨c3, m3, e4⟩, w7, pE3⟩ := pick_out l (1 + r6) (r7 + r27)
      obtain ⟨n1, n2, n3, n4, n5⟩ := pE3.ok (Pk.ask_of hB)
      dsimp only at n1 n2 n3 n4 n5
      subst n1
      have v2 := mx_le h n2 (n3.less (Int.le_refl _) (show r7 <= r7 + r27 by omega))
      have v3 := Pk.wS_less (l := l) (c := c3) (show r7 <= r7 + r27 by omega) c3.length
      refine M.o_grd (gA2 (by omega) (by omega)) (M.o_bindE w7 ?_)
      have e5 : ((((0 : Int) == 0) && ((0 : Int) == 0)) && decide (m2 <= mxP l (1 + r6) r7) && decide (m3 <= mxP l (1 + r6) r7)) = true := by
        rw [decide_eq_true (by omega), decide_eq_true (by omega)]
        rfl
      dsimp only
      rw [e5]
      exact M.o_bindE (M.i_opt (fun _ => awake_ends) (fun h => by cases h)) (M.o_pure rfl)
  obtain ⟨r, h, rfl⟩ := out
  exact h
end Go.Proofs.Ytcgalcbkkijkhaa
