/- Part 7 of the texts on which the proof rests. Conditions: none. -/
import Derived.Test.YtcgalcbkkijkhaaZB6
set_option linter.unusedVariables false
set_option linter.unusedSimpArgs false
set_option linter.unusedSectionVars false
namespace Go.Nm
theorem lookM_map {κ ν : Type} [DecidableEq κ] (g : κ -> ν -> ν) : ∀ (m : List (κ × ν)) (k : κ), lookM (m.map fun p => (p.1, g p.1 p.2)) k = (lookM m k).map (g k)
  | [], k => rfl
  | p :: m, k => by
    rw [List.map_cons]
    unfold lookM
    by_cases h : p.1 = k
    · rw [if_pos h, if_pos h, h]; rfl
    · rw [if_neg h, if_neg h, lookM_map g m k]
namespace Bk
/-- The first year that can have none. -/
def First (ys : List Yr) (os : List Old10) (f l y : Int) : Prop := f <= y /\ y <= l /\ (kn ys os y).hi < (kn ys os y).lo /\ ∀ z, f <= z -> z < y -> (kn ys os z).lo <= (kn ys os z).hi
def Fine (ys : List Yr) (os : List Old10) (f l : Int) : Prop := ∀ z, f <= z -> z <= l -> (kn ys os z).lo <= (kn ys os z).hi
theorem First.uniq {ys : List Yr} {os : List Old10} {f l y z : Int} (h : First ys os f l y) (k : First ys os f l z) : y = z := by
  obtain ⟨h1, h2, h3, h4⟩ := h
  obtain ⟨k1, k2, k3, k4⟩ := k
  rcases Int.lt_trichotomy y z with e | e | e
  · have := k4 y h1 e; omega
  · exact e
  · have := h4 z k1 e; omega
theorem First.bad {ys : List Yr} {os : List Old10} {f l y : Int} (h : First ys os f l y) (k : Fine ys os f l) : False := by
  obtain ⟨h1, h2, h3, h4⟩ := h
  have := k y h1 h2
  omega
theorem rec_take {ys : List Yr} (hu : ys.Pairwise fun a b => a.year < b.year) {s : Nat} (hs : s < ys.length) (y : Int) : rec (ys.take (s + 1)) y = if y = (ys.getD s default).year then ⟨(ys.getD s default).lo, (ys.getD s default).hi⟩ else rec (ys.take s) y := by
  have e : ys.getD s default = ys[s] := by rw [List.getD_eq_getElem?_getD, List.getElem?_eq_getElem hs, Option.getD_some]
  rw [e]
  unfold rec
  rw [← List.take_append_getElem hs, List.find?_append]
  by_cases hy : y = ys[s].year
  · rw [if_pos hy]
    have : (ys.take s).find? (fun r => r.year == y) = none := by
      rw [List.find?_eq_none]
      intro r hr
      obtain ⟨i, hi, rfl⟩ := List.getElem_of_mem hr
      rw [List.length_take] at hi
      rw [List.getElem_take]
      have := List.pairwise_iff_getElem.1 hu i s (by omega) hs (by omega)
      rw [beq_iff_eq]
      omega
    rw [this]
    simp [hy]
  · rw [if_neg hy]
    have : (ys[s].year == y) = false := by rw [beq_eq_false_iff_ne]; exact fun h => hy h.symm
    simp only [List.find?_cons, this, List.find?_nil, Option.or_none]
end Bk
end Go.Nm
namespace Go.Proofs.Ytcgalcbkkijkhaa
open Go Go.Nm
variable {ys : List Yr} {os : List Old10} {f l : Int}
theorem index_in (s : List Int) (v : Int) : (m_slices_Index_int s v).Out (fun r => decide (0 <= r) = s.contains v) := by
  unfold m_slices_Index_int
  refine M.o_bind (P := fun y => match y with | .inl i => 0 <= i /\ s.contains v = true | .inr (_ : Unit) => s.contains v = false) ?_ ?_
  · refine M.o_scan s.length (fun k => s.getD k 0 ≠ v) ?_ ?_
    · intro k hk hp
      simp only [m_slices_Index_int_b0]
      have e : s.getD k 0 = s[k] := by rw [List.getD_eq_getElem?_getD, List.getElem?_eq_getElem hk, Option.getD_some]
      refine M.o_t (decide_eq_true (by omega)) (M.o_grdD (by omega) (M.o_if (fun hb => ?_) (fun hb => ?_)))
      · refine M.o_pure ⟨by omega, ?_⟩
        rw [List.contains_iff_mem, (beq_iff_eq.1 hb), e]
        exact List.getElem_mem hk
      · exact M.o_pure ⟨rfl, fun h => (beq_eq_false_iff_ne.1 hb) h.symm⟩
    · intro hp
      simp only [m_slices_Index_int_b0]
      refine M.o_f (by simp) (M.o_pure ?_)
      rw [← Bool.not_eq_true, List.contains_iff_mem]
      intro hx
      obtain ⟨i, hi, e⟩ := List.getElem_of_mem hx
      have := hp i hi
      rw [List.getD_eq_getElem?_getD, List.getElem?_eq_getElem hi, Option.getD_some] at this
      exact this e
  · intro y hy
    cases y with
    | inl i => exact M.o_pure (by rw [hy.2]; exact decide_eq_true hy.1)
    | inr u => exact M.o_pure (by rw [hy]; decide)
theorem contains_ends (s : List Int) (v : Int) : (m_slices_Contains_int s v).Ends (s.contains v) := by
  unfold m_slices_Contains_int
  obtain ⟨r, h1, h2⟩ := index_in s v
  exact M.i_bind h1 (by rw [h2]; exact M.i_pure)
theorem told_ends (h : Bk.OkO f l os) (ky : Int) (vl : Span) : (m_often_opened_b3 os ky vl).Ends (os.foldl (Bk.told ky) vl) := by
  refine M.Out.ends ?_
  unfold m_often_opened_b3
  refine M.o_bind (P := fun y => (⟨y.1, y.2⟩ : Span) = os.foldl (Bk.told ky) vl) ?_ (fun y e => M.o_pure e)
  refine M.o_for os.length (fun i (s : Nat × Int × Int) => s.1 = i /\ (⟨s.2.1, s.2.2⟩ : Span) = (os.take i).foldl (Bk.told ky) vl) ?_ ?_ ⟨rfl, rfl⟩
  · rintro i ⟨s, a, b⟩ hi ⟨e1, e2⟩
    dsimp only at e1 e2
    subst e1
    simp only [m_often_opened_b2]
    have e : os.getD s default = os[s] := by rw [List.getD_eq_getElem?_getD, List.getElem?_eq_getElem hi, Option.getD_some]
    have ho := h.in_ os[s] (List.getElem_mem hi)
    have et : (os.take (s + 1)).foldl (Bk.told ky) vl = Bk.told ky ⟨a, b⟩ os[s] := by
      rw [← List.take_append_getElem hi, List.foldl_append, ← e2]; rfl
    rw [e]
    refine M.o_t (decide_eq_true (by omega)) (M.o_grdD (by omega) (M.o_bindE (in_ends _ _ _) (M.o_if (fun hb => ?_) (fun hb => ?_))))
    · rw [Bool.not_eq_true', Bool.and_eq_false_iff, decide_eq_false_iff_not, decide_eq_false_iff_not] at hb
      refine M.o_pure ⟨rfl, ?_⟩
      rw [et, Bk.told, if_neg (by omega)]
    · rw [Bool.not_eq_false', Bool.and_eq_true, decide_eq_true_eq, decide_eq_true_eq] at hb
      refine M.o_bindE (contains_ends _ _) (M.o_if (fun hc => ?_) (fun hc => ?_))
      · refine M.o_pure ⟨rfl, ?_⟩
        rw [et, Bk.told, if_pos hb, if_pos hc]
      · refine M.o_grd (gA2 (by omega) (by omega)) (M.o_pure ⟨rfl, ?_⟩)
        rw [et, Bk.told, if_pos hb, if_neg (by rw [hc]; simp)]
  · rintro ⟨s, a, b⟩ ⟨e1, e2⟩
    dsimp only at e1 e2
    subst e1
    simp only [m_often_opened_b2]
    rw [List.take_length] at e2
    exact M.o_f (by simp) (M.o_pure e2)
/-- What a book at work knows of its years. -/
def Knows (ys : List Yr) (os : List Old10) (f l : Int) (m : List (Int × Span)) : Prop := ∀ y, f <= y -> y <= l -> (lookM m y).getD default = Bk.kn ys os y
theorem opened_bad (hy : ys.length <= 1000000) (ho : os.length <= 1000000) (h : Bk.chkB ys os f l ≠ 0) : (m_often_opened ys os f l).Ends (.inl (Bk.chkB ys os f l)) := by
  unfold m_often_opened
  exact M.i_bind (check_ends ys os f l hy ho) (M.i_t (bne_iff_ne.2 h) M.i_pure)
theorem opened_ok (hy : ys.length <= 1000000) (ho : os.length <= 1000000) (h0 : Bk.chkB ys os f l = 0) : ∃ m, (m_often_opened ys os f l).Ends (.inr (f, l, m, 0)) /\ Knows ys os f l m := by
  have h := Bk.chk_ok h0
  have hf0 := h.f0
  have hfl := h.fl
  have hl3 := h.l3
  obtain ⟨m1, g1, k1⟩ : (M.iter (m_often_opened_b0 l) (([] : List (Int × Span)), f)).Out (fun m => ∀ y, f <= y -> y <= l -> lookM m y = some ⟨0, 2000⟩) := by
    refine M.o_for (Int.toNat (l + 1 - f)) (fun i (s : List (Int × Span) × Int) => s.2 = f + i /\ ∀ y, f <= y -> y < f + i -> lookM s.1 y = some ⟨0, 2000⟩) ?_ ?_ ⟨by simp, fun y h1 h2 => by simp at h2; omega⟩
    · rintro i ⟨m, y⟩ hi ⟨e1, e2⟩
      dsimp only at e1 e2
      subst e1
      simp only [m_often_opened_b0]
      refine M.o_t (decide_eq_true (by omega)) (M.o_grd (gA2 (by omega) (by omega)) (M.o_pure ⟨by dsimp only; omega, fun z h1 h2 => ?_⟩))
      rw [lookM_set]
      split
      · rfl
      · exact e2 z h1 (by omega)
    · rintro ⟨m, y⟩ ⟨e1, e2⟩
      dsimp only at e1 e2
      subst e1
      simp only [m_often_opened_b0]
      exact M.o_f (decide_eq_false (by omega)) (M.o_pure fun z h1 h2 => e2 z h1 (by omega))
  obtain ⟨m2, g2, k2⟩ : (M.iter (m_often_opened_b1 ys) (m1, 0)).Out (fun m => ∀ y, f <= y -> y <= l -> lookM m y = some (Bk.rec ys y)) := by
    refine M.o_for ys.length (fun i (s : List (Int × Span) × Nat) => s.2 = i /\ ∀ y, f <= y -> y <= l -> lookM s.1 y = some (Bk.rec (ys.take i) y)) ?_ ?_ ⟨rfl, k1⟩
    · rintro i ⟨m, s⟩ hi ⟨e1, e2⟩
      dsimp only at e1 e2
      subst e1
      simp only [m_often_opened_b1]
      have e : ys.getD s default = ys[s] := by rw [List.getD_eq_getElem?_getD, List.getElem?_eq_getElem hi, Option.getD_some]
      have hr := h.y.in_ ys[s] (List.getElem_mem hi)
      rw [← e] at hr
      have et := Bk.rec_take h.y.up hi
      refine M.o_t (decide_eq_true (by omega)) (M.o_grdD (by omega) (M.o_if (fun hb => ?_) (fun hb => ?_)))
      · refine M.o_pure ⟨rfl, fun y h1 h2 => ?_⟩
        rw [lookM_set, et]
        split
        · rfl
        · exact e2 y h1 h2
      · rw [Bool.not_eq_false', decide_eq_true_eq] at hb
        refine M.o_pure ⟨rfl, fun y h1 h2 => ?_⟩
        rw [et]
        split
        · rename_i hy'
          have k := e2 _ hr.1 hr.2.1
          rw [k] at hb
          rw [hy', k]
          have h5 : (ys.getD s default).lo = (Bk.rec (ys.take s) (ys.getD s default).year).lo := congrArg Yr.lo hb
          have h6 : (ys.getD s default).hi = (Bk.rec (ys.take s) (ys.getD s default).year).hi := congrArg Yr.hi hb
          refine congrArg some ?_
          rw [h5, h6]
        · exact e2 y h1 h2
    · rintro ⟨m, s⟩ ⟨e1, e2⟩
      dsimp only at e1 e2
      subst e1
      simp only [m_often_opened_b1]
      rw [List.take_length] at e2
      exact M.o_f (by simp) (M.o_pure e2)
  have g3 := M.mapL_ends (body := m_often_opened_b3 os) (g := fun ky vl => os.foldl (Bk.told ky) vl) (m := m2) (fun p _ => told_ends h.o p.1 p.2)
  refine ⟨m2.map fun p => (p.1, os.foldl (Bk.told p.1) p.2), ?_, fun y h1 h2 => ?_⟩
  · unfold m_often_opened
    refine M.i_bind (check_ends ys os f l hy ho) ?_
    rw [h0]
    exact M.i_f rfl (M.i_bind g1 (M.i_bind g2 (M.i_bind g3 M.i_pure)))
  · have e := lookM_map (fun ky vl => os.foldl (Bk.told ky) vl) m2 y
    rw [e, k2 y h1 h2]
    rfl
/-- A round over the years of a book at work. -/
theorem years_out {S X : Type} {bd : S -> Int × Span -> M (S ⊕ X)} {Q : S ⊕ X -> Prop} {m : List (Int × Span)} {a b c d : Int} {s0 : S} (hd : d <= 3000) (ha : 0 <= a) (hab : a <= b + 1) (hb : b <= d) (hc : c <= a) (hm : Knows ys os c d m) (J : Int -> S -> Prop) (h0 : J a s0)
    (hr : ∀ y s, a <= y -> y <= b -> J y s -> (bd s (y, Bk.kn ys os y)).Out (fun x => match x with | .inl s' => J (y + 1) s' | .inr x => Q (.inr x))) (hl : ∀ s, J (b + 1) s -> Q (.inl s)) (yw : List Yr) (ow : List Old10) (cw dw : Int) :
    (m_often_shelf_years_1 (M.yl bd) (.inl s0) a b yw ow cw dw m).Out Q := by
  unfold m_often_shelf_years_1
  refine M.o_bind (P := fun y => match y with | .inl t => Q t | .inr t => Q t) ?_ (fun y hy => by cases y with | inl t => exact M.o_pure hy | inr t => exact M.o_pure hy)
  refine M.o_for (Int.toNat (b + 1 - a)) (fun i (s : Int × (S ⊕ X)) => s.1 = a + i /\ ∃ s', s.2 = .inl s' /\ J (a + i) s') ?_ ?_ ⟨by simp, s0, rfl, by simpa using h0⟩
  · rintro i ⟨y, t⟩ hi ⟨e1, s', e2, hj⟩
    dsimp only at e1 e2
    subst e1 e2
    simp only [m_often_shelf_years_1_b0]
    rw [hm (a + i) (by omega) (by omega)]
    refine M.o_t (decide_eq_true (by omega)) ?_
    obtain ⟨x, g1, g2⟩ := hr (a + i) s' (by omega) (by omega) hj
    cases x with
    | inl s2 =>
      refine M.o_bindE (a := (true, .inl s2)) (M.i_bind g1 M.i_pure) (M.o_f rfl (M.o_grd (gA2 (by omega) (by omega)) (M.o_pure ⟨by dsimp only; omega, s2, rfl, ?_⟩)))
      dsimp only at g2
      rw [show a + ((i + 1 : Nat) : Int) = a + i + 1 by omega]
      exact g2
    | inr x2 => exact M.o_bindE (a := (false, .inr x2)) (M.i_bind g1 M.i_pure) (M.o_t rfl (M.o_pure g2))
  · rintro ⟨y, t⟩ ⟨e1, s', e2, hj⟩
    dsimp only at e1 e2
    subst e1 e2
    simp only [m_often_shelf_years_1_b0]
    refine M.o_f (decide_eq_false (by omega)) (M.o_pure ?_)
    refine hl s' ?_
    rwa [show a + (Int.toNat (b + 1 - a) : Int) = b + 1 by omega] at hj
theorem clash_out (h : Bk.Ok ys os f l) {m : List (Int × Span)} (hm : Knows ys os f l m) : (m_often_shelf_clash ys os f l m).Out (fun r => (r = (0, false) /\ Bk.Fine ys os f l) ∨ (r.2 = true /\ Bk.First ys os f l r.1)) := by
  have hf0 := h.f0
  have hfl := h.fl
  have hl3 := h.l3
  unfold m_often_shelf_clash m_often_shelf_years
  refine M.o_bindE M.i_pure (M.o_bind (P := fun x => match x with | .inl (_ : Unit) => Bk.Fine ys os f l | .inr y => Bk.First ys os f l y) ?_ ?_)
  · refine years_out hl3 hf0 (by omega) (Int.le_refl _) (Int.le_refl _) hm (fun y _ => ∀ z, f <= z -> z < y -> (Bk.kn ys os z).lo <= (Bk.kn ys os z).hi) (fun z h1 h2 => by omega) ?_ ?_ _ _ _ _
    · intro y s h1 h2 hj
      simp only [m_often_shelf_clash_b0]
      refine M.o_if (fun hb => ?_) (fun hb => ?_)
      · exact M.o_pure ⟨h1, h2, of_decide_eq_true hb, hj⟩
      · have := of_decide_eq_false hb
        refine M.o_pure fun z h3 h4 => ?_
        by_cases e : z = y
        · subst e; omega
        · exact hj z h3 (by omega)
    · intro s hj z h1 h2
      exact hj z h1 (by omega)
  · intro y hy
    cases y with
    | inl u => exact M.o_pure (.inl ⟨rfl, hy⟩)
    | inr y => exact M.o_pure (.inr ⟨rfl, hy⟩)
end Go.Proofs.Ytcgalcbkkijkhaa
namespace Go.Nm
namespace Bk
/-- What the reference says of a year. -/
def sp (ys : List Yr) (os : List Old10) (y : Int) : Int × Int := if (kn ys os y).lo <= (kn ys os y).hi then ((kn ys os y).lo, (kn ys os y).hi) else (1, 0)
/-- The first year without a truth, or the error. -/
def ClE (ys : List Yr) (os : List Old10) (f l : Int) (r : Int × Int) : Prop := (chkB ys os f l ≠ 0 /\ r = (0, chkB ys os f l)) ∨ (chkB ys os f l = 0 /\ Fine ys os f l /\ r = (0, 5)) ∨ (chkB ys os f l = 0 /\ First ys os f l r.1 /\ r.2 = 0)
theorem ClE.uniq {ys : List Yr} {os : List Old10} {f l : Int} {r s : Int × Int} (h : ClE ys os f l r) (k : ClE ys os f l s) : r = s := by
  rcases h with ⟨h1, rfl⟩ | ⟨h1, h2, rfl⟩ | ⟨h1, h2, h3⟩
  · rcases k with ⟨k1, rfl⟩ | ⟨k1, _⟩ | ⟨k1, _⟩
    · rfl
    · exact absurd k1 h1
    · exact absurd k1 h1
  · rcases k with ⟨k1, rfl⟩ | ⟨k1, k2, rfl⟩ | ⟨k1, k2, k3⟩
    · exact absurd h1 k1
    · rfl
    · exact (k2.bad h2).elim
  · rcases k with ⟨k1, rfl⟩ | ⟨k1, k2, rfl⟩ | ⟨k1, k2, k3⟩
    · exact absurd h1 k1
    · exact (h2.bad k2).elim
    · exact Prod.ext (h2.uniq k2) (by rw [h3, k3])
/-- The highest stages of a year, or the error. -/
def HiE (ys : List Yr) (os : List Old10) (f l y : Int) (r : Int × Int × Int) : Prop := (chkB ys os f l ≠ 0 /\ r = (0, 0, chkB ys os f l)) ∨ (chkB ys os f l = 0 /\ ¬ (f <= y /\ y <= l) /\ r = (0, 0, 2)) ∨ (chkB ys os f l = 0 /\ (f <= y /\ y <= l) /\ ¬ Fine ys os f l /\ r = (0, 0, 6)) ∨
  (chkB ys os f l = 0 /\ (f <= y /\ y <= l) /\ Fine ys os f l /\ r = ((kn ys os y).lo, (kn ys os y).hi, 0))
theorem HiE.uniq {ys : List Yr} {os : List Old10} {f l y : Int} {r s : Int × Int × Int} (h : HiE ys os f l y r) (k : HiE ys os f l y s) : r = s := by
  rcases h with ⟨h1, rfl⟩ | ⟨h1, h2, rfl⟩ | ⟨h1, h2, h3, rfl⟩ | ⟨h1, h2, h3, rfl⟩ <;> rcases k with ⟨k1, rfl⟩ | ⟨k1, k2, rfl⟩ | ⟨k1, k2, k3, rfl⟩ | ⟨k1, k2, k3, rfl⟩ <;> first | rfl | contradiction
/-- A truth that can be. -/
def Can (ys : List Yr) (os : List Old10) (f : Int) (st : List Int) : Prop := ∀ i, i < st.length -> (kn ys os (f + i)).lo <= st.getD i 0 /\ st.getD i 0 <= (kn ys os (f + i)).hi
def All2 (st : List Int) : Prop := ∀ i, i < st.length -> 0 <= st.getD i 0 /\ st.getD i 0 <= 2000
def HoE (ys : List Yr) (os : List Old10) (f l : Int) (st : List Int) (r : Bool × Int) : Prop := (chkB ys os f l ≠ 0 /\ r = (false, chkB ys os f l)) ∨ (chkB ys os f l = 0 /\ (st.length : Int) ≠ l - f + 1 /\ r = (false, 2)) ∨ (chkB ys os f l = 0 /\ (st.length : Int) = l - f + 1 /\ ¬ All2 st /\ r = (false, 4)) ∨
  (chkB ys os f l = 0 /\ (st.length : Int) = l - f + 1 /\ All2 st /\ ¬ Can ys os f st /\ r = (false, 0)) ∨ (chkB ys os f l = 0 /\ (st.length : Int) = l - f + 1 /\ All2 st /\ Can ys os f st /\ r = (true, 0))
theorem HoE.uniq {ys : List Yr} {os : List Old10} {f l : Int} {st : List Int} {r s : Bool × Int} (h : HoE ys os f l st r) (k : HoE ys os f l st s) : r = s := by
  rcases h with ⟨h1, rfl⟩ | ⟨h1, h2, rfl⟩ | ⟨h1, h2, h3, rfl⟩ | ⟨h1, h2, h3, h4, rfl⟩ | ⟨h1, h2, h3, h4, rfl⟩ <;> rcases k with ⟨k1, rfl⟩ | ⟨k1, k2, rfl⟩ | ⟨k1, k2, k3, rfl⟩ | ⟨k1, k2, k3, k4, rfl⟩ | ⟨k1, k2, k3, k4, rfl⟩ <;> first | rfl | contradiction
end Bk
end Go.Nm
namespace Go.Proofs.Ytcgalcbkkijkhaa
open Go Go.Nm
variable {ys : List Yr} {os : List Old10} {f l : Int}
theorem said_ends (os : List Old10) (y : Int) (i : Nat) : (M.iter (m_nilometerref10_can_b2 os y i) (false, 0)).Ends ((os.getD i default).passed.contains y) := by
  refine M.Out.ends ?_
  refine M.o_for (os.getD i default).passed.length (fun k (s : Bool × Nat) => s.2 = k /\ s.1 = ((os.getD i default).passed.take k).contains y) ?_ ?_ ⟨rfl, rfl⟩
  · rintro k ⟨b, s⟩ hk ⟨e1, e2⟩
    dsimp only at e1 e2
    subst e1 e2
    simp only [m_nilometerref10_can_b2]
    refine M.o_t (decide_eq_true (by omega)) (M.o_grd (by rw [Bool.or_eq_true]; exact .inr (decide_eq_true (by omega))) (M.o_pure ⟨rfl, ?_⟩))
    dsimp only
    have eg : (os.getD i default).passed.getD s 0 = (os.getD i default).passed[s] := by rw [List.getD_eq_getElem?_getD, List.getElem?_eq_getElem hk, Option.getD_some]
    rw [eg, ← List.take_append_getElem hk, List.contains_eq_any_beq, List.contains_eq_any_beq, List.any_append]
    simp only [List.any_cons, List.any_nil, Bool.or_false]
    rw [Bool.beq_comm (a := y)]
  · rintro ⟨b, s⟩ ⟨e1, e2⟩
    dsimp only at e1 e2
    subst e1 e2
    simp only [m_nilometerref10_can_b2]
    exact M.o_f (by simp) (M.o_pure (by rw [List.take_length]))
theorem can_ends (ys : List Yr) (os : List Old10) (f l y x : Int) : (m_nilometerref10_can ys os f l y x).Ends (Bk.can ys os y x) := by
  refine M.Out.ends ?_
  unfold m_nilometerref10_can Bk.can
  refine M.o_bind (P := fun z => match z with | .inl (_ : Unit) => (ys.all fun r => !(r.year == y && (decide (x < r.lo) || decide (x > r.hi)))) = false | .inr (_ : Unit) => (ys.all fun r => !(r.year == y && (decide (x < r.lo) || decide (x > r.hi)))) = true) ?_ ?_
  · refine M.o_scan ys.length (fun k => (!((ys.getD k default).year == y && (decide (x < (ys.getD k default).lo) || decide (x > (ys.getD k default).hi)))) = true) ?_ ?_
    · intro s hi hp
      simp only [m_nilometerref10_can_b0]
      have e : ys.getD s default = ys[s] := by rw [List.getD_eq_getElem?_getD, List.getElem?_eq_getElem hi, Option.getD_some]
      have e2 : (!(decide ((ys.getD s default).lo <= x) && decide (x <= (ys.getD s default).hi))) = (decide (x < (ys.getD s default).lo) || decide (x > (ys.getD s default).hi)) := by
        rw [Bool.eq_iff_iff]
        simp only [Bool.or_eq_true, Bool.not_eq_true', Bool.and_eq_false_iff, decide_eq_true_eq, decide_eq_false_iff_not]
        omega
      have k := out_ends x (ys.getD s default).lo (ys.getD s default).hi
      rw [e2] at k
      refine M.o_t (decide_eq_true (by omega)) (M.o_grdD (by omega) (M.o_bindE (a := ((ys.getD s default).year == y) && (decide (x < (ys.getD s default).lo) || decide (x > (ys.getD s default).hi))) (M.i_opt (fun h => by rw [h]; exact k) (fun h => by rw [h]; rfl)) ?_))
      generalize hA : ((ys.getD s default).year == y) = A
      generalize hB : (decide (x < (ys.getD s default).lo) || decide (x > (ys.getD s default).hi)) = B
      refine M.o_if (fun hb => ?_) (fun hb => ?_)
      · refine M.o_pure ?_
        rw [List.all_eq_false]
        refine ⟨ys[s], List.getElem_mem hi, ?_⟩
        rw [← e, hA, hB]
        cases A <;> cases B <;> simp at hb ⊢
      · exact M.o_pure ⟨rfl, by cases A <;> cases B <;> simp at hb ⊢⟩
    · intro hp
      simp only [m_nilometerref10_can_b0]
      refine M.o_f (by simp) (M.o_pure ?_)
      rw [List.all_eq_true]
      intro r hr
      obtain ⟨i, hi, rfl⟩ := List.getElem_of_mem hr
      have := hp i hi
      rwa [List.getD_eq_getElem?_getD, List.getElem?_eq_getElem hi, Option.getD_some] at this
  · intro z hz
    cases z with
    | inl u => exact M.o_pure (by dsimp only at hz; rw [hz]; rfl)
    | inr u =>
      dsimp only at hz ⊢
      rw [hz, Bool.true_and]
      refine M.o_bind (P := fun z => match z with | .inl (_ : Unit) => (os.all fun o => !(decide (o.src <= y) && decide (y <= o.dst)) || (o.passed.contains y == decide (o.stage <= x))) = false | .inr (_ : Unit) => (os.all fun o => !(decide (o.src <= y) && decide (y <= o.dst)) || (o.passed.contains y == decide (o.stage <= x))) = true) ?_ ?_
      · refine M.o_scan os.length (fun k => (!(decide ((os.getD k default).src <= y) && decide (y <= (os.getD k default).dst)) || ((os.getD k default).passed.contains y == decide ((os.getD k default).stage <= x))) = true) ?_ ?_
        · intro s hi hp
          simp only [m_nilometerref10_can_b3]
          have e : os.getD s default = os[s] := by rw [List.getD_eq_getElem?_getD, List.getElem?_eq_getElem hi, Option.getD_some]
          refine M.o_t (decide_eq_true (by omega)) (M.o_grdD (by omega) (M.o_bindE (out_ends _ _ _) (M.o_if (fun hb => ?_) (fun hb => ?_))))
          · exact M.o_pure ⟨rfl, by rw [hb]; rfl⟩
          · refine M.o_bindE (said_ends os y s) (M.o_if (fun hc => ?_) (fun hc => ?_))
            · refine M.o_pure ?_
              rw [List.all_eq_false]
              refine ⟨os[s], List.getElem_mem hi, ?_⟩
              rw [← e, hb, Bool.false_or]
              intro h
              rw [beq_iff_eq.1 h] at hc
              simp at hc
            · refine M.o_pure ⟨rfl, ?_⟩
              rw [hb, Bool.false_or]
              simpa using hc
        · intro hp
          simp only [m_nilometerref10_can_b3]
          refine M.o_f (by simp) (M.o_pure ?_)
          rw [List.all_eq_true]
          intro r hr
          obtain ⟨i, hi, rfl⟩ := List.getElem_of_mem hr
          have := hp i hi
          rwa [List.getD_eq_getElem?_getD, List.getElem?_eq_getElem hi, Option.getD_some] at this
      · intro z hz
        cases z with
        | inl u => exact M.o_pure (by dsimp only at hz; rw [hz])
        | inr u => exact M.o_pure (by dsimp only at hz; rw [hz])
theorem span_ends (h : Bk.OkY f l ys) (k : Bk.OkO f l os) (y : Int) : (m_nilometerref10_span ys os f l y).Ends (Bk.sp ys os y) := by
  refine M.Out.ends ?_
  unfold m_nilometerref10_span
  have hk := Bk.kn_in h k y
  have hcan := fun x => can_ends ys os f l y x
  have hiff := fun (x : Int) (h0 : 0 <= x) (h1 : x <= 2000) => Bk.can_iff (os := os) (y := y) h h0 h1
  unfold Bk.sp
  generalize Bk.kn ys os y = K at *
  refine M.o_bind (P := fun z => z = if K.lo <= K.hi then (K.lo, K.hi) else (1, 0)) ?_ (fun z e => M.o_pure e)
  refine M.o_for 2001 (fun i (s : Int × Bool × Nat × Int) => s.2.2.1 = i /\ ((s.2.1 = false /\ s.1 = 1 /\ s.2.2.2 = 0 /\ (K.lo <= K.hi -> (i : Int) <= K.lo)) ∨ (s.2.1 = true /\ K.lo <= K.hi /\ s.1 = K.lo /\ K.lo < i /\ s.2.2.2 = min ((i : Int) - 1) K.hi))) ?_ ?_ ⟨rfl, .inl ⟨rfl, rfl, rfl, fun _ => hk.1⟩⟩
  · rintro i ⟨s, s2, st, s3⟩ hi ⟨e1, hj⟩
    dsimp only at e1 hj
    subst e1
    simp only [m_nilometerref10_span_b0]
    have hx := hiff st (by omega) (by omega)
    refine M.o_t (decide_eq_true (by omega)) (M.o_bindE (hcan _) (M.o_if (fun hb => ?_) (fun hb => ?_)))
    · have hx := hx.1 hb
      rcases hj with ⟨rfl, rfl, rfl, e5⟩ | ⟨rfl, e3, rfl, e4, rfl⟩
      · have := e5 (by omega)
        exact M.o_t rfl (M.o_grd (gA2 (by omega) (by omega)) (M.o_pure ⟨rfl, .inr ⟨rfl, by omega, by first | omega | (dsimp only; omega), by first | omega | (dsimp only; omega), by first | omega | (dsimp only; omega)⟩⟩))
      · exact M.o_f rfl (M.o_grd (gA2 (by omega) (by omega)) (M.o_pure ⟨rfl, .inr ⟨rfl, by omega, rfl, by omega, by first | omega | (dsimp only; omega)⟩⟩))
    · have hx : ¬ (K.lo <= st /\ st <= K.hi) := fun hh => by rw [hx.2 hh] at hb; cases hb
      refine M.o_grd (gA2 (by omega) (by omega)) (M.o_pure ⟨rfl, ?_⟩)
      dsimp only
      rcases hj with ⟨rfl, rfl, rfl, e5⟩ | ⟨rfl, e3, rfl, e4, rfl⟩
      · exact .inl ⟨rfl, rfl, rfl, fun hh => by have := e5 hh; omega⟩
      · exact .inr ⟨rfl, e3, rfl, by omega, by omega⟩
  · rintro ⟨s, s2, st, s3⟩ ⟨e1, hj⟩
    dsimp only at e1 hj
    subst e1
    simp only [m_nilometerref10_span_b0]
    refine M.o_f (by simp) (M.o_pure ?_)
    rcases hj with ⟨rfl, rfl, rfl, e5⟩ | ⟨rfl, e3, rfl, e4, rfl⟩
    · rw [if_neg (fun hh => by have := e5 hh; omega)]
    · rw [if_pos e3, show min (((2001 : Nat) : Int) - 1) K.hi = K.hi by omega]
theorem ref_clash (hy : ys.length <= 1000000) (ho : os.length <= 1000000) : (m_nilometerref10_Clash ys os f l).Out (Bk.ClE ys os f l) := by
  unfold m_nilometerref10_Clash
  refine M.o_bindE (ref_check ys os f l hy ho) (M.o_if (fun hb => ?_) (fun hb => ?_))
  · exact M.o_pure (.inl ⟨bne_iff_ne.1 hb, rfl⟩)
  · have h0 : Bk.chkB ys os f l = 0 := by simpa using hb
    have h := Bk.chk_ok h0
    have hf0 := h.f0
    have hfl := h.fl
    have hl3 := h.l3
    refine M.o_bind (P := fun z => match z with | .inl y => Bk.First ys os f l y | .inr (_ : Unit) => Bk.Fine ys os f l) ?_ ?_
    · refine M.o_for (Int.toNat (l + 1 - f)) (fun i (s : Int) => s = f + i /\ ∀ z, f <= z -> z < s -> (Bk.kn ys os z).lo <= (Bk.kn ys os z).hi) ?_ ?_ ⟨by simp, fun z h1 h2 => by omega⟩
      · rintro i s hi ⟨e1, hj⟩
        simp only [m_nilometerref10_Clash_b0]
        refine M.o_t (decide_eq_true (by omega)) (M.o_bindE (span_ends h.y h.o s) ?_)
        unfold Bk.sp
        by_cases hc : (Bk.kn ys os s).lo <= (Bk.kn ys os s).hi
        · rw [if_pos hc]
          refine M.o_f (decide_eq_false (by omega)) (M.o_grd (gA2 (by omega) (by omega)) (M.o_pure ⟨by omega, fun z h1 h2 => ?_⟩))
          by_cases e : z = s
          · subst e; exact hc
          · exact hj z h1 (by omega)
        · rw [if_neg hc]
          exact M.o_t (by decide) (M.o_pure ⟨by omega, by omega, by omega, hj⟩)
      · rintro s ⟨e1, hj⟩
        simp only [m_nilometerref10_Clash_b0]
        exact M.o_f (decide_eq_false (by omega)) (M.o_pure fun z h1 h2 => hj z h1 (by omega))
    · intro z hz
      cases z with
      | inl y => exact M.o_pure (.inr (.inr ⟨h0, hz, rfl⟩))
      | inr u => exact M.o_pure (.inr (.inl ⟨h0, hz, rfl⟩))
theorem of_clash (hy : ys.length <= 1000000) (ho : os.length <= 1000000) : (m_often_Clash ys os f l).Out (Bk.ClE ys os f l) := by
  unfold m_often_Clash
  by_cases h0 : Bk.chkB ys os f l = 0
  · have h := Bk.chk_ok h0
    obtain ⟨m, g1, hm⟩ := opened_ok hy ho h0
    refine M.o_bindE g1 (M.o_f rfl (M.o_bind (clash_out h hm) ?_))
    rintro ⟨y, b⟩ (⟨e, hF⟩ | ⟨e, hF⟩)
    · rw [Prod.mk.injEq] at e
      obtain ⟨rfl, rfl⟩ := e
      exact M.o_t rfl (M.o_pure (.inr (.inl ⟨h0, hF, rfl⟩)))
    · dsimp only at e hF
      subst e
      exact M.o_f rfl (M.o_pure (.inr (.inr ⟨h0, hF, rfl⟩)))
  · exact M.o_bindE (opened_bad hy ho h0) (M.o_t (bne_iff_ne.2 h0) (M.o_pure (.inl ⟨h0, rfl⟩)))
theorem ref_highest (hy : ys.length <= 1000000) (ho : os.length <= 1000000) (y : Int) : (m_nilometerref10_Highest ys os f l y).Out (Bk.HiE ys os f l y) := by
  unfold m_nilometerref10_Highest
  refine M.o_bind (ref_clash hy ho) ?_
  rintro ⟨a, b⟩ hc
  rcases hc with ⟨h0, e⟩ | ⟨h0, h1, e⟩ | ⟨h0, h1, e⟩
  · rw [Prod.mk.injEq] at e
    obtain ⟨rfl, rfl⟩ := e
    by_cases h5 : Bk.chkB ys os f l = 5
    · exfalso
      unfold Bk.chkB at h5
      split at h5
      · cases h5
      · split at h5
        · cases h5
        · split at h5
          · have : ∀ n, Pk.fe (Bk.errY f l ys) n = 0 ∨ Pk.fe (Bk.errY f l ys) n = 9 ∨ Pk.fe (Bk.errY f l ys) n = 110 := by
              intro n
              induction n with
              | zero => exact .inl rfl
              | succ n ih =>
                unfold Pk.fe
                split
                · exact ih
                · unfold Bk.errY
                  split
                  · exact .inr (.inr rfl)
                  · split
                    · exact .inr (.inl rfl)
                    · exact .inl rfl
            have := this ys.length
            omega
          · split at h5 <;> cases h5
    · exact M.o_t (by rw [bne_iff_ne.2 h0, bne_iff_ne.2 h5]; rfl) (M.o_pure (.inl ⟨h0, rfl⟩))
  · rw [Prod.mk.injEq] at e
    obtain ⟨rfl, rfl⟩ := e
    refine M.o_f rfl (M.o_bindE (out_ends _ _ _) (M.o_if (fun hb => ?_) (fun hb => ?_)))
    · rw [Bool.not_eq_true', Bool.and_eq_false_iff, decide_eq_false_iff_not, decide_eq_false_iff_not] at hb
      exact M.o_pure (.inr (.inl ⟨h0, by omega, rfl⟩))
    · rw [Bool.not_eq_false', Bool.and_eq_true, decide_eq_true_eq, decide_eq_true_eq] at hb
      have h := Bk.chk_ok h0
      refine M.o_f rfl (M.o_bindE (span_ends h.y h.o y) ?_)
      unfold Bk.sp
      rw [if_pos (h1 y hb.1 hb.2)]
      exact M.o_pure (.inr (.inr (.inr ⟨h0, hb, h1, rfl⟩)))
  · dsimp only at h1 e
    subst e
    refine M.o_f rfl (M.o_bindE (out_ends _ _ _) (M.o_if (fun hb => ?_) (fun hb => ?_)))
    · rw [Bool.not_eq_true', Bool.and_eq_false_iff, decide_eq_false_iff_not, decide_eq_false_iff_not] at hb
      exact M.o_pure (.inr (.inl ⟨h0, by omega, rfl⟩))
    · rw [Bool.not_eq_false', Bool.and_eq_true, decide_eq_true_eq, decide_eq_true_eq] at hb
      exact M.o_t rfl (M.o_pure (.inr (.inr (.inl ⟨h0, hb, fun hF => h1.bad hF, rfl⟩))))
theorem of_highest (hy : ys.length <= 1000000) (ho : os.length <= 1000000) (y : Int) : (m_often_Highest ys os f l y).Out (Bk.HiE ys os f l y) := by
  unfold m_often_Highest
  by_cases h0 : Bk.chkB ys os f l = 0
  · have h := Bk.chk_ok h0
    obtain ⟨m, g1, hm⟩ := opened_ok hy ho h0
    refine M.o_bindE g1 (M.o_f rfl (M.o_bindE (in_ends _ _ _) (M.o_if (fun hb => ?_) (fun hb => ?_))))
    · rw [Bool.not_eq_true', Bool.and_eq_false_iff, decide_eq_false_iff_not, decide_eq_false_iff_not] at hb
      exact M.o_pure (.inr (.inl ⟨h0, by omega, rfl⟩))
    · rw [Bool.not_eq_false', Bool.and_eq_true, decide_eq_true_eq, decide_eq_true_eq] at hb
      refine M.o_bind (clash_out h hm) ?_
      rintro ⟨y', b⟩ (⟨e, hF⟩ | ⟨e, hF⟩)
      · rw [Prod.mk.injEq] at e
        obtain ⟨rfl, rfl⟩ := e
        refine M.o_f rfl (M.o_pure (.inr (.inr (.inr ⟨h0, hb, hF, ?_⟩))))
        rw [hm y hb.1 hb.2]
      · dsimp only at e hF
        subst e
        exact M.o_t rfl (M.o_pure (.inr (.inr (.inl ⟨h0, hb, fun hh => hF.bad hh, rfl⟩))))
  · exact M.o_bindE (opened_bad hy ho h0) (M.o_t (bne_iff_ne.2 h0) (M.o_pure (.inl ⟨h0, rfl⟩)))
theorem ref_holds (hy : ys.length <= 1000000) (ho : os.length <= 1000000) (st : List Int) : (m_nilometerref10_Holds ys os f l st).Out (Bk.HoE ys os f l st) := by
  unfold m_nilometerref10_Holds
  refine M.o_bindE (ref_check ys os f l hy ho) (M.o_if (fun hb => ?_) (fun hb => ?_))
  · exact M.o_pure (.inl ⟨bne_iff_ne.1 hb, rfl⟩)
  · have h0 : Bk.chkB ys os f l = 0 := by simpa using hb
    have h := Bk.chk_ok h0
    have hf0 := h.f0
    have hfl := h.fl
    have hl3 := h.l3
    refine M.o_grd (gA2 (by omega) (by omega)) (M.o_grd (gA2 (by omega) (by omega)) (M.o_if (fun hl => ?_) (fun hl => ?_)))
    · exact M.o_pure (.inr (.inl ⟨h0, bne_iff_ne.1 hl, rfl⟩))
    · have hl : (st.length : Int) = l - f + 1 := by simpa using hl
      refine M.o_bind (P := fun z => match z with | .inl (_ : Unit) => ¬ Bk.All2 st | .inr (_ : Unit) => Bk.All2 st) ?_ ?_
      · refine M.o_scan st.length (fun k => 0 <= st.getD k 0 /\ st.getD k 0 <= 2000) ?_ ?_
        · intro s hi hp
          simp only [m_nilometerref10_Holds_b0]
          refine M.o_t (decide_eq_true (by omega)) (M.o_grdD (by omega) (M.o_bindE (out_ends _ _ _) (M.o_if (fun hb => ?_) (fun hb => ?_))))
          · rw [Bool.not_eq_true', Bool.and_eq_false_iff, decide_eq_false_iff_not, decide_eq_false_iff_not] at hb
            refine M.o_pure fun hA => ?_
            have := hA s hi
            omega
          · rw [Bool.not_eq_false', Bool.and_eq_true, decide_eq_true_eq, decide_eq_true_eq] at hb
            exact M.o_pure ⟨rfl, hb⟩
        · intro hp
          simp only [m_nilometerref10_Holds_b0]
          exact M.o_f (by simp) (M.o_pure hp)
      · intro z hz
        cases z with
        | inl u => exact M.o_pure (.inr (.inr (.inl ⟨h0, hl, hz, rfl⟩)))
        | inr u =>
          have hA : Bk.All2 st := hz
          refine M.o_bind (P := fun z => match z with | .inl (_ : Unit) => ¬ Bk.Can ys os f st | .inr (_ : Unit) => Bk.Can ys os f st) ?_ ?_
          · refine M.o_scan st.length (fun k => (Bk.kn ys os (f + k)).lo <= st.getD k 0 /\ st.getD k 0 <= (Bk.kn ys os (f + k)).hi) ?_ ?_
            · intro s hi hp
              simp only [m_nilometerref10_Holds_b1]
              have hx := Bk.can_iff (os := os) (y := f + s) h.y (hA s hi).1 (hA s hi).2
              refine M.o_t (decide_eq_true (by omega)) (M.o_grd (gA2 (by omega) (by omega)) (M.o_grdD (by omega) (M.o_bindE (can_ends _ _ _ _ _ _) (M.o_if (fun hb => ?_) (fun hb => ?_)))))
              · rw [Bool.not_eq_true'] at hb
                refine M.o_pure fun hC => ?_
                rw [hx.2 (hC s hi)] at hb
                cases hb
              · rw [Bool.not_eq_false'] at hb
                exact M.o_pure ⟨rfl, hx.1 hb⟩
            · intro hp
              simp only [m_nilometerref10_Holds_b1]
              exact M.o_f (by simp) (M.o_pure hp)
          · intro z hz
            cases z with
            | inl u => exact M.o_pure (.inr (.inr (.inr (.inl ⟨h0, hl, hA, hz, rfl⟩))))
            | inr u => exact M.o_pure (.inr (.inr (.inr (.inr ⟨h0, hl, hA, hz, rfl⟩))))
theorem of_holds (hy : ys.length <= 1000000) (ho : os.length <= 1000000) (st : List Int) (hs : st.length <= 1000000) : (m_often_Holds ys os f l st).Out (Bk.HoE ys os f l st) := by
  unfold m_often_Holds
  by_cases h0 : Bk.chkB ys os f l = 0
  · have h := Bk.chk_ok h0
    have hf0 := h.f0
    have hfl := h.fl
    have hl3 := h.l3
    have hln := h.ln
    obtain ⟨m, g1, hm⟩ := opened_ok hy ho h0
    refine M.o_bindE g1 (M.o_f rfl (M.o_grd (gA2 (by omega) (by omega)) (M.o_grd (gA2 (by omega) (by omega)) (M.o_if (fun hl => ?_) (fun hl => ?_)))))
    · exact M.o_pure (.inr (.inl ⟨h0, bne_iff_ne.1 hl, rfl⟩))
    · have hl : (st.length : Int) = l - f + 1 := by simpa using hl
      refine M.o_bindE (every_int (p := fun n => decide (0 <= n) && decide (n <= 2000)) hs (fun x _ => by unfold m_often_Holds_1; exact M.i_bind (in_ends _ _ _) M.i_pure)) (M.o_if (fun hb => ?_) (fun hb => ?_))
      · rw [Bool.not_eq_true'] at hb
        refine M.o_pure (.inr (.inr (.inl ⟨h0, hl, fun hA => ?_, rfl⟩)))
        have := dur_all.2 (show DuR st from hA)
        rw [hb] at this
        cases this
      · rw [Bool.not_eq_false'] at hb
        have hA : Bk.All2 st := dur_all.1 hb
        unfold m_often_shelf_years
        refine M.o_bindE M.i_pure (M.o_bind (P := fun x => match x with | .inl (_ : Unit) => Bk.Can ys os f st | .inr (_ : Unit) => ¬ Bk.Can ys os f st) ?_ ?_)
        · refine years_out hl3 hf0 (by omega) (Int.le_refl _) (Int.le_refl _) hm (fun y _ => ∀ i : Nat, f + i < y -> (Bk.kn ys os (f + i)).lo <= st.getD i 0 /\ st.getD i 0 <= (Bk.kn ys os (f + i)).hi) (fun i h1 => by omega) ?_ ?_ _ _ _ _
          · intro y s h1 h2 hj
            obtain ⟨i, rfl⟩ : ∃ i : Nat, y = f + i := ⟨Int.toNat (y - f), by omega⟩
            simp only [m_often_Holds_b0]
            rw [show Int.toNat (f + i - f) = i by omega]
            refine M.o_grd (gA2 (by omega) (by omega)) (M.o_grd (gA2 (by omega) (by omega)) (M.o_bindE (in_ends _ _ _) (M.o_if (fun hb => ?_) (fun hb => ?_))))
            · rw [Bool.not_eq_true', Bool.and_eq_false_iff, decide_eq_false_iff_not, decide_eq_false_iff_not] at hb
              refine M.o_pure fun hC => ?_
              have := hC i (by omega)
              omega
            · rw [Bool.not_eq_false', Bool.and_eq_true, decide_eq_true_eq, decide_eq_true_eq] at hb
              refine M.o_pure fun j h3 => ?_
              by_cases e : j = i
              · subst e; exact hb
              · exact hj j (by omega)
          · intro s hj i hi
            exact hj i (by omega)
        · intro z hz
          cases z with
          | inl u => exact M.o_pure (.inr (.inr (.inr (.inr ⟨h0, hl, hA, hz, rfl⟩))))
          | inr u => exact M.o_pure (.inr (.inr (.inr (.inl ⟨h0, hl, hA, hz, rfl⟩))))
  · exact M.o_bindE (opened_bad hy ho h0) (M.o_t (bne_iff_ne.2 h0) (M.o_pure (.inl ⟨h0, rfl⟩)))
end Go.Proofs.Ytcgalcbkkijkhaa
namespace Go.Proofs.Ytcgalcbkkijkhaa
open Go Go.Nm
variable {ys : List Yr} {os : List Old10} {f l : Int}
/-- A book that is not too long to be looked at. -/
structure Short (ys : List Yr) (os : List Old10) : Prop where
  y : ys.length <= 65
  o : os.length <= 10
  p : ∀ o ∈ os, o.passed.length <= 12
theorem long_out (ys : List Yr) (os : List Old10) (f l : Int) : (m_nilometerlaw10_long ys os f l).Out (fun r => r = false -> Short ys os) := by
  unfold m_nilometerlaw10_long
  refine M.o_if (fun hb => M.o_pure (fun h => by cases h)) (fun hb => ?_)
  rw [Bool.or_eq_false_iff, Bool.or_eq_false_iff, decide_eq_false_iff_not, decide_eq_false_iff_not] at hb
  obtain ⟨⟨b1, b2⟩, _⟩ := hb
  refine M.o_bind (P := fun z => match z with | .inl (_ : Unit) => True | .inr (_ : Unit) => Short ys os) ?_ ?_
  · refine M.o_scan os.length (fun k => (os.getD k default).passed.length <= 12) ?_ ?_
    · intro s hi hp
      simp only [m_nilometerlaw10_long_b0]
      refine M.o_t (decide_eq_true (by omega)) (M.o_grdD (by omega) (M.o_if (fun hb => ?_) (fun hb => ?_)))
      · exact M.o_pure trivial
      · have := of_decide_eq_false hb
        exact M.o_pure ⟨rfl, by omega⟩
    · intro hp
      simp only [m_nilometerlaw10_long_b0]
      refine M.o_f (by simp) (M.o_pure ⟨by omega, by omega, fun o ho => ?_⟩)
      obtain ⟨i, hi, rfl⟩ := List.getElem_of_mem ho
      have := hp i hi
      rwa [List.getD_eq_getElem?_getD, List.getElem?_eq_getElem hi, Option.getD_some] at this
  · intro z hz
    cases z with
    | inl u => exact M.o_pure (fun h => by cases h)
    | inr u => exact M.o_pure (fun _ => hz)
theorem copy_yr (h : ys.length <= 1000000) : (m_nilometerkit_Copy_often_Year ys).Ends ys := M.i_grd (decide_eq_true (by simp only [List.length_nil]; omega)) M.i_pure
theorem copyB_ends (h : Short ys os) : (m_nilometerlaw10_Copy ys os f l).Ends (ys, os, f, l) := by
  have hy := h.y
  have ho := h.o
  unfold m_nilometerlaw10_Copy
  refine M.i_bind (copy_yr (by omega)) (M.i_bind (a := (os, os)) ?_ M.i_pure)
  refine M.Out.ends ?_
  refine M.o_for os.length (fun i (s : Nat × List Old10) => s.1 = i /\ s.2 = os.take i) ?_ ?_ ⟨rfl, rfl⟩
  · rintro i ⟨s, q⟩ hi ⟨e1, e2⟩
    dsimp only at e1 e2
    subst e1
    subst e2
    simp only [m_nilometerlaw10_Copy_b0]
    have e : os.getD s default = os[s] := by rw [List.getD_eq_getElem?_getD, List.getElem?_eq_getElem hi, Option.getD_some]
    have hp := h.p os[s] (List.getElem_mem hi)
    rw [← e] at hp
    exact M.o_t (decide_eq_true (by omega)) (M.o_grdD (by omega) (M.o_bindE (copy_int (by omega)) (M.o_grdD (by simp [List.length_take]; omega) (M.o_pure ⟨rfl, take_succ_D os s hi default⟩))))
  · rintro ⟨s, q⟩ ⟨e1, e2⟩
    dsimp only at e1 e2
    subst e1
    simp only [m_nilometerlaw10_Copy_b0]
    exact M.o_f (by simp) (M.o_pure (by rw [e2, List.take_length]))
theorem bookB_ends (h : Short ys os) : (m_nilometerlaw10_Book ys os f l).Ends (ys, os, f, l) := by
  have hy := h.y
  have ho := h.o
  unfold m_nilometerlaw10_Book
  refine M.i_bind (a := (ys, ys)) ?_ (M.i_bind (a := (os, os)) ?_ M.i_pure)
  · refine M.Out.ends ?_
    refine M.o_for ys.length (fun i (s : Nat × List Yr) => s.1 = i /\ s.2 = ys.take i) ?_ ?_ ⟨rfl, rfl⟩
    · rintro i ⟨s, q⟩ hi ⟨e1, e2⟩
      dsimp only at e1 e2
      subst e1
      subst e2
      simp only [m_nilometerlaw10_Book_b0]
      exact M.o_t (decide_eq_true (by omega)) (M.o_grdD (by omega) (M.o_grdD (by simp [List.length_take]; omega) (M.o_pure ⟨rfl, take_succ_D ys s hi default⟩)))
    · rintro ⟨s, q⟩ ⟨e1, e2⟩
      dsimp only at e1 e2
      subst e1
      simp only [m_nilometerlaw10_Book_b0]
      exact M.o_f (by simp) (M.o_pure (by rw [e2, List.take_length]))
  · refine M.Out.ends ?_
    refine M.o_for os.length (fun i (s : Nat × List Old10) => s.1 = i /\ s.2 = os.take i) ?_ ?_ ⟨rfl, rfl⟩
    · rintro i ⟨s, q⟩ hi ⟨e1, e2⟩
      dsimp only at e1 e2
      subst e1
      subst e2
      simp only [m_nilometerlaw10_Book_b1]
      exact M.o_t (decide_eq_true (by omega)) (M.o_grdD (by omega) (M.o_grdD (by simp [List.length_take]; omega) (M.o_pure ⟨rfl, take_succ_D os s hi default⟩)))
    · rintro ⟨s, q⟩ ⟨e1, e2⟩
      dsimp only at e1 e2
      subst e1
      simp only [m_nilometerlaw10_Book_b1]
      exact M.o_f (by simp) (M.o_pure (by rw [e2, List.take_length]))
theorem same_yr (l : List Yr) : (m_nilometerkit_Same_often_Year l l).Ends true := by
  unfold m_nilometerkit_Same_often_Year
  refine M.i_f (by simp) (M.i_bind (a := (.inr () : Unit ⊕ Unit)) ?_ M.i_pure)
  refine M.i_for (fun i => i) l.length (fun i hi => ?_) ?_
  · simp only [m_nilometerkit_Same_often_Year_b0]
    exact M.i_t (decide_eq_true (by omega)) (M.i_grd (decide_eq_true (by omega)) (M.i_grd (decide_eq_true (by omega)) (M.i_f (by simp) M.i_pure)))
  · simp only [m_nilometerkit_Same_often_Year_b0]
    exact M.i_f (by simp) M.i_pure
theorem sameB_ends (ys : List Yr) (os : List Old10) (f l : Int) : (m_nilometerlaw10_same ys os f l ys os f l).Ends true := by
  unfold m_nilometerlaw10_same
  refine M.i_bind (M.i_opt (fun _ => same_yr ys) (fun h => by simp at h)) (M.i_f (by simp) (M.i_bind (a := (.inr () : Unit ⊕ Unit)) ?_ M.i_pure))
  refine M.i_for (fun i => i) os.length (fun i hi => ?_) ?_
  · simp only [m_nilometerlaw10_same_b0]
    exact M.i_t (decide_eq_true (by omega)) (M.i_grd (decide_eq_true (by omega)) (M.i_grd (decide_eq_true (by omega)) (M.i_bind (M.i_opt (fun _ => same_int _) (fun h => by simp at h)) (M.i_f (by simp) M.i_pure))))
  · simp only [m_nilometerlaw10_same_b0]
    exact M.i_f (by simp) M.i_pure
theorem oftenBooks_ends (ys : List Yr) (os : List Old10) (f l : Int) (st : List Int) (y : Int) : (m_nilometerlaw10_OftenBooks ys os f l st y).Ends true := by
  refine M.Out.ends ?_
  unfold m_nilometerlaw10_OftenBooks
  refine M.o_bind (long_out ys os f l) ?_
  intro r hr
  refine M.o_if (fun hb => M.o_bindE awake_ends (M.o_pure rfl)) (fun hb => ?_)
  rw [Bool.or_eq_false_iff, decide_eq_false_iff_not] at hb
  have hs := hr hb.1
  have h45 := hb.2
  have hy := hs.y
  have ho := hs.o
  refine M.o_bindE (copyB_ends hs) (M.o_bindE (copy_int (by omega)) (M.o_bindE (bookB_ends hs) (M.o_bindE (check_ends ys os f l (by omega) (by omega)) (M.o_bindE (ref_check ys os f l (by omega) (by omega)) (M.o_f (by simp) ?_)))))
  obtain ⟨a1, g1, e1⟩ := of_holds (ys := ys) (os := os) (f := f) (l := l) (by omega) (by omega) st (by omega)
  obtain ⟨a2, g2, e2⟩ := ref_holds (ys := ys) (os := os) (f := f) (l := l) (by omega) (by omega) st
  obtain rfl := e1.uniq e2
  refine M.o_bindE g1 (M.o_bindE g2 (M.o_f (by simp) ?_))
  obtain ⟨a3, g3, e3⟩ := of_clash (ys := ys) (os := os) (f := f) (l := l) (by omega) (by omega)
  obtain ⟨a4, g4, e4⟩ := ref_clash (ys := ys) (os := os) (f := f) (l := l) (by omega) (by omega)
  obtain rfl := e3.uniq e4
  refine M.o_bindE g3 (M.o_bindE g4 (M.o_f (by simp) ?_))
  obtain ⟨a5, g5, e5⟩ := of_highest (ys := ys) (os := os) (f := f) (l := l) (by omega) (by omega) y
  obtain ⟨a6, g6, e6⟩ := ref_highest (ys := ys) (os := os) (f := f) (l := l) (by omega) (by omega) y
  obtain rfl := e5.uniq e6
  refine M.o_bindE g5 (M.o_bindE g6 ?_)
  obtain ⟨b1, b2, b3⟩ := a5
  have e0 : ((b3 == b3) && (decide ((⟨(b1 : Int), (b2 : Int)⟩ : Span) = (⟨(b1 : Int), (b2 : Int)⟩ : Span)))) = true := by simp
  dsimp only
  rw [e0]
  exact M.o_bindE (M.i_opt (fun _ => sameB_ends ys os f l) (fun h => by cases h)) (M.o_bindE (M.i_opt (fun _ => same_int st) (fun h => by cases h)) (M.o_bindE (M.i_opt (fun _ => awake_ends) (fun h => by cases h)) (M.o_pure rfl)))
end Go.Proofs.Ytcgalcbkkijkhaa
