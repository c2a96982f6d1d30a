/- Part 6 of the texts on which the proof rests. Conditions: none. -/
import Derived.Test.YtcgalcbkkijkhaaZT5
set_option linter.unusedVariables false
set_option linter.unusedSimpArgs false
set_option linter.unusedSectionVars false
namespace Go.Nm
theorem lookM_map {κ ν : Type} [DecidableEq κ] (g : κ -> ν -> ν) : ∀ (m : List (κ × ν)) (k : κ), lookM (m.map fun p => (p.1, g p.1 p.2)) k = (lookM m k).map (g k)
  | [], k => rfl
  | p :: m, k => by
    rw [List.map_cons]
    unfold lookM
    by_cases h : p.1 = k
    · rw [if_pos h, if_pos h, h]; rfl
    · rw [if_neg h, if_neg h, lookM_map g m k]
namespace Bk
/-- The first year that can have none. -/
def First (ys : List Yr) (os : List Old10) (f l y : Int) : Prop := f <= y /\ y <= l /\ (kn ys os y).hi < (kn ys os y).lo /\ ∀ z, f <= z -> z < y -> (kn ys os z).lo <= (kn ys os z).hi
def Fine (ys : List Yr) (os : List Old10) (f l : Int) : Prop := ∀ z, f <= z -> z <= l -> (kn ys os z).lo <= (kn ys os z).hi
theorem First.uniq {ys : List Yr} {os : List Old10} {f l y z : Int} (h : First ys os f l y) (k : First ys os f l z) : y = z := by
  obtain ⟨h1, h2, h3, h4⟩ := h
  obtain ⟨k1, k2, k3, k4⟩ := k
  rcases Int.lt_trichotomy y z with e | e | e
  · have := k4 y h1 e; omega
  · exact e
  · have := h4 z k1 e; omega
theorem First.bad {ys : List Yr} {os : List Old10} {f l y : Int} (h : First ys os f l y) (k : Fine ys os f l) : False := by
  obtain ⟨h1, h2, h3, h4⟩ := h
  have := k y h1 h2
  omega
theorem rec_take {ys : List Yr} (hu : ys.Pairwise fun a b => a.year < b.year) {s : Nat} (hs : s < ys.length) (y : Int) : rec (ys.take (s + 1)) y = if y = (ys.getD s default).year then ⟨(ys.getD s default).lo, (ys.getD s default).hi⟩ else rec (ys.take s) y := by
  have e : ys.getD s default = ys[s] := by rw [List.getD_eq_getElem?_getD, List.getElem?_eq_getElem hs, Option.getD_some]
  rw [e]
  unfold rec
  rw [← List.take_append_getElem hs, List.find?_append]
  by_cases hy : y = ys[s].year
  · rw [if_pos hy]
    have : (ys.take s).find? (fun r => r.year == y) = none := by
      rw [List.find?_eq_none]
      intro r hr
      obtain ⟨i, hi, rfl⟩ := List.getElem_of_mem hr
      rw [List.length_take] at hi
      rw [List.getElem_take]
      have := List.pairwise_iff_getElem.1 hu i s (by omega) hs (by omega)
      rw [beq_iff_eq]
      omega
    rw [this]
    simp [hy]
  · rw [if_neg hy]
    have : (ys[s].year == y) = false := by rw [beq_eq_false_iff_ne]; exact fun h => hy h.symm
    simp only [List.find?_cons, this, List.find?_nil, Option.or_none]
end Bk
end Go.Nm
namespace Go.Proofs.Ytcgalcbkkijkhaa
open Go Go.Nm
variable {ys : List Yr} {os : List Old10} {f l : Int}
theorem index_in (s : List Int) (v : Int) : (zbg s v).Out (fun r => decide (0 <= r) = s.contains v) := by
  unfold zbg
  refine M.o_bind (P := fun y => match y with | .inl i => 0 <= i /\ s.contains v = true | .inr (_ : Unit) => s.contains v = false) ?_ ?_
  · refine M.o_scan s.length (fun k => s.getD k 0 ≠ v) ?_ ?_
    · intro k hk hp
      simp only [za0]
      have e : s.getD k 0 = s[k] := by rw [List.getD_eq_getElem?_getD, List.getElem?_eq_getElem hk, Option.getD_some]
      refine M.o_t (decide_eq_true (by omega)) (M.o_grdD (by omega) (M.o_if (fun hb => ?_) (fun hb => ?_)))
      · refine M.o_pure ⟨by omega, ?_⟩
        rw [List.contains_iff_mem, (beq_iff_eq.1 hb), e]
        exact List.getElem_mem hk
      · exact M.o_pure ⟨rfl, fun h => (beq_eq_false_iff_ne.1 hb) h.symm⟩
    · intro hp
      simp only [za0]
      refine M.o_f (by simp) (M.o_pure ?_)
      rw [← Bool.not_eq_true, List.contains_iff_mem]
      intro hx
      obtain ⟨i, hi, e⟩ := List.getElem_of_mem hx
      have := hp i hi
      rw [List.getD_eq_getElem?_getD, List.getElem?_eq_getElem hi, Option.getD_some] at this
      exact this e
  · intro y hy
    cases y with
    | inl i => exact M.o_pure (by rw [hy.2]; exact decide_eq_true hy.1)
    | inr u => exact M.o_pure (by rw [hy]; decide)
theorem contains_ends (s : List Int) (v : Int) : (za5 s v).Ends (s.contains v) := by
  unfold za5
  obtain ⟨r, h1, h2⟩ := index_in s v
  exact M.i_bind h1 (by rw [h2]; exact M.i_pure)
theorem told_ends (h : Bk.OkO f l os) (ky : Int) (vl : Span) : (zaS os ky vl).Ends (os.foldl (Bk.told ky) vl) := by
  refine M.Out.ends ?_
  unfold zaS
  refine M.o_bind (P := fun y => (⟨y.1, y.2⟩ : Span) = os.foldl (Bk.told ky) vl) ?_ (fun y e => M.o_pure e)
  refine M.o_for os.length (fun i (s : Nat × Int × Int) => s.1 = i /\ (⟨s.2.1, s.2.2⟩ : Span) = (os.take i).foldl (Bk.told ky) vl) ?_ ?_ ⟨rfl, rfl⟩
  · rintro i ⟨s, a, b⟩ hi ⟨e1, e2⟩
    dsimp only at e1 e2
    subst e1
    simp only [zaF]
    have e : os.getD s default = os[s] := by rw [List.getD_eq_getElem?_getD, List.getElem?_eq_getElem hi, Option.getD_some]
    have ho := h.in_ os[s] (List.getElem_mem hi)
    have et : (os.take (s + 1)).foldl (Bk.told ky) vl = Bk.told ky ⟨a, b⟩ os[s] := by
      rw [← List.take_append_getElem hi, List.foldl_append, ← e2]; rfl
    rw [e]
    refine M.o_t (decide_eq_true (by omega)) (M.o_grdD (by omega) (M.o_bindE (in_ends _ _ _) (M.o_if (fun hb => ?_) (fun hb => ?_))))
    · rw [Bool.not_eq_true', Bool.and_eq_false_iff, decide_eq_false_iff_not, decide_eq_false_iff_not] at hb
      refine M.o_pure ⟨rfl, ?_⟩
      rw [et, Bk.told, if_neg (by omega)]
    · rw [Bool.not_eq_false', Bool.and_eq_true, decide_eq_true_eq, decide_eq_true_eq] at hb
      refine M.o_bindE (contains_ends _ _) (M.o_if (fun hc => ?_) (fun hc => ?_))
      · refine M.o_pure ⟨rfl, ?_⟩
        rw [et, Bk.told, if_pos hb, if_pos hc]
      · refine M.o_grd (gA2 (by omega) (by omega)) (M.o_pure ⟨rfl, ?_⟩)
        rw [et, Bk.told, if_pos hb, if_neg (by rw [hc]; simp)]
  · rintro ⟨s, a, b⟩ ⟨e1, e2⟩
    dsimp only at e1 e2
    subst e1
    simp only [zaF]
    rw [List.take_length] at e2
    exact M.o_f (by simp) (M.o_pure e2)
/-- What a book at work knows of its years. -/
def Knows (ys : List Yr) (os : List Old10) (f l : Int) (m : List (Int × Span)) : Prop := ∀ y, f <= y -> y <= l -> (lookM m y).getD default = Bk.kn ys os y
theorem opened_bad (hy : ys.length <= 1000000) (ho : os.length <= 1000000) (h : Bk.chkB ys os f l ≠ 0) : (zah ys os f l).Ends (.inl (Bk.chkB ys os f l)) := by
  unfold zah
  exact M.i_bind (check_ends ys os f l hy ho) (M.i_t (bne_iff_ne.2 h) M.i_pure)
theorem opened_ok (hy : ys.length <= 1000000) (ho : os.length <= 1000000) (h0 : Bk.chkB ys os f l = 0) : ∃ m, (zah ys os f l).Ends (.inr (f, l, m, 0)) /\ Knows ys os f l m := by
  have h := Bk.chk_ok h0
  have hf0 := h.f0
  have hfl := h.fl
  have hl3 := h.l3
  obtain ⟨m1, g1, k1⟩ : (M.iter (zax l) (([] : List (Int × Span)), f)).Out (fun m => ∀ y, f <= y -> y <= l -> lookM m y = some ⟨0, 2000⟩) := by
    refine M.o_for (Int.toNat (l + 1 - f)) (fun i (s : List (Int × Span) × Int) => s.2 = f + i /\ ∀ y, f <= y -> y < f + i -> lookM s.1 y = some ⟨0, 2000⟩) ?_ ?_ ⟨by simp, fun y h1 h2 => by simp at h2; omega⟩
    · rintro i ⟨m, y⟩ hi ⟨e1, e2⟩
      dsimp only at e1 e2
      subst e1
      simp only [zax]
      refine M.o_t (decide_eq_true (by omega)) (M.o_grd (gA2 (by omega) (by omega)) (M.o_pure ⟨by dsimp only; omega, fun z h1 h2 => ?_⟩))
      rw [lookM_set]
      split
      · rfl
      · exact e2 z h1 (by omega)
    · rintro ⟨m, y⟩ ⟨e1, e2⟩
      dsimp only at e1 e2
      subst e1
      simp only [zax]
      exact M.o_f (decide_eq_false (by omega)) (M.o_pure fun z h1 h2 => e2 z h1 (by omega))
  obtain ⟨m2, g2, k2⟩ : (M.iter (zaB ys) (m1, 0)).Out (fun m => ∀ y, f <= y -> y <= l -> lookM m y = some (Bk.rec ys y)) := by
    refine M.o_for ys.length (fun i (s : List (Int × Span) × Nat) => s.2 = i /\ ∀ y, f <= y -> y <= l -> lookM s.1 y = some (Bk.rec (ys.take i) y)) ?_ ?_ ⟨rfl, k1⟩
    · rintro i ⟨m, s⟩ hi ⟨e1, e2⟩
      dsimp only at e1 e2
      subst e1
      simp only [zaB]
      have e : ys.getD s default = ys[s] := by rw [List.getD_eq_getElem?_getD, List.getElem?_eq_getElem hi, Option.getD_some]
      have hr := h.y.in_ ys[s] (List.getElem_mem hi)
      rw [← e] at hr
      have et := Bk.rec_take h.y.up hi
      refine M.o_t (decide_eq_true (by omega)) (M.o_grdD (by omega) (M.o_if (fun hb => ?_) (fun hb => ?_)))
      · refine M.o_pure ⟨rfl, fun y h1 h2 => ?_⟩
        rw [lookM_set, et]
        split
        · rfl
        · exact e2 y h1 h2
      · rw [Bool.not_eq_false', decide_eq_true_eq] at hb
        refine M.o_pure ⟨rfl, fun y h1 h2 => ?_⟩
        rw [et]
        split
        · rename_i hy'
          have k := e2 _ hr.1 hr.2.1
          rw [k] at hb
          rw [hy', k]
          have h5 : (ys.getD s default).lo = (Bk.rec (ys.take s) (ys.getD s default).year).lo := congrArg Yr.lo hb
          have h6 : (ys.getD s default).hi = (Bk.rec (ys.take s) (ys.getD s default).year).hi := congrArg Yr.hi hb
          refine congrArg some ?_
          rw [h5, h6]
        · exact e2 y h1 h2
    · rintro ⟨m, s⟩ ⟨e1, e2⟩
      dsimp only at e1 e2
      subst e1
      simp only [zaB]
      rw [List.take_length] at e2
      exact M.o_f (by simp) (M.o_pure e2)
  have g3 := M.mapL_ends (body := zaS os) (g := fun ky vl => os.foldl (Bk.told ky) vl) (m := m2) (fun p _ => told_ends h.o p.1 p.2)
  refine ⟨m2.map fun p => (p.1, os.foldl (Bk.told p.1) p.2), ?_, fun y h1 h2 => ?_⟩
  · unfold zah
    refine M.i_bind (check_ends ys os f l hy ho) ?_
    rw [h0]
    exact M.i_f rfl (M.i_bind g1 (M.i_bind g2 (M.i_bind g3 M.i_pure)))
  · have e := lookM_map (fun ky vl => os.foldl (Bk.told ky) vl) m2 y
    rw [e, k2 y h1 h2]
    rfl
/-- A round over the years of a book at work. -/
theorem years_out {S X : Type} {bd : S -> Int × Span -> M (S ⊕ X)} {Q : S ⊕ X -> Prop} {m : List (Int × Span)} {a b c d : Int} {s0 : S} (hd : d <= 3000) (ha : 0 <= a) (hab : a <= b + 1) (hb : b <= d) (hc : c <= a) (hm : Knows ys os c d m) (J : Int -> S -> Prop) (h0 : J a s0)
    (hr : ∀ y s, a <= y -> y <= b -> J y s -> (bd s (y, Bk.kn ys os y)).Out (fun x => match x with | .inl s' => J (y + 1) s' | .inr x => Q (.inr x))) (hl : ∀ s, J (b + 1) s -> Q (.inl s)) (yw : List Yr) (ow : List Old10) (cw dw : Int) :
    (zaf (M.yl bd) (.inl s0) a b yw ow cw dw m).Out Q := by
  unfold zaf
  refine M.o_bind (P := fun y => match y with | .inl t => Q t | .inr t => Q t) ?_ (fun y hy => by cases y with | inl t => exact M.o_pure hy | inr t => exact M.o_pure hy)
  refine M.o_for (Int.toNat (b + 1 - a)) (fun i (s : Int × (S ⊕ X)) => s.1 = a + i /\ ∃ s', s.2 = .inl s' /\ J (a + i) s') ?_ ?_ ⟨by simp, s0, rfl, by simpa using h0⟩
  · rintro i ⟨y, t⟩ hi ⟨e1, s', e2, hj⟩
    dsimp only at e1 e2
    subst e1 e2
    simp only [zaK]
    rw [hm (a + i) (by omega) (by omega)]
    refine M.o_t (decide_eq_true (by omega)) ?_
    obtain ⟨x, g1, g2⟩ := hr (a + i) s' (by omega) (by omega) hj
    cases x with
    | inl s2 =>
      refine M.o_bindE (a := (true, .inl s2)) (M.i_bind g1 M.i_pure) (M.o_f rfl (M.o_grd (gA2 (by omega) (by omega)) (M.o_pure ⟨by dsimp only; omega, s2, rfl, ?_⟩)))
      dsimp only at g2
      rw [show a + ((i + 1 : Nat) : Int) = a + i + 1 by omega]
      exact g2
    | inr x2 => exact M.o_bindE (a := (false, .inr x2)) (M.i_bind g1 M.i_pure) (M.o_t rfl (M.o_pure g2))
  · rintro ⟨y, t⟩ ⟨e1, s', e2, hj⟩
    dsimp only at e1 e2
    subst e1 e2
    simp only [zaK]
    refine M.o_f (decide_eq_false (by omega)) (M.o_pure ?_)
    refine hl s' ?_
    rwa [show a + (Int.toNat (b + 1 - a) : Int) = b + 1 by omega] at hj
theorem clash_out (h : Bk.Ok ys os f l) {m : List (Int × Span)} (hm : Knows ys os f l m) : (zal ys os f l m).Out (fun r => (r = (0, false) /\ Bk.Fine ys os f l) ∨ (r.2 = true /\ Bk.First ys os f l r.1)) := by
  have hf0 := h.f0
  have hfl := h.fl
  have hl3 := h.l3
  unfold zal zad
  refine M.o_bindE M.i_pure (M.o_bind (P := fun x => match x with | .inl (_ : Unit) => Bk.Fine ys os f l | .inr y => Bk.First ys os f l y) ?_ ?_)
  · refine years_out hl3 hf0 (by omega) (Int.le_refl _) (Int.le_refl _) hm (fun y _ => ∀ z, f <= z -> z < y -> (Bk.kn ys os z).lo <= (Bk.kn ys os z).hi) (fun z h1 h2 => by omega) ?_ ?_ _ _ _ _
    · intro y s h1 h2 hj
      simp only [zaj]
      refine M.o_if (fun hb => ?_) (fun hb => ?_)
      · exact M.o_pure ⟨h1, h2, of_decide_eq_true hb, hj⟩
      · have := of_decide_eq_false hb
        refine M.o_pure fun z h3 h4 => ?_
        by_cases e : z = y
        · subst e; omega
        · exact hj z h3 (by omega)
    · intro s hj z h1 h2
      exact hj z h1 (by omega)
  · intro y hy
    cases y with
    | inl u => exact M.o_pure (.inl ⟨rfl, hy⟩)
    | inr y => exact M.o_pure (.inr ⟨rfl, hy⟩)
end Go.Proofs.Ytcgalcbkkijkhaa
namespace Go.Nm
namespace Bk
/-- What the reference says of a year. -/
def sp (ys : List Yr) (os : List Old10) (y : Int) : Int × Int := if (kn ys os y).lo <= (kn ys os y).hi then ((kn ys os y).lo, (kn ys os y).hi) else (1, 0)
/-- The first year without a truth, or the error. -/
def ClE (ys : List Yr) (os : List Old10) (f l : Int) (r : Int × Int) : Prop := (chkB ys os f l ≠ 0 /\ r = (0, chkB ys os f l)) ∨ (chkB ys os f l = 0 /\ Fine ys os f l /\ r = (0, 5)) ∨ (chkB ys os f l = 0 /\ First ys os f l r.1 /\ r.2 = 0)
theorem ClE.uniq {ys : List Yr} {os : List Old10} {f l : Int} {r s : Int × Int} (h : ClE ys os f l r) (k : ClE ys os f l s) : r = s := by
  rcases h with ⟨h1, rfl⟩ | ⟨h1, h2, rfl⟩ | ⟨h1, h2, h3⟩
  · rcases k with ⟨k1, rfl⟩ | ⟨k1, _⟩ | ⟨k1, _⟩
    · rfl
    · exact absurd k1 h1
    · exact absurd k1 h1
  · rcases k with ⟨k1, rfl⟩ | ⟨k1, k2, rfl⟩ | ⟨k1, k2, k3⟩
    · exact absurd h1 k1
    · rfl
    · exact (k2.bad h2).elim
  · rcases k with ⟨k1, rfl⟩ | ⟨k1, k2, rfl⟩ | ⟨k1, k2, k3⟩
    · exact absurd h1 k1
    · exact (h2.bad k2).elim
    · exact Prod.ext (h2.uniq k2) (by rw [h3, k3])
/-- The highest stages of a year, or the error. -/
def HiE (ys : List Yr) (os : List Old10) (f l y : Int) (r : Int × Int × Int) : Prop := (chkB ys os f l ≠ 0 /\ r = (0, 0, chkB ys os f l)) ∨ (chkB ys os f l = 0 /\ ¬ (f <= y /\ y <= l) /\ r = (0, 0, 2)) ∨ (chkB ys os f l = 0 /\ (f <= y /\ y <= l) /\ ¬ Fine ys os f l /\ r = (0, 0, 6)) ∨
  (chkB ys os f l = 0 /\ (f <= y /\ y <= l) /\ Fine ys os f l /\ r = ((kn ys os y).lo, (kn ys os y).hi, 0))
theorem HiE.uniq {ys : List Yr} {os : List Old10} {f l y : Int} {r s : Int × Int × Int} (h : HiE ys os f l y r) (k : HiE ys os f l y s) : r = s := by
  rcases h with ⟨h1, rfl⟩ | ⟨h1, h2, rfl⟩ | ⟨h1, h2, h3, rfl⟩ | ⟨h1, h2, h3, rfl⟩ <;> rcases k with ⟨k1, rfl⟩ | ⟨k1, k2, rfl⟩ | ⟨k1, k2, k3, rfl⟩ | ⟨k1, k2, k3, rfl⟩ <;> first | rfl | contradiction
/-- A truth that can be. -/
def Can (ys : List Yr) (os : List Old10) (f : Int) (st : List Int) : Prop := ∀ i, i < st.length -> (kn ys os (f + i)).lo <= st.getD i 0 /\ st.getD i 0 <= (kn ys os (f + i)).hi
def All2 (st : List Int) : Prop := ∀ i, i < st.length -> 0 <= st.getD i 0 /\ st.getD i 0 <= 2000
def HoE (ys : List Yr) (os : List Old10) (f l : Int) (st : List Int) (r : Bool × Int) : Prop := (chkB ys os f l ≠ 0 /\ r = (false, chkB ys os f l)) ∨ (chkB ys os f l = 0 /\ (st.length : Int) ≠ l - f + 1 /\ r = (false, 2)) ∨ (chkB ys os f l = 0 /\ (st.length : Int) = l - f + 1 /\ ¬ All2 st /\ r = (false, 4)) ∨
  (chkB ys os f l = 0 /\ (st.length : Int) = l - f + 1 /\ All2 st /\ ¬ Can ys os f st /\ r = (false, 0)) ∨ (chkB ys os f l = 0 /\ (st.length : Int) = l - f + 1 /\ All2 st /\ Can ys os f st /\ r = (true, 0))
theorem HoE.uniq {ys : List Yr} {os : List Old10} {f l : Int} {st : List Int} {r s : Bool × Int} (h : HoE ys os f l st r) (k : HoE ys os f l st s) : r = s := by
  rcases h with ⟨h1, rfl⟩ | ⟨h1, h2, rfl⟩ | ⟨h1, h2, h3, rfl⟩ | ⟨h1, h2, h3, h4, rfl⟩ | ⟨h1, h2, h3, h4, rfl⟩ <;> rcases k with ⟨k1, rfl⟩ | ⟨k1, k2, rfl⟩ | ⟨k1, k2, k3, rfl⟩ | ⟨k1, k2, k3, k4, rfl⟩ | ⟨k1, k2, k3, k4, rfl⟩ <;> first | rfl | contradiction
end Bk
end Go.Nm
namespace Go.Proofs.Ytcgalcbkkijkhaa
open Go Go.Nm
variable {ys : List Yr} {os : List Old10} {f l : Int}
theorem of_clash (hy : ys.length <= 1000000) (ho : os.length <= 1000000) : (zaH ys os f l).Out (Bk.ClE ys os f l) := by
  unfold zaH
  by_cases h0 : Bk.chkB ys os f l = 0
  · have h := Bk.chk_ok h0
    obtain ⟨m, g1, hm⟩ := opened_ok hy ho h0
    refine M.o_bindE g1 (M.o_f rfl (M.o_bind (clash_out h hm) ?_))
    rintro ⟨y, b⟩ (⟨e, hF⟩ | ⟨e, hF⟩)
    · rw [Prod.mk.injEq] at e
      obtain ⟨rfl, rfl⟩ := e
      exact M.o_t rfl (M.o_pure (.inr (.inl ⟨h0, hF, rfl⟩)))
    · dsimp only at e hF
      subst e
      exact M.o_f rfl (M.o_pure (.inr (.inr ⟨h0, hF, rfl⟩)))
  · exact M.o_bindE (opened_bad hy ho h0) (M.o_t (bne_iff_ne.2 h0) (M.o_pure (.inl ⟨h0, rfl⟩)))
theorem of_highest (hy : ys.length <= 1000000) (ho : os.length <= 1000000) (y : Int) : (zaR ys os f l y).Out (Bk.HiE ys os f l y) := by
  unfold zaR
  by_cases h0 : Bk.chkB ys os f l = 0
  · have h := Bk.chk_ok h0
    obtain ⟨m, g1, hm⟩ := opened_ok hy ho h0
    refine M.o_bindE g1 (M.o_f rfl (M.o_bindE (in_ends _ _ _) (M.o_if (fun hb => ?_) (fun hb => ?_))))
    · rw [Bool.not_eq_true', Bool.and_eq_false_iff, decide_eq_false_iff_not, decide_eq_false_iff_not] at hb
      exact M.o_pure (.inr (.inl ⟨h0, by omega, rfl⟩))
    · rw [Bool.not_eq_false', Bool.and_eq_true, decide_eq_true_eq, decide_eq_true_eq] at hb
      refine M.o_bind (clash_out h hm) ?_
      rintro ⟨y', b⟩ (⟨e, hF⟩ | ⟨e, hF⟩)
      · rw [Prod.mk.injEq] at e
        obtain ⟨rfl, rfl⟩ := e
        refine M.o_f rfl (M.o_pure (.inr (.inr (.inr ⟨h0, hb, hF, ?_⟩))))
        rw [hm y hb.1 hb.2]
      · dsimp only at e hF
        subst e
        exact M.o_t rfl (M.o_pure (.inr (.inr (.inl ⟨h0, hb, fun hh => hF.bad hh, rfl⟩))))
  · exact M.o_bindE (opened_bad hy ho h0) (M.o_t (bne_iff_ne.2 h0) (M.o_pure (.inl ⟨h0, rfl⟩)))
theorem of_holds (hy : ys.length <= 1000000) (ho : os.length <= 1000000) (st : List Int) (hs : st.length <= 1000000) : (zau ys os f l st).Out (Bk.HoE ys os f l st) := by
  unfold zau
  by_cases h0 : Bk.chkB ys os f l = 0
  · have h := Bk.chk_ok h0
    have hf0 := h.f0
    have hfl := h.fl
    have hl3 := h.l3
    have hln := h.ln
    obtain ⟨m, g1, hm⟩ := opened_ok hy ho h0
    refine M.o_bindE g1 (M.o_f rfl (M.o_grd (gA2 (by omega) (by omega)) (M.o_grd (gA2 (by omega) (by omega)) (M.o_if (fun hl => ?_) (fun hl => ?_)))))
    · exact M.o_pure (.inr (.inl ⟨h0, bne_iff_ne.1 hl, rfl⟩))
    · have hl : (st.length : Int) = l - f + 1 := by simpa using hl
      refine M.o_bindE (every_int (p := fun n => decide (0 <= n) && decide (n <= 2000)) hs (fun x _ => by unfold zbf; exact M.i_bind (in_ends _ _ _) M.i_pure)) (M.o_if (fun hb => ?_) (fun hb => ?_))
      · rw [Bool.not_eq_true'] at hb
        refine M.o_pure (.inr (.inr (.inl ⟨h0, hl, fun hA => ?_, rfl⟩)))
        have := dur_all.2 (show DuR st from hA)
        rw [hb] at this
        cases this
      · rw [Bool.not_eq_false'] at hb
        have hA : Bk.All2 st := dur_all.1 hb
        unfold zad
        refine M.o_bindE M.i_pure (M.o_bind (P := fun x => match x with | .inl (_ : Unit) => Bk.Can ys os f st | .inr (_ : Unit) => ¬ Bk.Can ys os f st) ?_ ?_)
        · refine years_out hl3 hf0 (by omega) (Int.le_refl _) (Int.le_refl _) hm (fun y _ => ∀ i : Nat, f + i < y -> (Bk.kn ys os (f + i)).lo <= st.getD i 0 /\ st.getD i 0 <= (Bk.kn ys os (f + i)).hi) (fun i h1 => by omega) ?_ ?_ _ _ _ _
          · intro y s h1 h2 hj
            obtain ⟨i, rfl⟩ : ∃ i : Nat, y = f + i := ⟨Int.toNat (y - f), by omega⟩
            simp only [zap]
            rw [show Int.toNat (f + i - f) = i by omega]
            refine M.o_grd (gA2 (by omega) (by omega)) (M.o_grd (gA2 (by omega) (by omega)) (M.o_bindE (in_ends _ _ _) (M.o_if (fun hb => ?_) (fun hb => ?_))))
            · rw [Bool.not_eq_true', Bool.and_eq_false_iff, decide_eq_false_iff_not, decide_eq_false_iff_not] at hb
              refine M.o_pure fun hC => ?_
              have := hC i (by omega)
              omega
            · rw [Bool.not_eq_false', Bool.and_eq_true, decide_eq_true_eq, decide_eq_true_eq] at hb
              refine M.o_pure fun j h3 => ?_
              by_cases e : j = i
              · subst e; exact hb
              · exact hj j (by omega)
          · intro s hj i hi
            exact hj i (by omega)
        · intro z hz
          cases z with
          | inl u => exact M.o_pure (.inr (.inr (.inr (.inr ⟨h0, hl, hA, hz, rfl⟩))))
          | inr u => exact M.o_pure (.inr (.inr (.inr (.inl ⟨h0, hl, hA, hz, rfl⟩))))
  · exact M.o_bindE (opened_bad hy ho h0) (M.o_t (bne_iff_ne.2 h0) (M.o_pure (.inl ⟨h0, rfl⟩)))
end Go.Proofs.Ytcgalcbkkijkhaa
namespace Go.Nm
theorem getD_app_lt {t : List Int} {x : Int} {k : Nat} (h : k < t.length) : (t ++ [x]).getD k 0 = t.getD k 0 := by
  rw [List.getD_eq_getElem?_getD, List.getElem?_append_left h, ← List.getD_eq_getElem?_getD]
theorem getD_app_eq {t : List Int} {x : Int} : (t ++ [x]).getD t.length 0 = x := by
  rw [List.getD_eq_getElem?_getD, List.getElem?_append_right (Nat.le_refl _), Nat.sub_self]; rfl
namespace Bk
theorem chk_of {ys : List Yr} {os : List Old10} {f l : Int} (h : Ok ys os f l) : chkB ys os f l = 0 := by
  have h1 := h.f0
  have h2 := h.fl
  have h3 := h.l3
  have h4 := h.ln
  have h5 := h.y60
  have h6 := h.o8
  have hfr : frB f l = true := by
    simp only [frB, Bool.and_eq_true, decide_eq_true_eq]
    omega
  have hfew : os.all fewO = true := by
    rw [List.all_eq_true]
    intro o ho
    have := h.few o ho
    exact decide_eq_true (by omega)
  have hb : os.all (oB f l) = true := by
    rw [List.all_eq_true]
    intro o ho
    have k1 := h.o.in_ o ho
    have k2 := h.ris o ho
    simp only [oB, Bool.and_eq_true, decide_eq_true_eq]
    exact ⟨⟨⟨⟨k1.1, k1.2.1⟩, by omega, k1.2.2.1⟩, k1.2.2.2.1, k1.2.2.2.2⟩, k2⟩
  have he : Pk.fe (errY f l ys) ys.length = 0 := by
    rw [Pk.fe_all]
    intro i hi
    have e : ys.getD i default = ys[i] := by rw [List.getD_eq_getElem?_getD, List.getElem?_eq_getElem hi, Option.getD_some]
    have k1 := h.y.in_ ys[i] (List.getElem_mem hi)
    unfold errY
    rw [if_neg, if_neg]
    · rintro ⟨h0, hle⟩
      have e2 : ys.getD (i - 1) default = ys[i - 1] := by rw [List.getD_eq_getElem?_getD, List.getElem?_eq_getElem (by omega), Option.getD_some]
      rw [e, e2] at hle
      have := List.pairwise_iff_getElem.1 h.y.up (i - 1) i (by omega) hi (by omega)
      omega
    · rw [e]
      have : yrB f l ys[i] = true := by
        simp only [yrB, Bool.and_eq_true, decide_eq_true_eq]
        omega
      rw [this]
      simp
  unfold chkB
  rw [if_neg (by rw [hfr]; simp), if_neg (by rw [hfew]; simp; omega), if_neg (by rw [he]; simp), if_neg (by rw [hb]; simp)]
/-- A truth of a book. -/
structure Tr (ys : List Yr) (os : List Old10) (f l : Int) (t : List Int) : Prop where
  ok : Ok ys os f l
  len : (t.length : Int) = l - f + 1
  all : All2 t
  can : Can ys os f t
theorem Tr.at_ {ys : List Yr} {os : List Old10} {f l : Int} {t : List Int} (h : Tr ys os f l t) {y : Int} (h1 : f <= y) (h2 : y <= l) : (kn ys os y).lo <= t.getD (Int.toNat (y - f)) 0 /\ t.getD (Int.toNat (y - f)) 0 <= (kn ys os y).hi := by
  have hl := h.len
  have k := h.can (Int.toNat (y - f)) (by omega)
  rwa [show f + ((Int.toNat (y - f) : Nat) : Int) = y by omega] at k
theorem Tr.fine {ys : List Yr} {os : List Old10} {f l : Int} {t : List Int} (h : Tr ys os f l t) : Fine ys os f l := fun z h1 h2 => by
  have := h.at_ h1 h2
  omega
/-- An old note that a truth bears out. -/
structure Nt (f l : Int) (t : List Int) (o : Old10) : Prop where
  a : f <= o.src
  b : o.src <= o.dst
  c : o.dst <= l
  s1 : 1 <= o.stage
  s2 : o.stage <= 2000
  few : o.passed.length <= 10
  up : o.passed.Pairwise (· < ·)
  mem : ∀ y, y ∈ o.passed ↔ (o.src <= y /\ y <= o.dst) /\ o.stage <= t.getD (Int.toNat (y - f)) 0
theorem Nt.rin {f l : Int} {t : List Int} {o : Old10} (h : Nt f l t o) : Rin o.passed o.src o.dst := by
  intro i hi
  have e : o.passed.getD i 0 = o.passed[i] := by rw [List.getD_eq_getElem?_getD, List.getElem?_eq_getElem hi, Option.getD_some]
  rw [e]
  refine ⟨((h.mem _).1 (List.getElem_mem hi)).1, fun h0 => ?_⟩
  have e2 : o.passed.getD (i - 1) 0 = o.passed[i - 1] := by rw [List.getD_eq_getElem?_getD, List.getElem?_eq_getElem (by omega), Option.getD_some]
  rw [e2]
  exact List.pairwise_iff_getElem.1 h.up (i - 1) i (by omega) hi (by omega)
/-- Recorded years that a truth bears out. -/
structure Yt (f l : Int) (t : List Int) (ys : List Yr) : Prop where
  in_ : ∀ r ∈ ys, (f <= r.year /\ r.year <= l /\ 0 <= r.lo /\ r.lo <= r.hi /\ r.hi <= 2000) /\ r.lo <= t.getD (Int.toNat (r.year - f)) 0 /\ t.getD (Int.toNat (r.year - f)) 0 <= r.hi
  up : ys.Pairwise fun a b => a.year < b.year
/-- What is borne out is a book with a truth. -/
theorem Tr.of {ys : List Yr} {os : List Old10} {f l : Int} {t : List Int} (h0 : 0 <= f) (h1 : f <= l) (h2 : l <= 3000) (h3 : l - f < 1000) (hy : ys.length <= 60) (ho : os.length <= 8) (hl : (t.length : Int) = l - f + 1) (ha : All2 t) (hY : Yt f l t ys) (hO : ∀ o ∈ os, Nt f l t o) : Tr ys os f l t := by
  have oky : OkY f l ys := ⟨fun r hr => (hY.in_ r hr).1, hY.up⟩
  refine ⟨⟨h0, h1, h2, h3, hy, ho, fun o h => (hO o h).few, oky, ⟨fun o h => ?_⟩, fun o h => (hO o h).rin⟩, hl, ha, fun i hi => ?_⟩
  · have k := hO o h
    exact ⟨k.a, k.b, k.c, k.s1, k.s2⟩
  · rw [← can_iff oky (ha i hi).1 (ha i hi).2]
    unfold Bk.can
    rw [Bool.and_eq_true, List.all_eq_true, List.all_eq_true]
    refine ⟨fun r hr => ?_, fun o hm => ?_⟩
    · have k := (hY.in_ r hr).2
      by_cases e : r.year = f + i
      · rw [e, show Int.toNat (f + (i : Int) - f) = i by omega] at k
        rw [decide_eq_false (by omega), decide_eq_false (by omega)]
        simp
      · rw [beq_eq_false_iff_ne.2 e]
        rfl
    · have k := hO o hm
      by_cases e : o.src <= f + i /\ f + i <= o.dst
      · have m := k.mem (f + i)
        rw [show Int.toNat (f + (i : Int) - f) = i by omega] at m
        rw [Bool.or_eq_true]
        right
        rw [beq_iff_eq, Bool.eq_iff_iff, List.contains_iff_mem, m, decide_eq_true_eq]
        exact ⟨fun h => h.2, fun h => ⟨e, h⟩⟩
      · rw [Bool.or_eq_true]
        left
        rw [Bool.not_eq_true', Bool.and_eq_false_iff, decide_eq_false_iff_not, decide_eq_false_iff_not]
        omega
/-- What is made. -/
structure Md (most : Int) (ys : List Yr) (os : List Old10) (f l : Int) (t : List Int) : Prop where
  f0 : 0 <= f
  f2 : f < 2000
  fl : f <= l
  near : l - f < most
  len : (t.length : Int) = l - f + 1
  t6 : ∀ i, i < t.length -> 0 <= t.getD i 0 /\ t.getD i 0 < 600
  y60 : ys.length <= 60
  o3 : os.length <= 3
  y : Yt f l t ys
  o : ∀ o ∈ os, Nt f l t o
theorem Md.tr {most : Int} {ys : List Yr} {os : List Old10} {f l : Int} {t : List Int} (h : Md most ys os f l t) (hm : most <= 1000) : Tr ys os f l t := by
  have h1 := h.f0
  have h2 := h.f2
  have h3 := h.fl
  have h4 := h.near
  have h5 := h.o3
  exact .of h1 h3 (by omega) (by omega) h.y60 (by omega) h.len (fun i hi => by have := h.t6 i hi; omega) h.y h.o
end Bk
end Go.Nm
namespace Go.Proofs.Ytcgalcbkkijkhaa
open Go Go.Nm
variable {ys : List Yr} {os : List Old10} {f l : Int} {t : List Int} {b : List UInt8}
theorem noted_years {a d s : Int} (h1 : f <= a) (h2 : a <= d) (h3 : d <= l) (hl : (t.length : Int) = l - f + 1) (hl1 : t.length <= 1000) (hf : 0 <= f /\ f <= 100000) : (M.iter (zaC f t d s) (a, [])).Out (fun y => y.2.length <= 1000 /\ y.2.Pairwise (· < ·) /\ ∀ z, z ∈ y.2 ↔ (a <= z /\ z <= d) /\ s <= t.getD (Int.toNat (z - f)) 0) := by
  refine M.o_for (Int.toNat (d + 1 - a)) (fun i (x : Int × List Int) => x.1 = a + i /\ x.2.length <= i /\ x.2.Pairwise (· < ·) /\ ∀ z, z ∈ x.2 ↔ (a <= z /\ z < a + i) /\ s <= t.getD (Int.toNat (z - f)) 0) ?_ ?_ ⟨by simp, by simp, by simp, fun z => by simp; omega⟩
  · rintro i ⟨y, q⟩ hi ⟨e1, e2, e3, e4⟩
    dsimp only at e1 e2 e3 e4
    subst e1
    simp only [zaC]
    refine M.o_t (decide_eq_true (by omega)) (M.o_grd (gA2 (by omega) (by omega)) (M.o_grd (gA2 (by omega) (by omega)) (M.o_if (fun hb => ?_) (fun hb => ?_))))
    · have hb := of_decide_eq_true hb
      refine M.o_grdD (by simp only [List.length_cons, List.length_nil]; omega) (M.o_grd (gA2 (by omega) (by omega)) (M.o_pure ⟨by dsimp only; omega, by dsimp only; rw [List.length_append, List.length_singleton]; omega, ?_, fun z => ?_⟩))
      · rw [List.pairwise_append]
        refine ⟨e3, by simp, fun u hu v hv => ?_⟩
        rw [List.mem_singleton] at hv
        have := ((e4 u).1 hu).1
        omega
      · dsimp only
        rw [List.mem_append, List.mem_singleton, e4]
        constructor
        · rintro (h | rfl)
          · exact ⟨by omega, h.2⟩
          · exact ⟨by omega, hb⟩
        · rintro ⟨h, h'⟩
          by_cases e : z = a + i
          · exact .inr e
          · exact .inl ⟨by omega, h'⟩
    · have hb := of_decide_eq_false hb
      refine M.o_grd (gA2 (by omega) (by omega)) (M.o_pure ⟨by dsimp only; omega, by dsimp only; omega, e3, fun z => ?_⟩)
      dsimp only
      rw [e4]
      constructor
      · rintro ⟨h, h'⟩
        exact ⟨by omega, h'⟩
      · rintro ⟨h, h'⟩
        by_cases e : z = a + i
        · subst e; exact absurd h' hb
        · exact ⟨by omega, h'⟩
  · rintro ⟨y, q⟩ ⟨e1, e2, e3, e4⟩
    dsimp only at e1 e2 e3 e4
    subst e1
    simp only [zaC]
    refine M.o_f (decide_eq_false (by omega)) (M.o_pure ⟨by dsimp only; omega, e3, fun z => ?_⟩)
    dsimp only
    rw [e4]
    constructor
    · rintro ⟨h, h'⟩
      exact ⟨by omega, h'⟩
    · rintro ⟨h, h'⟩
      exact ⟨by omega, h'⟩
theorem noted_out {c u x : Int} (hk : SOk c u x) (hc : c <= 1000000) (hf : 0 <= f /\ f < 2000) (hfl : f <= l) (hln : l - f < 1000) (hl : (t.length : Int) = l - f + 1) (h6 : ∀ i, i < t.length -> 0 <= t.getD i 0 /\ t.getD i 0 < 600) :
    (zbl b u x ys os f l t).Out (fun y => Bk.Nt f l t ⟨y.1, y.2.1, y.2.2.1, y.2.2.2.1⟩ /\ SOk (c + 3) y.2.2.2.2.1 y.2.2.2.2.2) := by
  unfold zbl
  refine M.o_bind (within_out hk (by omega) (by omega) (by omega) (by omega)) ?_
  rintro ⟨r2, u1, x1⟩ ⟨k1, g1, g1'⟩
  dsimp only at k1 g1 g1' ⊢
  refine M.o_bind (within_out k1 (by omega) (by omega) (by omega) (by omega)) ?_
  rintro ⟨r3, u2, x2⟩ ⟨k2, g2, g2'⟩
  dsimp only at k2 g2 g2' ⊢
  refine M.o_bind (within_out k2 (by omega) (by omega) (by omega) (by omega)) ?_
  rintro ⟨r4, u3, x3⟩ ⟨k3, g3, g3'⟩
  dsimp only at k3 g3 g3' ⊢
  refine M.o_bind (P := fun y => Bk.Nt f l t ⟨r2, r4, y.1, y.2.2⟩) ?_ ?_
  · refine M.o_iter (fun m (s : Int × Bool × List Int) => (1 <= s.1 /\ s.1 <= 2000) /\ ((s.2.1 = true /\ m = 1 + Int.toNat (2000 - s.1)) ∨ (s.2.1 = false /\ m = 0 /\ Bk.Nt f l t ⟨r2, r4, s.1, s.2.2⟩))) ?_ (1 + Int.toNat (2000 - r3)) _ ⟨⟨by omega, by omega⟩, .inl ⟨rfl, rfl⟩⟩
    rintro m ⟨s2, ag, l4⟩ ⟨⟨b1, b2⟩, hj⟩
    dsimp only at b1 b2 hj
    simp only [za6]
    rcases hj with ⟨rfl, rfl⟩ | ⟨rfl, rfl, hN⟩
    · refine M.o_t rfl (M.o_bind (noted_years (s := s2) g1 g3 g3' hl (by omega) (by omega)) ?_)
      rintro ⟨q1, q⟩ ⟨n1, n2, n3⟩
      dsimp only at n1 n2 n3 ⊢
      refine M.o_if (fun hb => ?_) (fun hb => ?_)
      · have hb := of_decide_eq_true hb
        have hs : s2 < 600 := by
          cases q with
          | nil => simp at hb
          | cons z q =>
            have h := (n3 z).1 (by simp)
            have := h6 (Int.toNat (z - f)) (by omega)
            omega
        refine M.o_grd (gA2 (by omega) (by omega)) (M.o_pure ⟨1 + Int.toNat (2000 - (s2 + 100)), by omega, ⟨by dsimp only; omega, by dsimp only; omega⟩, .inl ⟨rfl, ?_⟩⟩)
        dsimp only
        rw [show min 2000 (s2 + 100) = s2 + 100 by omega]
      · have hb := of_decide_eq_false hb
        exact M.o_pure ⟨0, by omega, ⟨b1, b2⟩, .inr ⟨rfl, rfl, ⟨g1, g3, g3', b1, b2, by dsimp only; omega, n2, n3⟩⟩⟩
    · exact M.o_f rfl (M.o_pure hN)
  · rintro ⟨s3, l5, l6⟩ hN
    exact M.o_pure ⟨hN, k3.mono (by omega)⟩
theorem made_out {c u x most : Int} (hk : SOk c u x) (hc : c <= 1000) (hm : 2 <= most /\ most <= 100) : (zbb b u x most).Out (fun y => Bk.Md most y.1 y.2.1 y.2.2.1 y.2.2.2.1 y.2.2.2.2.1 /\ SOk (c + 1000) y.2.2.2.2.2.1 y.2.2.2.2.2.2) := by
  unfold zbb
  refine M.o_bind (next_out hk (by omega) (by omega)) ?_
  rintro ⟨f, u1, x1⟩ ⟨k1, g1, _⟩
  have g1 := g1 (by omega)
  dsimp only at k1 g1 ⊢
  refine M.o_bind (next_out k1 (by omega) (by omega)) ?_
  rintro ⟨d, u2, x2⟩ ⟨k2, g2, _⟩
  have g2 := g2 (by omega)
  dsimp only at k2 g2 ⊢
  refine M.o_grd (gA2 (by omega) (by omega)) (M.o_bind (P := fun y => (y.2.2.2.2.1.length : Int) = d + 1 /\ (∀ i, i < y.2.2.2.2.1.length -> 0 <= y.2.2.2.2.1.getD i 0 /\ y.2.2.2.2.1.getD i 0 < 600) /\ y.2.2.2.2.2.length <= 60 /\ Bk.Yt f (f + d) y.2.2.2.2.1 y.2.2.2.2.2 /\ SOk (c + 2 + 4 * (d + 1)) y.1 y.2.1) ?_ ?_)
  · refine M.o_for (Int.toNat (d + 1)) (fun i (s : Int × Int × Int × List Yr × List Int) => s.2.2.1 = f + i /\ SOk (c + 2 + 4 * i) s.1 s.2.1 /\ s.2.2.2.2.length = i /\ (∀ k, k < i -> 0 <= s.2.2.2.2.getD k 0 /\ s.2.2.2.2.getD k 0 < 600) /\ s.2.2.2.1.length <= 60 /\ Bk.Yt f (f + i - 1) s.2.2.2.2 s.2.2.2.1) ?_ ?_ ⟨by simp, k2.mono (by omega), rfl, fun k hk => by omega, by simp, ⟨fun r hr => by simp at hr, .nil⟩⟩
    · rintro i ⟨s2, s3, y, q, t⟩ hi ⟨e1, e2, e3, e4, e5, e6⟩
      dsimp only at e1 e2 e3 e4 e5 e6
      subst e1
      simp only [zao]
      refine M.o_t (decide_eq_true (by omega)) (M.o_bind (next_out e2 (by omega) (by omega)) ?_)
      rintro ⟨r4, u4, x4⟩ ⟨k4, g4, _⟩
      have g4 := g4 (by omega)
      dsimp only at k4 g4 ⊢
      have ht : ∀ k, k < i + 1 -> 0 <= (t ++ [r4]).getD k 0 /\ (t ++ [r4]).getD k 0 < 600 := by
        intro k hk
        by_cases e : k < i
        · rw [getD_app_lt (by omega)]; exact e4 k e
        · obtain rfl : k = t.length := by omega
          rw [getD_app_eq]; exact g4
      have hY : Bk.Yt f (f + ((i + 1 : Nat) : Int) - 1) (t ++ [r4]) q := by
        refine ⟨fun r hr => ?_, e6.up⟩
        have h := e6.in_ r hr
        rw [getD_app_lt (by omega)]
        exact ⟨by omega, h.2⟩
      refine M.o_grdD (by simp only [List.length_cons, List.length_nil]; omega) (M.o_bind (next_out k4 (by omega) (by omega)) ?_)
      rintro ⟨r5, u5, x5⟩ ⟨k5, g5, _⟩
      dsimp only at k5 ⊢
      refine M.o_if (fun hb => ?_) (fun hb => ?_)
      · rw [Bool.and_eq_true, decide_eq_true_eq] at hb
        have hq := hb.2
        refine M.o_bind (next_out k5 (by omega) (by omega)) ?_
        rintro ⟨r6, u6, x6⟩ ⟨k6, g6, _⟩
        have g6 := g6 (by omega)
        dsimp only at k6 g6 ⊢
        refine M.o_grd (gA2 (by omega) (by omega)) (M.o_bind (next_out k6 (by omega) (by omega)) ?_)
        rintro ⟨r7, u7, x7⟩ ⟨k7, g7, _⟩
        have g7 := g7 (by omega)
        dsimp only at k7 g7 ⊢
        refine M.o_grd (gA2 (by omega) (by omega)) (M.o_grdD (by simp only [List.length_cons, List.length_nil]; omega) (M.o_grd (gA2 (by omega) (by omega)) (M.o_pure ⟨by dsimp only; omega, k7.mono (by omega), by dsimp only; rw [List.length_append, List.length_singleton, e3], ht, by dsimp only; rw [List.length_append, List.length_singleton]; omega, ⟨fun r hr => ?_, ?_⟩⟩)))
        · dsimp only at hr ⊢
          rcases List.mem_append.1 hr with hr | hr
          · exact hY.in_ r hr
          · rw [List.mem_singleton] at hr
            subst hr
            dsimp only
            rw [show Int.toNat (f + (i : Int) - f) = t.length by omega, getD_app_eq]
            omega
        · dsimp only
          rw [List.pairwise_append]
          refine ⟨e6.up, by simp, fun r hr s hs => ?_⟩
          rw [List.mem_singleton] at hs
          subst hs
          have := (e6.in_ r hr).1
          dsimp only
          omega
      · exact M.o_grd (gA2 (by omega) (by omega)) (M.o_pure ⟨by dsimp only; omega, k5.mono (by omega), by dsimp only; rw [List.length_append, List.length_singleton, e3], ht, e5, hY⟩)
    · rintro ⟨s2, s3, y, q, t⟩ ⟨e1, e2, e3, e4, e5, e6⟩
      dsimp only at e1 e2 e3 e4 e5 e6
      subst e1
      simp only [zao]
      refine M.o_f (decide_eq_false (by omega)) (M.o_pure ⟨by dsimp only; omega, fun k hk => e4 k (by dsimp only at hk; omega), e5, ?_, e2.mono (by omega)⟩)
      rwa [show f + ((Int.toNat (d + 1) : Nat) : Int) - 1 = f + d by omega] at e6
  · rintro ⟨s4, s5, l3, l4, t, q⟩ ⟨h1, h2, h3, h4, h5⟩
    dsimp only at h1 h2 h3 h4 h5 ⊢
    refine M.o_bind (next_out h5 (by omega) (by omega)) ?_
    rintro ⟨r8, u8, x8⟩ ⟨k8, g8, _⟩
    have g8 := g8 (by omega)
    dsimp only at k8 g8 ⊢
    refine M.o_bind (P := fun y => y.2.1.length <= 3 /\ (∀ o ∈ y.2.1, Bk.Nt f (f + d) t o) /\ SOk (c + 900) y.2.2.1 y.2.2.2) ?_ ?_
    · refine M.o_iter (fun m (s : Int × Int × Int × List Old10) => (m : Int) = s.2.2.1 /\ (s.2.2.2.length : Int) + s.2.2.1 <= 3 /\ (∀ o ∈ s.2.2.2, Bk.Nt f (f + d) t o) /\ SOk (c + 500 + 4 * (s.2.2.2.length : Int)) s.1 s.2.1) ?_ (Int.toNat r8) _ ⟨by dsimp only; omega, by simp; omega, fun o ho => by simp at ho, by simpa using k8.mono (by omega)⟩
      rintro m ⟨s6, s7, n, os⟩ ⟨e1, e2, e3, e4⟩
      dsimp only at e1 e2 e3 e4
      simp only [zaA]
      refine M.o_if (fun hb => ?_) (fun hb => ?_)
      · have hb := of_decide_eq_true hb
        refine M.o_bind (noted_out e4 (by omega) (by omega) (by omega) (by omega) (by omega) h2) ?_
        rintro ⟨r0, r1, r22, r32, q18, q28⟩ ⟨n1, n2⟩
        dsimp only at n1 n2 ⊢
        refine M.o_grdD (by simp only [List.length_cons, List.length_nil]; omega) (M.o_grd (gA2 (by omega) (by omega)) (M.o_pure ⟨m - 1, by omega, by dsimp only; omega, by dsimp only; rw [List.length_append, List.length_singleton]; omega, fun o ho => ?_, ?_⟩))
        · dsimp only at ho
          rcases List.mem_append.1 ho with ho | ho
          · exact e3 o ho
          · rw [List.mem_singleton] at ho
            subst ho
            exact n1
        · dsimp only
          rw [List.length_append, List.length_singleton]
          exact n2.mono (by omega)
      · have hb := of_decide_eq_false hb
        exact M.o_pure ⟨by dsimp only; omega, e3, e4.mono (by omega)⟩
    · rintro ⟨l8, os, s8, s9⟩ ⟨n1, n2, n3⟩
      dsimp only at n1 n2 n3 ⊢
      have hMd : Bk.Md most q os f (f + d) t := ⟨by omega, by omega, by omega, by omega, by omega, h2, h3, n1, h4, n2⟩
      exact M.o_pure ⟨hMd, n3.mono (by omega)⟩
end Go.Proofs.Ytcgalcbkkijkhaa
namespace Go.Proofs.Ytcgalcbkkijkhaa
open Go Go.Nm
variable {ys : List Yr} {os : List Old10} {f l : Int}
/-- A book that is not too long to be looked at. -/
structure Short (ys : List Yr) (os : List Old10) : Prop where
  y : ys.length <= 65
  o : os.length <= 10
  p : ∀ o ∈ os, o.passed.length <= 12
end Go.Proofs.Ytcgalcbkkijkhaa
section
set_option maxRecDepth 100000
set_option maxHeartbeats 16000000
namespace Go.Proofs.Ytcgalcbkkijkhaa
open Go Go.Nm
end Go.Proofs.Ytcgalcbkkijkhaa
end
section
set_option maxRecDepth 100000
set_option maxHeartbeats 16000000
namespace Go.Proofs.Ytcgalcbkkijkhaa
open Go Go.Nm
end Go.Proofs.Ytcgalcbkkijkhaa
end
namespace Go.Nm
namespace Bk
/-- What the years from one on can have. -/
def kl (ys : List Yr) (os : List Old10) (a : Int) (n : Nat) : List Span := (List.range n).map fun (i : Nat) => kn ys os (a + (i : Int))
theorem kl_succ (ys : List Yr) (os : List Old10) (a : Int) (n : Nat) : kl ys os a (n + 1) = kl ys os a n ++ [kn ys os (a + (n : Int))] := by
  unfold kl
  rw [List.range_succ, List.map_append]
  rfl
theorem kl_len (ys : List Yr) (os : List Old10) (a : Int) (n : Nat) : (kl ys os a n).length = n := by unfold kl; rw [List.length_map, List.length_range]
theorem kl_mem {ys : List Yr} {os : List Old10} {a : Int} {n : Nat} {s : Span} (h : s ∈ kl ys os a n) : ∃ i : Nat, i < n /\ s = kn ys os (a + (i : Int)) := by
  unfold kl at h
  obtain ⟨i, hi, rfl⟩ := List.mem_map.1 h
  exact ⟨i, List.mem_range.1 hi, rfl⟩
def In (f l fr to : Int) : Prop := f <= fr /\ fr <= to /\ to <= l
/-- The first error of a book, two years, a number, and that no truth can be. -/
def WrE (ys : List Yr) (os : List Old10) (f l fr to n a b e : Int) : Prop := (chkB ys os f l ≠ 0 /\ e = chkB ys os f l) ∨ (chkB ys os f l = 0 /\ ¬ In f l fr to /\ e = 2) ∨ (chkB ys os f l = 0 /\ In f l fr to /\ ¬ (a <= n /\ n <= b) /\ e = 4) ∨
  (chkB ys os f l = 0 /\ In f l fr to /\ (a <= n /\ n <= b) /\ ¬ Fine ys os f l /\ e = 6) ∨ (chkB ys os f l = 0 /\ In f l fr to /\ (a <= n /\ n <= b) /\ Fine ys os f l /\ e = 0)
theorem WrE.uniq {ys : List Yr} {os : List Old10} {f l fr to n a b e e' : Int} (h : WrE ys os f l fr to n a b e) (k : WrE ys os f l fr to n a b e') : e = e' := by
  rcases h with ⟨h1, rfl⟩ | ⟨h1, h2, rfl⟩ | ⟨h1, h2, h3, rfl⟩ | ⟨h1, h2, h3, h4, rfl⟩ | ⟨h1, h2, h3, h4, rfl⟩ <;> rcases k with ⟨k1, rfl⟩ | ⟨k1, k2, rfl⟩ | ⟨k1, k2, k3, rfl⟩ | ⟨k1, k2, k3, k4, rfl⟩ | ⟨k1, k2, k3, k4, rfl⟩ <;> first | rfl | contradiction
theorem WrE.ok {ys : List Yr} {os : List Old10} {f l fr to n a b : Int} (h : WrE ys os f l fr to n a b 0) : chkB ys os f l = 0 /\ In f l fr to /\ (a <= n /\ n <= b) /\ Fine ys os f l := by
  rcases h with ⟨h1, h2⟩ | ⟨h1, h2, h3⟩ | ⟨h1, h2, h3, h4⟩ | ⟨h1, h2, h3, h4, h5⟩ | ⟨h1, h2, h3, h4, h5⟩
  · exact absurd h2.symm h1
  · cases h3
  · cases h4
  · cases h5
  · exact ⟨h1, h2, h3, h4⟩
theorem WrE.last {ys : List Yr} {os : List Old10} {f l fr to n a b b' e : Int} (h : WrE ys os f l fr to n a b e) (hb : chkB ys os f l = 0 -> In f l fr to -> b = b') : WrE ys os f l fr to n a b' e := by
  rcases h with ⟨h1, h2⟩ | ⟨h1, h2, h3⟩ | ⟨h1, h2, h3, h4⟩ | ⟨h1, h2, h3, h4, h5⟩ | ⟨h1, h2, h3, h4, h5⟩
  · exact .inl ⟨h1, h2⟩
  · exact .inr (.inl ⟨h1, h2, h3⟩)
  · exact .inr (.inr (.inl ⟨h1, h2, by rw [← hb h1 h2]; exact h3, h4⟩))
  · exact .inr (.inr (.inr (.inl ⟨h1, h2, by rw [← hb h1 h2]; exact h3, h4, h5⟩)))
  · exact .inr (.inr (.inr (.inr ⟨h1, h2, by rw [← hb h1 h2]; exact h3, h4, h5⟩)))
def many (p : Span -> Bool) (ys : List Yr) (os : List Old10) (fr to : Int) : Int := ((kl ys os fr (Int.toNat (to + 1 - fr))).countP p : Nat)
def lop (x : Int) (s : Span) : Bool := decide (x <= s.lo)
def hip (x : Int) (s : Span) : Bool := decide (x <= s.hi)
def PaE (ys : List Yr) (os : List Old10) (f l fr to st : Int) (r : Int × Int × Int) : Prop := (r.2.2 ≠ 0 /\ WrE ys os f l fr to st 0 2000 r.2.2 /\ r.1 = 0 /\ r.2.1 = 0) ∨ (r.2.2 = 0 /\ WrE ys os f l fr to st 0 2000 0 /\ r.1 = many (lop st) ys os fr to /\ r.2.1 = many (hip st) ys os fr to)
theorem PaE.wr {ys : List Yr} {os : List Old10} {f l fr to st : Int} {r : Int × Int × Int} (h : PaE ys os f l fr to st r) : WrE ys os f l fr to st 0 2000 r.2.2 := by
  rcases h with ⟨h1, h2, h3⟩ | ⟨h1, h2, h3⟩
  · exact h2
  · rw [h1]; exact h2
theorem PaE.uniq {ys : List Yr} {os : List Old10} {f l fr to st : Int} {r s : Int × Int × Int} (h : PaE ys os f l fr to st r) (k : PaE ys os f l fr to st s) : r = s := by
  have e := h.wr.uniq k.wr
  obtain ⟨r1, r2, r3⟩ := r
  obtain ⟨s1, s2, s3⟩ := s
  dsimp only at e
  subst e
  rcases h with ⟨h1, h2, h3, h4⟩ | ⟨h1, h2, h3, h4⟩ <;> rcases k with ⟨k1, k2, k3, k4⟩ | ⟨k1, k2, k3, k4⟩ <;> dsimp only at h1 h3 h4 k1 k3 k4
  · rw [h3, h4, k3, k4]
  · exact absurd k1 h1
  · exact absurd h1 k1
  · rw [h3, h4, k3, k4]
/-- The highest number that so many have. -/
def Top (L : List Int) (t v : Int) : Prop := 0 <= v /\ v <= 2000 /\ t <= (L.countP (fun x => decide (v <= x)) : Nat) /\ ((L.countP (fun x => decide (v + 1 <= x)) : Nat) : Int) < t
theorem cnt_mono {L : List Int} {v w : Int} (h : v <= w) : L.countP (fun x => decide (w <= x)) <= L.countP (fun x => decide (v <= x)) := by
  refine List.countP_mono_left fun x _ hx => ?_
  have := of_decide_eq_true hx
  exact decide_eq_true (by omega)
theorem Top.uniq {L : List Int} {t v w : Int} (h : Top L t v) (k : Top L t w) : v = w := by
  obtain ⟨h1, h2, h3, h4⟩ := h
  obtain ⟨k1, k2, k3, k4⟩ := k
  rcases Int.lt_trichotomy v w with e | e | e
  · have := cnt_mono (L := L) (v := v + 1) (w := w) (by omega)
    omega
  · exact e
  · have := cnt_mono (L := L) (v := w + 1) (w := v) (by omega)
    omega
theorem top_sort {L : List Int} (hL : ∀ x ∈ L, 0 <= x /\ x <= 2000) {t : Nat} (h1 : 1 <= t) (h2 : t <= L.length) : Top L t ((isort L).getD (L.length - t) 0) := by
  have hp := isort_perm L
  have hlen : (isort L).length = L.length := hp.length_eq
  have ha := isort_asc L
  have hm : ∀ x ∈ isort L, 0 <= x /\ x <= 2000 := fun x hx => hL x (hp.mem_iff.1 hx)
  unfold Top
  rw [← hp.countP_eq, ← hp.countP_eq]
  generalize isort L = s at *
  have hk : L.length - t < s.length := by omega
  have e : s.getD (L.length - t) 0 = s[L.length - t] := by rw [List.getD_eq_getElem?_getD, List.getElem?_eq_getElem hk, Option.getD_some]
  rw [e]
  have hv := hm s[L.length - t] (List.getElem_mem hk)
  refine ⟨hv.1, hv.2, ?_, ?_⟩
  · have e1 : s.countP (fun x => decide (s[L.length - t] <= x)) = (s.take (L.length - t)).countP (fun x => decide (s[L.length - t] <= x)) + (s.drop (L.length - t)).countP (fun x => decide (s[L.length - t] <= x)) := by
      rw [← List.countP_append, List.take_append_drop]
    have e2 : (s.drop (L.length - t)).countP (fun x => decide (s[L.length - t] <= x)) = (s.drop (L.length - t)).length := by
      rw [List.countP_eq_length]
      intro x hx
      obtain ⟨i, hi, rfl⟩ := List.getElem_of_mem hx
      rw [List.length_drop] at hi
      rw [List.getElem_drop]
      refine decide_eq_true ?_
      by_cases h0 : i = 0
      · subst h0; exact Int.le_refl _
      · exact List.pairwise_iff_getElem.1 ha (L.length - t) (L.length - t + i) hk (by omega) (by omega)
    rw [List.length_drop] at e2
    omega
  · have e1 : s.countP (fun x => decide (s[L.length - t] + 1 <= x)) = (s.take (L.length - t + 1)).countP (fun x => decide (s[L.length - t] + 1 <= x)) + (s.drop (L.length - t + 1)).countP (fun x => decide (s[L.length - t] + 1 <= x)) := by
      rw [← List.countP_append, List.take_append_drop]
    have e2 : (s.take (L.length - t + 1)).countP (fun x => decide (s[L.length - t] + 1 <= x)) = 0 := by
      rw [List.countP_eq_zero]
      intro x hx
      obtain ⟨i, hi, rfl⟩ := List.getElem_of_mem hx
      rw [List.length_take] at hi
      rw [List.getElem_take, decide_eq_true_eq]
      by_cases h0 : i = L.length - t
      · subst h0; omega
      · have := List.pairwise_iff_getElem.1 ha i (L.length - t) (by omega) hk (by omega)
        omega
    have e3 := List.countP_le_length (p := fun x => decide (s[L.length - t] + 1 <= x)) (l := s.drop (L.length - t + 1))
    rw [List.length_drop] at e3
    omega
def ReE (ys : List Yr) (os : List Old10) (f l fr to t : Int) (r : Int × Int × Int) : Prop := (r.2.2 ≠ 0 /\ WrE ys os f l fr to t 1 (to - fr + 1) r.2.2 /\ r.1 = 0 /\ r.2.1 = 0) ∨
  (r.2.2 = 0 /\ WrE ys os f l fr to t 1 (to - fr + 1) 0 /\ Top ((kl ys os fr (Int.toNat (to + 1 - fr))).map Span.lo) t r.1 /\ Top ((kl ys os fr (Int.toNat (to + 1 - fr))).map Span.hi) t r.2.1)
theorem ReE.wr {ys : List Yr} {os : List Old10} {f l fr to t : Int} {r : Int × Int × Int} (h : ReE ys os f l fr to t r) : WrE ys os f l fr to t 1 (to - fr + 1) r.2.2 := by
  rcases h with ⟨h1, h2, h3⟩ | ⟨h1, h2, h3⟩
  · exact h2
  · rw [h1]; exact h2
theorem ReE.uniq {ys : List Yr} {os : List Old10} {f l fr to t : Int} {r s : Int × Int × Int} (h : ReE ys os f l fr to t r) (k : ReE ys os f l fr to t s) : r = s := by
  have e := h.wr.uniq k.wr
  obtain ⟨r1, r2, r3⟩ := r
  obtain ⟨s1, s2, s3⟩ := s
  dsimp only at e
  subst e
  rcases h with ⟨h1, h2, h3, h4⟩ | ⟨h1, h2, h3, h4⟩ <;> rcases k with ⟨k1, k2, k3, k4⟩ | ⟨k1, k2, k3, k4⟩ <;> dsimp only at h1 h3 h4 k1 k3 k4
  · rw [h3, h4, k3, k4]
  · exact absurd k1 h1
  · exact absurd h1 k1
  · rw [h3.uniq k3, h4.uniq k4]
end Bk
end Go.Nm
namespace Go.Proofs.Ytcgalcbkkijkhaa
open Go Go.Nm
variable {ys : List Yr} {os : List Old10} {f l : Int}
theorem between_out (hy : ys.length <= 1000000) (ho : os.length <= 1000000) (fr to n a b : Int) : (zaG ys os f l fr to n a b).Out (fun r => match r with | .inl e => e ≠ 0 /\ Bk.WrE ys os f l fr to n a b e | .inr (f', l', m, z) => f' = f /\ l' = l /\ z = 0 /\ Bk.WrE ys os f l fr to n a b 0 /\ Knows ys os f l m) := by
  unfold zaG
  by_cases h0 : Bk.chkB ys os f l = 0
  · have h := Bk.chk_ok h0
    obtain ⟨m, g1, hm⟩ := opened_ok hy ho h0
    refine M.o_bindE g1 (M.o_f rfl (M.o_bindE (in_ends _ _ _) (M.o_bindE (a := (decide (f <= fr) && decide (fr <= to)) && (decide (f <= to) && decide (to <= l))) (M.i_opt (fun h => by rw [Bool.not_not] at h; rw [h]; exact in_ends _ _ _) (fun h => by rw [Bool.not_not] at h; rw [h]; rfl)) (M.o_if (fun hb => ?_) (fun hb => ?_)))))
    · have hI : ¬ Bk.In f l fr to := by
        rintro ⟨i1, i2, i3⟩
        rw [decide_eq_true i1, decide_eq_true i2, decide_eq_true i3, decide_eq_true (show f <= to by omega)] at hb
        cases hb
      exact M.o_pure ⟨by decide, .inr (.inl ⟨h0, hI, rfl⟩)⟩
    · have hI : Bk.In f l fr to := by
        rw [Bool.or_eq_false_iff, Bool.not_eq_false', Bool.not_eq_false'] at hb
        have := hb.2
        rw [Bool.and_eq_true, Bool.and_eq_true, Bool.and_eq_true, decide_eq_true_eq, decide_eq_true_eq, decide_eq_true_eq, decide_eq_true_eq] at this
        exact ⟨this.1.1, this.1.2, this.2.2⟩
      refine M.o_bindE (in_ends _ _ _) (M.o_if (fun hb => ?_) (fun hb => ?_))
      · rw [Bool.not_eq_true', Bool.and_eq_false_iff, decide_eq_false_iff_not, decide_eq_false_iff_not] at hb
        exact M.o_pure ⟨by decide, .inr (.inr (.inl ⟨h0, hI, by omega, rfl⟩))⟩
      · rw [Bool.not_eq_false', Bool.and_eq_true, decide_eq_true_eq, decide_eq_true_eq] at hb
        refine M.o_bind (clash_out h hm) ?_
        rintro ⟨y', c⟩ (⟨e, hF⟩ | ⟨e, hF⟩)
        · rw [Prod.mk.injEq] at e
          obtain ⟨rfl, rfl⟩ := e
          exact M.o_f rfl (M.o_pure ⟨rfl, rfl, rfl, .inr (.inr (.inr (.inr ⟨h0, hI, hb, hF, rfl⟩))), hm⟩)
        · dsimp only at e hF
          subst e
          exact M.o_t rfl (M.o_pure ⟨by decide, .inr (.inr (.inr (.inl ⟨h0, hI, hb, fun hh => hF.bad hh, rfl⟩)))⟩)
  · exact M.o_bindE (opened_bad hy ho h0) (M.o_t (bne_iff_ne.2 h0) (M.o_pure ⟨h0, .inl ⟨h0, rfl⟩⟩))
theorem cnt_succ (p : Span -> Bool) (a : Int) (n : Nat) : ((Bk.kl ys os a (n + 1)).countP p : Int) = ((Bk.kl ys os a n).countP p : Int) + (if p (Bk.kn ys os (a + (n : Int))) = true then 1 else 0) := by
  rw [Bk.kl_succ, List.countP_append]
  simp only [List.countP_cons, List.countP_nil]
  split <;> simp
theorem cnt_le (p : Span -> Bool) (a : Int) (n : Nat) : (Bk.kl ys os a n).countP p <= n := by
  have := List.countP_le_length (p := p) (l := Bk.kl ys os a n)
  rwa [Bk.kl_len] at this
theorem of_passed (hy : ys.length <= 1000000) (ho : os.length <= 1000000) (fr to st : Int) : (zag ys os f l fr to st).Out (Bk.PaE ys os f l fr to st) := by
  unfold zag
  refine M.o_bind (between_out hy ho fr to st 0 2000) ?_
  rintro (e | ⟨f', l', m, z⟩) h
  · exact M.o_t (bne_iff_ne.2 h.1) (M.o_pure (.inl ⟨h.1, h.2, rfl, rfl⟩))
  · obtain ⟨rfl, rfl, rfl, hw, hm⟩ := h
    obtain ⟨h0, ⟨i1, i2, i3⟩, hn, hF⟩ := hw.ok
    have h := Bk.chk_ok h0
    have hf0 := h.f0
    have hl3 := h.l3
    have hln := h.ln
    unfold zad
    refine M.o_f rfl (M.o_bindE M.i_pure (M.o_bind (P := fun x => match x with | .inl s => s = (Bk.many (Bk.lop st) ys os fr to, Bk.many (Bk.hip st) ys os fr to) | .inr (_ : Unit) => False) ?_ ?_))
    · refine years_out (s0 := ((0 : Int), (0 : Int))) hl3 (by omega) (by omega) i3 i1 hm (fun y s => ∃ n : Nat, y = fr + n /\ s = (((Bk.kl ys os fr n).countP (Bk.lop st) : Int), ((Bk.kl ys os fr n).countP (Bk.hip st) : Int))) ⟨0, by omega, rfl⟩ ?_ ?_ _ _ _ _
      · rintro y ⟨s, s2⟩ h1 h2 ⟨n, rfl, e⟩
        obtain ⟨rfl, rfl⟩ := Prod.mk.inj e
        have c1 := cnt_le (ys := ys) (os := os) (Bk.lop st) fr n
        have c2 := cnt_le (ys := ys) (os := os) (Bk.hip st) fr n
        have d1 := cnt_succ (ys := ys) (os := os) (Bk.lop st) fr n
        have d2 := cnt_succ (ys := ys) (os := os) (Bk.hip st) fr n
        simp only [zan]
        refine M.o_bindE M.i_pure (M.o_bindE M.i_pure (M.o_bindE M.i_pure (M.o_if (fun hb => ?_) (fun hb => ?_))))
        · have hb' : Bk.lop st (Bk.kn ys os (fr + (n : Int))) = true := hb
          rw [if_pos hb'] at d1
          refine M.o_grd (gA2 (by omega) (by omega)) (M.o_bindE M.i_pure (M.o_bindE M.i_pure (M.o_bindE M.i_pure (M.o_if (fun hc => ?_) (fun hc => ?_)))))
          · have hc' : Bk.hip st (Bk.kn ys os (fr + (n : Int))) = true := hc
            rw [if_pos hc'] at d2
            exact M.o_grd (gA2 (by omega) (by omega)) (M.o_pure ⟨n + 1, by omega, by rw [d1, d2]⟩)
          · have hc' : Bk.hip st (Bk.kn ys os (fr + (n : Int))) = false := hc
            rw [if_neg (by rw [hc']; simp)] at d2
            exact M.o_pure ⟨n + 1, by omega, by rw [d1, d2, Int.add_zero]⟩
        · have hb' : Bk.lop st (Bk.kn ys os (fr + (n : Int))) = false := hb
          rw [if_neg (by rw [hb']; simp)] at d1
          refine M.o_bindE M.i_pure (M.o_bindE M.i_pure (M.o_bindE M.i_pure (M.o_if (fun hc => ?_) (fun hc => ?_))))
          · have hc' : Bk.hip st (Bk.kn ys os (fr + (n : Int))) = true := hc
            rw [if_pos hc'] at d2
            exact M.o_grd (gA2 (by omega) (by omega)) (M.o_pure ⟨n + 1, by omega, by rw [d1, d2, Int.add_zero]⟩)
          · have hc' : Bk.hip st (Bk.kn ys os (fr + (n : Int))) = false := hc
            rw [if_neg (by rw [hc']; simp)] at d2
            exact M.o_pure ⟨n + 1, by omega, by rw [d1, d2, Int.add_zero, Int.add_zero]⟩
      · rintro s ⟨n, e, rfl⟩
        unfold Bk.many
        rw [show Int.toNat (to + 1 - fr) = n by omega]
    · intro x hx
      cases x with
      | inl s => subst hx; exact M.o_pure (.inr ⟨rfl, hw, rfl, rfl⟩)
      | inr u => exact hx.elim
end Go.Proofs.Ytcgalcbkkijkhaa
namespace Go.Proofs.Ytcgalcbkkijkhaa
open Go Go.Nm
variable {ys : List Yr} {os : List Old10} {f l : Int}
theorem told_list {m : List (Int × Span)} {c d fr to : Int} {bd : List Int -> Int × Span -> M (List Int ⊕ Unit)} (g : Span -> Int) (hb : ∀ q x s, q.length <= 100000 -> (bd q (x, s)).Ends (.inl (q ++ [g s]))) (hd : d <= 3000) (ha : 0 <= fr) (hab : fr <= to + 1) (hto : to <= d) (hc : c <= fr) (hm : Knows ys os c d m) (yw : List Yr) (ow : List Old10) (cw dw : Int) :
    (zaf (M.yl bd) (.inl []) fr to yw ow cw dw m).Ends (.inl ((Bk.kl ys os fr (Int.toNat (to + 1 - fr))).map g)) := by
  refine M.Out.ends ?_
  refine years_out (s0 := ([] : List Int)) hd ha hab hto hc hm (fun y s => ∃ n : Nat, y = fr + n /\ s = (Bk.kl ys os fr n).map g) ⟨0, by omega, rfl⟩ ?_ ?_ _ _ _ _
  · rintro y s h1 h2 ⟨n, rfl, rfl⟩
    refine M.o_of (hb _ _ _ (by rw [List.length_map, Bk.kl_len]; omega)) ⟨n + 1, by omega, ?_⟩
    rw [Bk.kl_succ, List.map_append]
    rfl
  · rintro s ⟨n, e, rfl⟩
    rw [show Int.toNat (to + 1 - fr) = n by omega]
/-! ### Shares -/
theorem share_ends {n d : Nat} (hn : n <= 1000000) (hd : d <= 1000000) (h0 : 0 < d) : (zaT (n : Int) (d : Int)).Ends (((n / Nat.gcd n d : Nat) : Int), ((d / Nat.gcd n d : Nat) : Int)) := by
  refine M.Out.ends ?_
  unfold zaT
  have hg : 0 < Nat.gcd n d := Nat.gcd_pos_of_pos_right _ h0
  refine M.o_bind (P := fun a => a = ((Nat.gcd n d : Nat) : Int)) ?_ ?_
  · refine M.o_iter (fun k (s : Int × Int) => ∃ a b : Nat, s = ((a : Int), (b : Int)) /\ k = b /\ Nat.gcd a b = Nat.gcd n d) ?_ d _ ⟨n, d, rfl, rfl, rfl⟩
    rintro k ⟨x, y⟩ ⟨a, b, e, hk, e2⟩
    subst hk
    obtain ⟨rfl, rfl⟩ := Prod.mk.inj e
    simp only [zbc]
    refine M.o_if (fun hb => ?_) (fun hb => ?_)
    · have hb : k ≠ 0 := fun e => by subst e; simp at hb
      refine M.o_grd (gA2 (by omega) (by omega)) (M.o_pure ⟨a % k, Nat.mod_lt _ (by omega), k, a % k, ?_, rfl, ?_⟩)
      · rw [Prod.mk.injEq]
        exact ⟨rfl, (Int.natCast_emod a k).symm⟩
      · rw [← e2, Nat.gcd_comm a k, Nat.gcd_rec k a, Nat.gcd_comm]
    · have hb : k = 0 := by
        have : (k : Int) = 0 := by simpa using hb
        omega
      subst hb
      rw [Nat.gcd_zero_right] at e2
      exact M.o_pure (by rw [e2]; rfl)
  · rintro a rfl
    exact M.o_grd (gA3 (by omega) (by omega) (by omega)) (M.o_grd (gA3 (by omega) (by omega) (by omega)) (M.o_pure (by rw [Int.natCast_ediv, Int.natCast_ediv])))
/-! ### The highest stage that is passed so often -/
theorem wr64_id {a : Int} (h : -9223372036854775808 <= a /\ a <= 9223372036854775807) : wr64 a = a := wrap64 h
theorem reach_one (g : Span -> Int) (hg : ∀ s : Span, (0 <= s.lo /\ s.lo <= 2000 /\ 0 <= s.hi /\ s.hi <= 2000) -> 0 <= g s /\ g s <= 2000) {fr to t : Int} (h : Bk.Ok ys os f l) (hI : Bk.In f l fr to) (ht : 1 <= t /\ t <= to - fr + 1) {L : List Int} (hL : L = (Bk.kl ys os fr (Int.toNat (to + 1 - fr))).map g) :
    (M.grd (decide (L.length <= 1000000)) <| M.grd (decide ((-9223372036854775808 : Int) <= (((isort L).length : Int) - t)) && decide ((((isort L).length : Int) - t) <= (9223372036854775807 : Int))) <|
      M.grd (decide ((0 : Int) <= (((isort L).length : Int) - t)) && decide ((((isort L).length : Int) - t) < ((isort L).length : Int))) <| M.pure ((isort L).getD (Int.toNat (((isort L).length : Int) - t)) 0)).Out (Bk.Top L t) := by
  obtain ⟨i1, i2, i3⟩ := hI
  have hl3 := h.l3
  have hf0 := h.f0
  have hlen : L.length = Int.toNat (to + 1 - fr) := by rw [hL, List.length_map, Bk.kl_len]
  have hsl : (isort L).length = L.length := (isort_perm L).length_eq
  have hall : ∀ x ∈ L, 0 <= x /\ x <= 2000 := by
    intro x hx
    rw [hL] at hx
    obtain ⟨s, hs, rfl⟩ := List.mem_map.1 hx
    obtain ⟨i, hi, rfl⟩ := Bk.kl_mem hs
    exact hg _ (Bk.kn_in h.y h.o _)
  have k := Bk.top_sort hall (t := Int.toNat t) (by omega) (by omega)
  rw [hsl]
  refine M.o_grdD (by omega) (M.o_grd (gA2 (by omega) (by omega)) (M.o_grd (gA2 (by omega) (by omega)) (M.o_pure ?_)))
  rw [show Int.toNat ((L.length : Int) - t) = L.length - Int.toNat t by omega]
  rwa [show ((Int.toNat t : Nat) : Int) = t by omega] at k
theorem of_reaches (hy : ys.length <= 1000000) (ho : os.length <= 1000000) (fr to t : Int) : (zat ys os f l fr to t).Out (Bk.ReE ys os f l fr to t) := by
  unfold zat
  have hlast : Bk.chkB ys os f l = 0 -> Bk.In f l fr to -> wr64 (wr64 (to - fr) + 1) = to - fr + 1 := by
    rintro h0 ⟨i1, i2, i3⟩
    have h := Bk.chk_ok h0
    have hf0 := h.f0
    have hl3 := h.l3
    rw [wr64_id (a := to - fr) (by omega), wr64_id (by omega)]
  refine M.o_bind (between_out hy ho fr to t 1 (wr64 (wr64 (to - fr) + 1))) ?_
  rintro (e | ⟨f', l', m, z⟩) h
  · exact M.o_t (bne_iff_ne.2 h.1) (M.o_pure (.inl ⟨h.1, h.2.last hlast, rfl, rfl⟩))
  · obtain ⟨rfl, rfl, rfl, hw, hm⟩ := h
    have hw := hw.last hlast
    obtain ⟨h0, hI, hn, hF⟩ := hw.ok
    have h := Bk.chk_ok h0
    have hf0 := h.f0
    have hl3 := h.l3
    have hln := h.ln
    obtain ⟨i1, i2, i3⟩ := id hI
    have r1 : (zaE ys os f' l' m fr to t).Out (Bk.Top ((Bk.kl ys os fr (Int.toNat (to + 1 - fr))).map Span.lo) t) := by
      unfold zaE zad
      refine M.o_bindE M.i_pure (M.o_bindE (told_list Span.lo (fun q x s hq => ?_) hl3 (by omega) (by omega) (by omega) (by omega) hm _ _ _ _) (reach_one Span.lo (fun s hs => by omega) h hI hn rfl))
      simp only [zak]
      exact M.i_bind M.i_pure (M.i_grd (decide_eq_true (by simp only [List.length_cons, List.length_nil]; omega)) M.i_pure)
    have r2 : (zaP ys os f' l' m fr to t).Out (Bk.Top ((Bk.kl ys os fr (Int.toNat (to + 1 - fr))).map Span.hi) t) := by
      unfold zaP zad
      refine M.o_bindE M.i_pure (M.o_bindE (told_list Span.hi (fun q x s hq => ?_) hl3 (by omega) (by omega) (by omega) (by omega) hm _ _ _ _) (reach_one Span.hi (fun s hs => by omega) h hI hn rfl))
      simp only [zai]
      exact M.i_bind M.i_pure (M.i_grd (decide_eq_true (by simp only [List.length_cons, List.length_nil]; omega)) M.i_pure)
    refine M.o_f rfl (M.o_bindE M.i_pure (M.o_bind r1 fun a ha => M.o_bindE M.i_pure (M.o_bind r2 fun b hb => M.o_pure (.inr ⟨rfl, hw, ha, hb⟩))))
theorem top_some {L : List Int} {t : Int} (hL : ∀ x ∈ L, 0 <= x /\ x <= 2000) (h : 1 <= t /\ t <= L.length) : ∃ v, Bk.Top L t v := by
  have k := Bk.top_sort hL (t := Int.toNat t) (by omega) (by omega)
  rw [show ((Int.toNat t : Nat) : Int) = t by omega] at k
  exact ⟨_, k⟩
end Go.Proofs.Ytcgalcbkkijkhaa
section
set_option maxRecDepth 100000
set_option maxHeartbeats 16000000
namespace Go.Proofs.Ytcgalcbkkijkhaa
open Go Go.Nm
end Go.Proofs.Ytcgalcbkkijkhaa
end
namespace Go.Nm
namespace Bk
/-- The shares of all years, or the error. -/
def RtE (ys : List Yr) (os : List Old10) (f l st : Int) (r : Int × Int × Int × Int × Int) : Prop := (r.2.2.2.2 ≠ 0 /\ WrE ys os f l f l st 0 2000 r.2.2.2.2 /\ r.1 = 0 /\ r.2.1 = 0 /\ r.2.2.1 = 0 /\ r.2.2.2.1 = 0) ∨
  (r.2.2.2.2 = 0 /\ WrE ys os f l f l st 0 2000 0 /\ ∃ a b : Nat, a <= 100000 /\ b <= 100000 /\ many (lop st) ys os f l = a /\ many (hip st) ys os f l = b /\ r.1 = ((a / Nat.gcd a (Int.toNat (l - f + 1)) : Nat) : Int) /\ r.2.1 = ((Int.toNat (l - f + 1) / Nat.gcd a (Int.toNat (l - f + 1)) : Nat) : Int) ∧
    r.2.2.1 = ((b / Nat.gcd b (Int.toNat (l - f + 1)) : Nat) : Int) /\ r.2.2.2.1 = ((Int.toNat (l - f + 1) / Nat.gcd b (Int.toNat (l - f + 1)) : Nat) : Int))
end Bk
end Go.Nm
namespace Go.Proofs.Ytcgalcbkkijkhaa
open Go Go.Nm
variable {ys : List Yr} {os : List Old10} {f l : Int}
theorem of_returns (hy : ys.length <= 1000000) (ho : os.length <= 1000000) (st : Int) : (zaw ys os f l st).Out (Bk.RtE ys os f l st) := by
  unfold zaw
  refine M.o_bind (of_passed hy ho f l st) ?_
  rintro ⟨a, b, e⟩ (⟨h1, h2, h3, h4⟩ | ⟨h1, h2, h3, h4⟩)
  · dsimp only at h1 h2 ⊢
    exact M.o_t (bne_iff_ne.2 h1) (M.o_pure (.inl ⟨h1, h2, rfl, rfl, rfl, rfl⟩))
  · dsimp only at h1 h3 h4 ⊢
    subst h1 h3 h4
    obtain ⟨h0, hI, hn, hF⟩ := h2.ok
    have h := Bk.chk_ok h0
    have hf0 := h.f0
    have hfl := h.fl
    have hl3 := h.l3
    have hln := h.ln
    have c1 := cnt_le (ys := ys) (os := os) (Bk.lop st) f (Int.toNat (l + 1 - f))
    have c2 := cnt_le (ys := ys) (os := os) (Bk.hip st) f (Int.toNat (l + 1 - f))
    have k1 := share_ends (n := (Bk.kl ys os f (Int.toNat (l + 1 - f))).countP (Bk.lop st)) (d := Int.toNat (l - f + 1)) (by omega) (by omega) (by omega)
    have k2 := share_ends (n := (Bk.kl ys os f (Int.toNat (l + 1 - f))).countP (Bk.hip st)) (d := Int.toNat (l - f + 1)) (by omega) (by omega) (by omega)
    rw [show ((Int.toNat (l - f + 1) : Nat) : Int) = l - f + 1 by omega] at k1 k2
    exact M.o_f rfl (M.o_grd (gA2 (by omega) (by omega)) (M.o_grd (gA2 (by omega) (by omega)) (M.o_bindE k1 (M.o_bindE k2 (M.o_pure (.inr ⟨rfl, h2, _, _, by omega, by omega, rfl, rfl, rfl, rfl, rfl, rfl⟩))))))
end Go.Proofs.Ytcgalcbkkijkhaa
namespace Go.Nm
namespace Bk
/-- What a truth has from one year on. -/
def vl (t : List Int) (f a : Int) (n : Nat) : List Int := (List.range n).map fun (i : Nat) => t.getD (Int.toNat (a + (i : Int) - f)) 0
def ct (t : List Int) (f a : Int) (n : Nat) (st : Int) : Nat := (vl t f a n).countP fun x => decide (st <= x)
theorem vl_succ (t : List Int) (f a : Int) (n : Nat) : vl t f a (n + 1) = vl t f a n ++ [t.getD (Int.toNat (a + (n : Int) - f)) 0] := by
  unfold vl
  rw [List.range_succ, List.map_append]
  rfl
theorem vl_len (t : List Int) (f a : Int) (n : Nat) : (vl t f a n).length = n := by unfold vl; rw [List.length_map, List.length_range]
theorem ct_succ (t : List Int) (f a : Int) (n : Nat) (st : Int) : ct t f a (n + 1) st = ct t f a n st + (if st <= t.getD (Int.toNat (a + (n : Int) - f)) 0 then 1 else 0) := by
  unfold ct
  rw [vl_succ, List.countP_append]
  simp [List.countP_cons]
theorem ct_le (t : List Int) (f a : Int) (n : Nat) (st : Int) : ct t f a n st <= n := by
  have := List.countP_le_length (p := fun x => decide (st <= x)) (l := vl t f a n)
  rwa [vl_len] at this
theorem mapc {g h : Nat -> Int} {n : Nat} (hgh : ∀ i, i < n -> g i <= h i) (st : Int) : ((List.range n).map g).countP (fun x => decide (st <= x)) <= ((List.range n).map h).countP (fun x => decide (st <= x)) := by
  rw [List.countP_map, List.countP_map]
  refine List.countP_mono_left fun i hi hx => ?_
  have h1 := hgh i (List.mem_range.1 hi)
  have h2 : st <= g i := of_decide_eq_true hx
  exact decide_eq_true (by omega)
theorem Top.le {A B : List Int} {t u v : Int} (hc : ∀ x, A.countP (fun y => decide (x <= y)) <= B.countP (fun y => decide (x <= y))) (hu : Top A t u) (hv : Top B t v) : u <= v := by
  obtain ⟨h1, h2, h3, h4⟩ := hu
  obtain ⟨k1, k2, k3, k4⟩ := hv
  refine Int.not_lt.1 fun e => ?_
  have := cnt_mono (L := B) (v := v + 1) (w := u) (by omega)
  have := hc u
  omega
theorem los (ys : List Yr) (os : List Old10) (a : Int) (n : Nat) : (kl ys os a n).map Span.lo = (List.range n).map fun (i : Nat) => (kn ys os (a + (i : Int))).lo := by unfold kl; rw [List.map_map]; rfl
theorem his (ys : List Yr) (os : List Old10) (a : Int) (n : Nat) : (kl ys os a n).map Span.hi = (List.range n).map fun (i : Nat) => (kn ys os (a + (i : Int))).hi := by unfold kl; rw [List.map_map]; rfl
theorem many_lo (ys : List Yr) (os : List Old10) (fr to st : Int) : many (lop st) ys os fr to = (((kl ys os fr (Int.toNat (to + 1 - fr))).map Span.lo).countP (fun x => decide (st <= x)) : Nat) := by unfold many; rw [List.countP_map]; rfl
theorem many_hi (ys : List Yr) (os : List Old10) (fr to st : Int) : many (hip st) ys os fr to = (((kl ys os fr (Int.toNat (to + 1 - fr))).map Span.hi).countP (fun x => decide (st <= x)) : Nat) := by unfold many; rw [List.countP_map]; rfl
theorem Tr.lo_ct {ys : List Yr} {os : List Old10} {f l : Int} {t : List Int} (h : Tr ys os f l t) {fr to : Int} (hI : In f l fr to) (st : Int) : ((kl ys os fr (Int.toNat (to + 1 - fr))).map Span.lo).countP (fun x => decide (st <= x)) <= (vl t f fr (Int.toNat (to + 1 - fr))).countP (fun x => decide (st <= x)) := by
  obtain ⟨i1, i2, i3⟩ := hI
  rw [los]
  exact mapc (fun i hi => (h.at_ (y := fr + i) (by omega) (by omega)).1) st
theorem Tr.ct_hi {ys : List Yr} {os : List Old10} {f l : Int} {t : List Int} (h : Tr ys os f l t) {fr to : Int} (hI : In f l fr to) (st : Int) : (vl t f fr (Int.toNat (to + 1 - fr))).countP (fun x => decide (st <= x)) <= ((kl ys os fr (Int.toNat (to + 1 - fr))).map Span.hi).countP (fun x => decide (st <= x)) := by
  obtain ⟨i1, i2, i3⟩ := hI
  rw [his]
  exact mapc (fun i hi => (h.at_ (y := fr + i) (by omega) (by omega)).2) st
theorem share_nat {n d : Nat} (h0 : 0 < d) : n / Nat.gcd n d * d = n * (d / Nat.gcd n d) /\ 0 < d / Nat.gcd n d /\ d / Nat.gcd n d <= d /\ n / Nat.gcd n d <= n := by
  have hg : 0 < Nat.gcd n d := Nat.gcd_pos_of_pos_right _ h0
  have hN : n / Nat.gcd n d * Nat.gcd n d = n := Nat.div_mul_cancel (Nat.gcd_dvd_left n d)
  have hD : d / Nat.gcd n d * Nat.gcd n d = d := Nat.div_mul_cancel (Nat.gcd_dvd_right n d)
  generalize Nat.gcd n d = g at *
  refine ⟨?_, Nat.div_pos (Nat.le_of_dvd h0 ⟨d / g, by rw [Nat.mul_comm]; exact hD.symm⟩) hg, Nat.div_le_self _ _, Nat.div_le_self _ _⟩
  generalize n / g = N at *
  generalize d / g = D at *
  have : N * (D * g) = N * g * D := by rw [Nat.mul_comm D g, Nat.mul_assoc]
  rw [hN, hD] at this
  exact this
/-- What is told of a book with a truth. -/
theorem Tr.wr {ys : List Yr} {os : List Old10} {f l : Int} {t : List Int} (h : Tr ys os f l t) {fr to n a b : Int} (hI : In f l fr to) (hn : a <= n /\ n <= b) : WrE ys os f l fr to n a b 0 := .inr (.inr (.inr (.inr ⟨chk_of h.ok, hI, hn, h.fine, rfl⟩)))
end Bk
end Go.Nm
namespace Go.Proofs.Ytcgalcbkkijkhaa
open Go Go.Nm
variable {ys : List Yr} {os : List Old10} {f l : Int} {t : List Int}
theorem counted_ends (ys : List Yr) (os : List Old10) {fr to : Int} (st : Int) (h1 : f <= fr) (h2 : fr <= to + 1) (h3 : to <= l) (hf : 0 <= f) (hl : l <= 3000) (hlen : (t.length : Int) = l - f + 1) : (zay ys os f l t fr to st).Ends (Bk.ct t f fr (Int.toNat (to + 1 - fr)) st : Nat) := by
  refine M.Out.ends ?_
  unfold zay
  refine M.o_bind (P := fun n => n = ((Bk.ct t f fr (Int.toNat (to + 1 - fr)) st : Nat) : Int)) ?_ (fun n e => M.o_pure e)
  refine M.o_for (Int.toNat (to + 1 - fr)) (fun i (s : Nat × Int) => s = (Bk.ct t f fr i st, fr + (i : Int))) ?_ ?_ (by simp [Bk.ct, Bk.vl])
  · rintro i ⟨n, y⟩ hi e
    obtain ⟨rfl, rfl⟩ := Prod.mk.inj e
    have d := Bk.ct_succ t f fr i st
    have c := Bk.ct_le t f fr i st
    have hs : fr + ((i + 1 : Nat) : Int) = fr + i + 1 := by omega
    simp only [zaD]
    refine M.o_t (decide_eq_true (by omega)) (M.o_grd (gA2 (by omega) (by omega)) (M.o_grd (gA2 (by omega) (by omega)) (M.o_if (fun hb => ?_) (fun hb => ?_))))
    · rw [if_pos (of_decide_eq_true hb)] at d
      exact M.o_grd (gA2 (by omega) (by omega)) (M.o_grd (gA2 (by omega) (by omega)) (M.o_pure (by dsimp only; rw [d, hs])))
    · rw [if_neg (of_decide_eq_false hb)] at d
      exact M.o_grd (gA2 (by omega) (by omega)) (M.o_pure (by simp only [d, hs, Nat.add_zero]))
  · rintro ⟨n, y⟩ e
    obtain ⟨rfl, rfl⟩ := Prod.mk.inj e
    simp only [zaD]
    exact M.o_f (decide_eq_false (by omega)) (M.o_pure rfl)
theorem tr_passed (h : Bk.Tr ys os f l t) {fr to st : Int} (hI : Bk.In f l fr to) (hs : 0 <= st /\ st <= 2000) : (zag ys os f l fr to st).Ends (Bk.many (Bk.lop st) ys os fr to, Bk.many (Bk.hip st) ys os fr to, 0) := by
  have h60 := h.ok.y60
  have h8 := h.ok.o8
  obtain ⟨r, g, e⟩ := of_passed (ys := ys) (os := os) (f := f) (l := l) (by omega) (by omega) fr to st
  have k : Bk.PaE ys os f l fr to st (Bk.many (Bk.lop st) ys os fr to, Bk.many (Bk.hip st) ys os fr to, 0) := .inr ⟨rfl, h.wr hI hs, rfl, rfl⟩
  rw [← e.uniq k]
  exact g
theorem tr_reaches (h : Bk.Tr ys os f l t) {fr to n : Int} (hI : Bk.In f l fr to) (hn : 1 <= n /\ n <= to - fr + 1) : ∃ u v, (zat ys os f l fr to n).Ends (u, v, 0) /\ Bk.Top ((Bk.kl ys os fr (Int.toNat (to + 1 - fr))).map Span.lo) n u /\ Bk.Top ((Bk.kl ys os fr (Int.toNat (to + 1 - fr))).map Span.hi) n v := by
  have h60 := h.ok.y60
  have h8 := h.ok.o8
  obtain ⟨⟨u, v, z⟩, g, e⟩ := of_reaches (ys := ys) (os := os) (f := f) (l := l) (by omega) (by omega) fr to n
  have hw : z = 0 := e.wr.uniq (h.wr hI hn)
  subst hw
  rcases e with ⟨h1, _⟩ | ⟨_, _, h3, h4⟩
  · exact absurd rfl h1
  · exact ⟨u, v, g, h3, h4⟩
theorem tr_holds (h : Bk.Tr ys os f l t) : (zau ys os f l t).Ends (true, 0) := by
  have h60 := h.ok.y60
  have h8 := h.ok.o8
  have hl := h.len
  have h1 := h.ok.ln
  obtain ⟨r, g, e⟩ := of_holds (ys := ys) (os := os) (f := f) (l := l) (by omega) (by omega) t (by omega)
  have k : Bk.HoE ys os f l t (true, 0) := .inr (.inr (.inr (.inr ⟨Bk.chk_of h.ok, h.len, h.all, h.can, rfl⟩)))
  rw [← e.uniq k]
  exact g
theorem tr_clash (h : Bk.Tr ys os f l t) : (zaH ys os f l).Ends (0, 5) := by
  have h60 := h.ok.y60
  have h8 := h.ok.o8
  obtain ⟨r, g, e⟩ := of_clash (ys := ys) (os := os) (f := f) (l := l) (by omega) (by omega)
  have k : Bk.ClE ys os f l (0, 5) := .inr (.inl ⟨Bk.chk_of h.ok, h.fine, rfl⟩)
  rw [← e.uniq k]
  exact g
theorem tr_highest (h : Bk.Tr ys os f l t) {y : Int} (h1 : f <= y) (h2 : y <= l) : (zaR ys os f l y).Ends ((Bk.kn ys os y).lo, (Bk.kn ys os y).hi, 0) := by
  have h60 := h.ok.y60
  have h8 := h.ok.o8
  obtain ⟨r, g, e⟩ := of_highest (ys := ys) (os := os) (f := f) (l := l) (by omega) (by omega) y
  have k : Bk.HiE ys os f l y ((Bk.kn ys os y).lo, (Bk.kn ys os y).hi, 0) := .inr (.inr (.inr ⟨Bk.chk_of h.ok, ⟨h1, h2⟩, h.fine, rfl⟩))
  rw [← e.uniq k]
  exact g
theorem tr_returns (h : Bk.Tr ys os f l t) {st : Int} (hs : 0 <= st /\ st <= 2000) : ∃ a b : Nat, Bk.many (Bk.lop st) ys os f l = a /\ Bk.many (Bk.hip st) ys os f l = b /\ a <= 100000 /\ b <= 100000 ∧
    (zaw ys os f l st).Ends (((a / Nat.gcd a t.length : Nat) : Int), ((t.length / Nat.gcd a t.length : Nat) : Int), ((b / Nat.gcd b t.length : Nat) : Int), ((t.length / Nat.gcd b t.length : Nat) : Int), 0) := by
  have h60 := h.ok.y60
  have h8 := h.ok.o8
  have hfl := h.ok.fl
  have hl := h.len
  obtain ⟨⟨r1, r2, r3, r4, z⟩, g, e⟩ := of_returns (ys := ys) (os := os) (f := f) (l := l) (by omega) (by omega) st
  rcases e with ⟨h1, h2, _⟩ | ⟨h1, _, a, b, ha, hb, h3, h4, h5, h6, h7, h9⟩
  · exact absurd (h2.uniq (h.wr ⟨Int.le_refl _, hfl, Int.le_refl _⟩ hs)) h1
  · dsimp only at h1 h5 h6 h7 h9
    subst h1 h5 h6 h7 h9
    rw [show Int.toNat (l - f + 1) = t.length by omega] at g
    exact ⟨a, b, h3, h4, ha, hb, g⟩
end Go.Proofs.Ytcgalcbkkijkhaa
section
set_option maxRecDepth 100000
set_option maxHeartbeats 16000000
namespace Go.Proofs.Ytcgalcbkkijkhaa
open Go Go.Nm
def zas (r00 : List Yr) (r01 : List Old10) (r02 : Int) (r03 : Int) (r12 : List Int) (r3 : Int) (r4 : Int) (r8 : Int) : (Int × Int) -> M ((Int × Int) ⊕ Int) := fun (real, year) =>
  bif decide (year <= ((r02 + r3) + r4)) then (
  M.grd (decide ((-9223372036854775808 : Int) <= (year - r02)) && decide ((year - r02) <= (9223372036854775807 : Int))) <|
  M.grd (decide ((0 : Int) <= (year - r02)) && decide ((year - r02) < (r12.length : Int))) <|
  M.bind (zay r00 r01 r02 r03 r12 (r02 + r3) ((r02 + r3) + r4) (r12.getD (Int.toNat (year - r02)) 0)) fun r9 =>
  bif decide ((1 + r8) <= r9) then (
  M.grd (decide ((-9223372036854775808 : Int) <= (year + 1)) && decide ((year + 1) <= (9223372036854775807 : Int))) <|
  M.pure (.inl (max real (r12.getD (Int.toNat (year - r02)) 0), year + 1)))
  else (
  M.grd (decide ((-9223372036854775808 : Int) <= (year + 1)) && decide ((year + 1) <= (9223372036854775807 : Int))) <|
  M.pure (.inl (real, year + 1))))
  else (
  M.pure (.inr real))
def zbr (numbers : List UInt8) (at_ : Int) (far : Int) (level : Int) (times : Int) : M Bool :=
  M.bind (zbH numbers) fun (r1, r2) =>
  M.bind (zbb numbers r1 r2 60) fun (r00, r01, r02, r03, r12, q1, q2) =>
  M.bind (zau r00 r01 r02 r03 r12) fun (r0, r13) =>
  M.bind (zaH r00 r01 r02 r03) fun (r04, r14) =>
  bif (((r13 != 0) || (r14 != 5)) || (!r0)) then (
  M.pure false)
  else (
  M.bind (zam at_ (r12.length : Int)) fun r3 =>
  M.grd (decide ((-9223372036854775808 : Int) <= (r02 + r3)) && decide ((r02 + r3) <= (9223372036854775807 : Int))) <|
  M.grd (decide ((-9223372036854775808 : Int) <= (r03 - (r02 + r3))) && decide ((r03 - (r02 + r3)) <= (9223372036854775807 : Int))) <|
  M.grd (decide ((-9223372036854775808 : Int) <= ((r03 - (r02 + r3)) + 1)) && decide (((r03 - (r02 + r3)) + 1) <= (9223372036854775807 : Int))) <|
  M.bind (zam far ((r03 - (r02 + r3)) + 1)) fun r4 =>
  M.grd (decide ((-9223372036854775808 : Int) <= ((r02 + r3) + r4)) && decide (((r02 + r3) + r4) <= (9223372036854775807 : Int))) <|
  M.bind (zam level 700) fun r5 =>
  M.bind (zaR r00 r01 r02 r03 (r02 + r3)) fun (r002, r012, r15) =>
  M.bind (zag r00 r01 r02 r03 (r02 + r3) ((r02 + r3) + r4) r5) fun (r003, r013, r16) =>
  M.bind (zaw r00 r01 r02 r03 r5) fun (r004, r014, r10, r11, r22) =>
  M.grd ((!(!(((r15 != 0) || (r16 != 0)) || (r22 != 0))) || (decide ((-9223372036854775808 : Int) <= ((r02 + r3) - r02)) && decide (((r02 + r3) - r02) <= (9223372036854775807 : Int))))) <|
  M.grd ((!(!(((r15 != 0) || (r16 != 0)) || (r22 != 0))) || (decide ((0 : Int) <= ((r02 + r3) - r02)) && decide (((r02 + r3) - r02) < (r12.length : Int))))) <|
  M.grd ((!(!((((r15 != 0) || (r16 != 0)) || (r22 != 0)) || (decide ((r12.getD (Int.toNat ((r02 + r3) - r02)) 0) < r002)))) || (decide ((-9223372036854775808 : Int) <= ((r02 + r3) - r02)) && decide (((r02 + r3) - r02) <= (9223372036854775807 : Int))))) <|
  M.grd ((!(!((((r15 != 0) || (r16 != 0)) || (r22 != 0)) || (decide ((r12.getD (Int.toNat ((r02 + r3) - r02)) 0) < r002)))) || (decide ((0 : Int) <= ((r02 + r3) - r02)) && decide (((r02 + r3) - r02) < (r12.length : Int))))) <|
  bif (((((((r15 != 0) || (r16 != 0)) || (r22 != 0)) || (decide ((r12.getD (Int.toNat ((r02 + r3) - r02)) 0) < r002))) || (decide (r012 < (r12.getD (Int.toNat ((r02 + r3) - r02)) 0)))) || (decide (r014 < 1))) || (decide (r11 < 1))) then (
  M.pure false)
  else (
  M.bind (zay r00 r01 r02 r03 r12 (r02 + r3) ((r02 + r3) + r4) r5) fun r6 =>
  M.bind (zay r00 r01 r02 r03 r12 r02 r03 r5) fun r7 =>
  M.grd ((!(!((decide (r6 < r003)) || (decide (r013 < r6)))) || (decide ((-9223372036854775808 : Int) <= (r004 * (r12.length : Int))) && decide ((r004 * (r12.length : Int)) <= (9223372036854775807 : Int))))) <|
  M.grd ((!(!((decide (r6 < r003)) || (decide (r013 < r6)))) || (decide ((-9223372036854775808 : Int) <= (r7 * r014)) && decide ((r7 * r014) <= (9223372036854775807 : Int))))) <|
  M.grd ((!(!(((decide (r6 < r003)) || (decide (r013 < r6))) || (decide ((r7 * r014) < (r004 * (r12.length : Int)))))) || (decide ((-9223372036854775808 : Int) <= (r10 * (r12.length : Int))) && decide ((r10 * (r12.length : Int)) <= (9223372036854775807 : Int))))) <|
  M.grd ((!(!(((decide (r6 < r003)) || (decide (r013 < r6))) || (decide ((r7 * r014) < (r004 * (r12.length : Int)))))) || (decide ((-9223372036854775808 : Int) <= (r7 * r11)) && decide ((r7 * r11) <= (9223372036854775807 : Int))))) <|
  bif ((((decide (r6 < r003)) || (decide (r013 < r6))) || (decide ((r7 * r014) < (r004 * (r12.length : Int))))) || (decide ((r10 * (r12.length : Int)) < (r7 * r11)))) then (
  M.pure false)
  else (
  M.grd (decide ((-9223372036854775808 : Int) <= (((r02 + r3) + r4) - (r02 + r3))) && decide ((((r02 + r3) + r4) - (r02 + r3)) <= (9223372036854775807 : Int))) <|
  M.grd (decide ((-9223372036854775808 : Int) <= ((((r02 + r3) + r4) - (r02 + r3)) + 1)) && decide (((((r02 + r3) + r4) - (r02 + r3)) + 1) <= (9223372036854775807 : Int))) <|
  M.bind (zam times ((((r02 + r3) + r4) - (r02 + r3)) + 1)) fun r8 =>
  M.grd (decide ((-9223372036854775808 : Int) <= (1 + r8)) && decide ((1 + r8) <= (9223372036854775807 : Int))) <|
  M.bind (zat r00 r01 r02 r03 (r02 + r3) ((r02 + r3) + r4) (1 + r8)) fun (r005, r015, r17) =>
  M.bind (M.iter (zas r00 r01 r02 r03 r12 r3 r4 r8) (0, r02 + r3)) fun real2 =>
  M.bind (M.opt (((r17 == 0) && (decide (r005 <= real2))) && (decide (real2 <= r015))) (zbG) false) fun r18 =>
  M.pure ((((r17 == 0) && (decide (r005 <= real2))) && (decide (real2 <= r015))) && r18))))
theorem zcc {R : List Chunk} {C_numbers : Cells} {v_numbers : Value} (numbers : List UInt8) (at_ : Int) (far : Int) (level : Int) (times : Int) (hC_numbers : Reads R C_numbers) (hs_numbers : Sl C_numbers v_numbers numbers) {r : Bool} (hM : (zbr numbers at_ far level times).Ends r) (w : World) (H : St w w [] R) : Ret Try.prog 10 #[v_numbers, I at_, I far, I level, I times] w fun v w' => ∃ (y0 : Bool), y0 = r /\ v = B y0 /\ St w w' [] R := by
 refine ret_of_W Try.func10 rfl rfl rfl ?_
 refine W.seq ?_
 refine W.region rfl ?_
 refine s_val (x_as (v := B false) rfl) ?_
 refine s_nil ?_
 refine W.seq ?_
 refine W.region rfl ?_
 refine s_val (x_mv (v := v_numbers) rfl) ?_
 obtain ⟨r2z, hx1z, hM⟩ := M.e_bind hM
 refine s_call cf12 [v_numbers] rfl (zce numbers (hC_numbers.app _) hs_numbers hx1z _ (St.give (T := []) H rfl)) ?_
 rintro vq w3z ⟨r1, r2, nb0_1, hr4z, hvq, H2_⟩
 subst hr4z
 subst vq
 try dsimp only at hM
 replace H : St w w3z [cBlk nb0_1 [v_numbers, I r1, I r2] 101] R := H.back H2_ rfl
 clear H2_
 obtain ⟨r6z, hx5z, hM⟩ := M.e_bind hM
 refine s_call cf11 [.pointer (some ⟨nb0_1, 0, none⟩), I 60] rfl (zcv numbers r1 r2 60 (hC_numbers.app _) hs_numbers hx5z _ (St.give (T := []) H rfl)) ?_
 rintro vq w7z ⟨r00, r01, r02, r03, r12, q1, q2, u0_2, u1_3, rr2_4, Bs3_5, u4_6, hr8z, hvq, H2_, hf9z⟩
 subst hr8z
 subst vq
 try dsimp only at hM
 replace H : St w w7z [cOwn (α := Yr) 41 u0_2 r00, cOwn (α := Raw 3) 43 u1_3 rr2_4, cRo Bs3_5, cOwn (α := Int) 3 u4_6 r12, cBlk nb0_1 [v_numbers, I q1, I q2] 101] R := H.back H2_ rfl
 clear H2_
 refine s_val (x_mv (v := .tuple #[.agg #[u0_2, u1_3, I r02, I r03], u4_6]) rfl) ?_
 refine s_val (x_ext (vs := [.agg #[u0_2, u1_3, I r02, I r03], u4_6]) (v := .agg #[u0_2, u1_3, I r02, I r03]) rfl rfl) ?_
 refine s_val (x_ext (vs := [.agg #[u0_2, u1_3, I r02, I r03], u4_6]) (v := u4_6) rfl rfl) ?_
 refine t_alloc (cs := [.slice none 0 0, .slice none 0 0, I 0, I 0]) H Al26 rfl ?_
 intro b_7 w10z H
 refine t_st (k := 0) (b := b_7) (off := 0) (cs := [.slice none 0 0, .slice none 0 0, I 0, I 0]) (vs := [u0_2, u1_3, I r02, I r03]) (cs' := [u0_2, u1_3, I r02, I r03]) (v := .agg #[u0_2, u1_3, I r02, I r03]) (L' := [cBlk b_7 [u0_2, u1_3, I r02, I r03] 26, cOwn (α := Yr) 41 u0_2 r00, cOwn (α := Raw 3) 43 u1_3 rr2_4, cRo Bs3_5, cOwn (α := Int) 3 u4_6 r12, cBlk nb0_1 [v_numbers, I q1, I q2] 101]) H rfl rfl rfl Sz26 rfl rfl rfl (by simp only [List.all_cons, List.all_nil, Bool.true_and, Bool.and_true, Sl.oc (ownSl (H.get (k := 1) rfl)), Sl.oc (rowSl rfl (H.get (k := 2) rfl) (roLe _ (H.get (k := 3) rfl)) hf9z)]; try rfl) rfl rfl ?_
 intro w11z H
 refine s_val (x_as (v := u4_6) rfl) ?_
 refine s_nil ?_
 refine W.seq ?_
 refine W.region rfl ?_
 refine s_val (x_ld (p := .pointer (some ⟨b_7, 0, none⟩)) (v := .agg #[u0_2, u1_3, I r02, I r03]) rfl (ldb_ag (ds := [u0_2, u1_3, I r02, I r03]) Ag26 Sz26 (H.blk (k := 0) rfl) rfl rfl)) ?_
 refine s_val (x_mv (v := u4_6) rfl) ?_
 obtain ⟨r13z, hx12z, hM⟩ := M.e_bind hM
 refine s_call cf45 [.agg #[u0_2, u1_3, I r02, I r03], u4_6] rfl (zcb r00 r01 r02 r03 r12 (Reads.of (k := 1) rfl ownLe) (ownSl (H.get (k := 1) rfl)) (Reads.sup (Reads.of (k := 2) rfl ownLe) (Reads.of (k := 3) rfl roLe)) (rowSl rfl (H.get (k := 2) rfl) (roLe _ (H.get (k := 3) rfl)) hf9z) (Reads.of (k := 4) rfl ownLe) (ownSl (H.get (k := 4) rfl)) hx12z _ (St.give (T := [cBlk b_7 [u0_2, u1_3, I r02, I r03] 26, cOwn (α := Yr) 41 u0_2 r00, cOwn (α := Raw 3) 43 u1_3 rr2_4, cRo Bs3_5, cOwn (α := Int) 3 u4_6 r12, cBlk nb0_1 [v_numbers, I q1, I q2] 101]) H rfl)) ?_
 rintro vq w14z ⟨r0, r13, hr15z, hvq, H2_⟩
 subst hr15z
 subst vq
 try dsimp only at hM
 replace H : St w w14z [cBlk b_7 [u0_2, u1_3, I r02, I r03] 26, cOwn (α := Yr) 41 u0_2 r00, cOwn (α := Raw 3) 43 u1_3 rr2_4, cRo Bs3_5, cOwn (α := Int) 3 u4_6 r12, cBlk nb0_1 [v_numbers, I q1, I q2] 101] R := H.back H2_ rfl
 clear H2_
 refine s_val (x_mv (v := .tuple #[B r0, I r13]) rfl) ?_
 refine s_val (x_ext (vs := [B r0, I r13]) (v := B r0) rfl rfl) ?_
 refine s_val (x_ext (vs := [B r0, I r13]) (v := I r13) rfl rfl) ?_
 refine s_val (x_as (v := B r0) rfl) ?_
 refine s_val (x_as (v := I r13) rfl) ?_
 refine s_nil ?_
 refine W.seq ?_
 refine W.region rfl ?_
 refine s_val (x_ld (p := .pointer (some ⟨b_7, 0, none⟩)) (v := .agg #[u0_2, u1_3, I r02, I r03]) rfl (ldb_ag (ds := [u0_2, u1_3, I r02, I r03]) Ag26 Sz26 (H.blk (k := 0) rfl) rfl rfl)) ?_
 obtain ⟨r17z, hx16z, hM⟩ := M.e_bind hM
 refine s_call cf49 [.agg #[u0_2, u1_3, I r02, I r03]] rfl (zcq r00 r01 r02 r03 (Reads.of (k := 1) rfl ownLe) (ownSl (H.get (k := 1) rfl)) (Reads.sup (Reads.of (k := 2) rfl ownLe) (Reads.of (k := 3) rfl roLe)) (rowSl rfl (H.get (k := 2) rfl) (roLe _ (H.get (k := 3) rfl)) hf9z) hx16z _ (St.give (T := [cBlk b_7 [u0_2, u1_3, I r02, I r03] 26, cOwn (α := Yr) 41 u0_2 r00, cOwn (α := Raw 3) 43 u1_3 rr2_4, cRo Bs3_5, cOwn (α := Int) 3 u4_6 r12, cBlk nb0_1 [v_numbers, I q1, I q2] 101]) H rfl)) ?_
 rintro vq w18z ⟨r04, r14, hr19z, hvq, H2_⟩
 subst hr19z
 subst vq
 try dsimp only at hM
 replace H : St w w18z [cBlk b_7 [u0_2, u1_3, I r02, I r03] 26, cOwn (α := Yr) 41 u0_2 r00, cOwn (α := Raw 3) 43 u1_3 rr2_4, cRo Bs3_5, cOwn (α := Int) 3 u4_6 r12, cBlk nb0_1 [v_numbers, I q1, I q2] 101] R := H.back H2_ rfl
 clear H2_
 refine s_val (x_mv (v := .tuple #[I r04, I r14]) rfl) ?_
 refine s_val (x_ext (vs := [I r04, I r14]) (v := I r04) rfl rfl) ?_
 refine s_val (x_ext (vs := [I r04, I r14]) (v := I r14) rfl rfl) ?_
 refine s_val (x_as (v := I r04) rfl) ?_
 refine s_val (x_as (v := I r14) rfl) ?_
 refine s_nil ?_
 refine W.seq ?_
 refine W.seq ?_
 refine W.region rfl ?_
 refine s_val (x_mv (v := I r13) rfl) ?_
 refine s_val (x_cmp (kd := .i64) (a := r13) (b := 0) (r := r13 != 0) rfl rfl rfl) ?_
 refine s_val (x_mv (v := B (r13 != 0)) rfl) ?_
 refine g_val (!(r13 != 0)) (gy_f rfl) (fun hg => x_mv (v := I r14) rfl) ?_
 refine g_val (!(r13 != 0)) (gy_f rfl) (fun hg => x_cmp (kd := .i64) (a := r14) (b := 5) (r := r14 != 5) (gd_of (c := !(r13 != 0)) hg (I r14)) rfl rfl) ?_
 refine s_val (x_por (b := r13 != 0) (r := r14 != 5) rfl rfl (fun hb => gd_of (c := !(r13 != 0)) (by first | exact hb | (rw [hb]; rfl) | simp_all) (B (r14 != 5)))) ?_
 refine s_val (x_mv (v := B ((r13 != 0) || (r14 != 5))) rfl) ?_
 refine g_val (!((r13 != 0) || (r14 != 5))) (gy_f rfl) (fun hg => x_mv (v := B r0) rfl) ?_
 refine g_val (!((r13 != 0) || (r14 != 5))) (gy_f rfl) (fun hg => x_not (b := r0) (gd_of (c := !((r13 != 0) || (r14 != 5))) hg (B r0))) ?_
 refine s_val (x_por (b := ((r13 != 0) || (r14 != 5))) (r := !r0) rfl rfl (fun hb => gd_of (c := !((r13 != 0) || (r14 != 5))) (by first | exact hb | (rw [hb]; rfl) | simp_all) (B (!r0)))) ?_
 refine s_nil ?_
 refine W.cond (((r13 != 0) || (r14 != 5)) || (!r0)) rfl (fun c20z => ?_) (fun c20z => ?_)
 ·replace hM := M.e_t hM c20z
  refine W.seq ?_
  refine W.region rfl ?_
  refine s_val (x_as (v := B false) rfl) ?_
  refine s_nil ?_
  refine W.ret ?_
  have hr_ := M.e_pure hM
  exact ⟨_, resE_tmp rfl, ⟨false, hr_, rfl, (H.pick [] (by decide) rfl)⟩⟩
 replace hM := M.e_f hM c20z
 refine W.skip ?_
 refine W.seq ?_
 refine W.draw (fun W => St w W [cBlk b_7 [u0_2, u1_3, I r02, I r03] 26, cOwn (α := Yr) 41 u0_2 r00, cOwn (α := Raw 3) 43 u1_3 rr2_4, cRo Bs3_5, cOwn (α := Int) 3 u4_6 r12, cBlk nb0_1 [v_numbers, I q1, I q2] 101] R) [(0, true), (1, true), (2, true), (3, true), (4, true), (5, false), (6, true), (7, true)] mixed (by decide +kernel) rfl ?_
 intro w21z hx_
 replace H : St w w21z [cBlk b_7 [u0_2, u1_3, I r02, I r03] 26, cOwn (α := Yr) 41 u0_2 r00, cOwn (α := Raw 3) 43 u1_3 rr2_4, cRo Bs3_5, cOwn (α := Int) 3 u4_6 r12, cBlk nb0_1 [v_numbers, I q1, I q2] 101] R := H.ext hx_
 clear hx_
 refine ⟨(H.pick [0, 1, 2, 3, 4, 5] (by decide) rfl), ?_⟩
 refine d_q rfl (fun w' H => x_fa (a := .pointer (some ⟨b_7, 0, none⟩)) (v := .pointer (some ⟨b_7, 2, none⟩)) rfl (fa_blk (o := 0) Fd26_2 Sz3)) ?_
 refine d_q rfl (fun w' H => x_ld (p := .pointer (some ⟨b_7, 2, none⟩)) (v := I r02) rfl (ldb_sc Sc3 (H.blk (k := 0) rfl) rfl)) ?_
 refine d_q rfl (fun w' H => x_mv (v := I at_) rfl) ?_
 refine d_q rfl (fun w' H => x_mv (v := u4_6) rfl) ?_
 have hl22z := ((ownSl (H.get (k := 4) rfl))).len_le
 refine d_q rfl (fun w' H => x_lenS T27.und rfl (ownSl (H.get (k := 4) rfl))) ?_
 refine d_l rfl ?_
 obtain ⟨r24z, hx23z, hM⟩ := M.e_bind hM
 refine s_call cf13 [I at_, I (r12.length : Int)] rfl (zbk at_ (r12.length : Int) hx23z _ (St.give (T := [cBlk b_7 [u0_2, u1_3, I r02, I r03] 26, cOwn (α := Yr) 41 u0_2 r00, cOwn (α := Raw 3) 43 u1_3 rr2_4, cRo Bs3_5, cOwn (α := Int) 3 u4_6 r12, cBlk nb0_1 [v_numbers, I q1, I q2] 101]) H rfl)) ?_
 rintro vq w25z ⟨r3, hr26z, hvq, H2_⟩
 subst hr26z
 subst vq
 try dsimp only at hM
 replace H : St w w25z [cBlk b_7 [u0_2, u1_3, I r02, I r03] 26, cOwn (α := Yr) 41 u0_2 r00, cOwn (α := Raw 3) 43 u1_3 rr2_4, cRo Bs3_5, cOwn (α := Int) 3 u4_6 r12, cBlk nb0_1 [v_numbers, I q1, I q2] 101] R := H.back H2_ rfl
 clear H2_
 refine s_nil ⟨(H.pick [0, 1, 2, 3, 4, 5] (by decide) rfl), ?_⟩
 obtain ⟨sd27z, hM⟩ := M.e_grd hM
 simp only [Bool.and_eq_true, decide_eq_true_eq] at sd27z
 refine d_q rfl (fun w' H => x_ari (a := r02) (b := r3) (r := r02 + r3) rfl rfl rfl (by omega)) ?_
 refine d_q rfl (fun w' H => x_as (v := I (r02 + r3)) rfl) ?_
 refine d_nil ?_
 refine W.seq ?_
 refine W.region rfl ?_
 refine s_val (x_mv (v := I (r02 + r3)) rfl) ?_
 refine s_val (x_mv (v := I far) rfl) ?_
 refine s_val (x_fa (a := .pointer (some ⟨b_7, 0, none⟩)) (v := .pointer (some ⟨b_7, 3, none⟩)) rfl (fa_blk (o := 0) Fd26_3 Sz3)) ?_
 refine s_val (x_ld (p := .pointer (some ⟨b_7, 3, none⟩)) (v := I r03) rfl (ldb_sc Sc3 (H.blk (k := 0) rfl) rfl)) ?_
 refine s_val (x_mv (v := I (r02 + r3)) rfl) ?_
 obtain ⟨sd28z, hM⟩ := M.e_grd hM
 simp only [Bool.and_eq_true, decide_eq_true_eq] at sd28z
 refine s_val (x_ari (a := r03) (b := r02 + r3) (r := r03 - (r02 + r3)) rfl rfl rfl (by omega)) ?_
 obtain ⟨sd29z, hM⟩ := M.e_grd hM
 simp only [Bool.and_eq_true, decide_eq_true_eq] at sd29z
 refine s_val (x_ari (a := r03 - (r02 + r3)) (b := 1) (r := (r03 - (r02 + r3)) + 1) rfl rfl rfl (by omega)) ?_
 obtain ⟨r31z, hx30z, hM⟩ := M.e_bind hM
 refine s_call cf13 [I far, I ((r03 - (r02 + r3)) + 1)] rfl (zbk far ((r03 - (r02 + r3)) + 1) hx30z _ (St.give (T := [cBlk b_7 [u0_2, u1_3, I r02, I r03] 26, cOwn (α := Yr) 41 u0_2 r00, cOwn (α := Raw 3) 43 u1_3 rr2_4, cRo Bs3_5, cOwn (α := Int) 3 u4_6 r12, cBlk nb0_1 [v_numbers, I q1, I q2] 101]) H rfl)) ?_
 rintro vq w32z ⟨r4, hr33z, hvq, H2_⟩
 subst hr33z
 subst vq
 try dsimp only at hM
 replace H : St w w32z [cBlk b_7 [u0_2, u1_3, I r02, I r03] 26, cOwn (α := Yr) 41 u0_2 r00, cOwn (α := Raw 3) 43 u1_3 rr2_4, cRo Bs3_5, cOwn (α := Int) 3 u4_6 r12, cBlk nb0_1 [v_numbers, I q1, I q2] 101] R := H.back H2_ rfl
 clear H2_
 obtain ⟨sd34z, hM⟩ := M.e_grd hM
 simp only [Bool.and_eq_true, decide_eq_true_eq] at sd34z
 refine s_val (x_ari (a := r02 + r3) (b := r4) (r := (r02 + r3) + r4) rfl rfl rfl (by omega)) ?_
 refine s_val (x_as (v := I ((r02 + r3) + r4)) rfl) ?_
 refine s_nil ?_
 refine W.seq ?_
 refine W.region rfl ?_
 refine s_val (x_mv (v := I level) rfl) ?_
 obtain ⟨r36z, hx35z, hM⟩ := M.e_bind hM
 refine s_call cf13 [I level, I 700] rfl (zbk level 700 hx35z _ (St.give (T := [cBlk b_7 [u0_2, u1_3, I r02, I r03] 26, cOwn (α := Yr) 41 u0_2 r00, cOwn (α := Raw 3) 43 u1_3 rr2_4, cRo Bs3_5, cOwn (α := Int) 3 u4_6 r12, cBlk nb0_1 [v_numbers, I q1, I q2] 101]) H rfl)) ?_
 rintro vq w37z ⟨r5, hr38z, hvq, H2_⟩
 subst hr38z
 subst vq
 try dsimp only at hM
 replace H : St w w37z [cBlk b_7 [u0_2, u1_3, I r02, I r03] 26, cOwn (α := Yr) 41 u0_2 r00, cOwn (α := Raw 3) 43 u1_3 rr2_4, cRo Bs3_5, cOwn (α := Int) 3 u4_6 r12, cBlk nb0_1 [v_numbers, I q1, I q2] 101] R := H.back H2_ rfl
 clear H2_
 refine s_val (x_as (v := I r5) rfl) ?_
 refine s_nil ?_
 refine W.seq ?_
 refine W.region rfl ?_
 refine s_val (x_ld (p := .pointer (some ⟨b_7, 0, none⟩)) (v := .agg #[u0_2, u1_3, I r02, I r03]) rfl (ldb_ag (ds := [u0_2, u1_3, I r02, I r03]) Ag26 Sz26 (H.blk (k := 0) rfl) rfl rfl)) ?_
 refine s_val (x_mv (v := I (r02 + r3)) rfl) ?_
 obtain ⟨r40z, hx39z, hM⟩ := M.e_bind hM
 refine s_call cf20 [.agg #[u0_2, u1_3, I r02, I r03], I (r02 + r3)] rfl (zco r00 r01 r02 r03 (r02 + r3) (Reads.of (k := 1) rfl ownLe) (ownSl (H.get (k := 1) rfl)) (Reads.sup (Reads.of (k := 2) rfl ownLe) (Reads.of (k := 3) rfl roLe)) (rowSl rfl (H.get (k := 2) rfl) (roLe _ (H.get (k := 3) rfl)) hf9z) hx39z _ (St.give (T := [cBlk b_7 [u0_2, u1_3, I r02, I r03] 26, cOwn (α := Yr) 41 u0_2 r00, cOwn (α := Raw 3) 43 u1_3 rr2_4, cRo Bs3_5, cOwn (α := Int) 3 u4_6 r12, cBlk nb0_1 [v_numbers, I q1, I q2] 101]) H rfl)) ?_
 rintro vq w41z ⟨r002, r012, r15, hr42z, hvq, H2_⟩
 subst hr42z
 subst vq
 try dsimp only at hM
 replace H : St w w41z [cBlk b_7 [u0_2, u1_3, I r02, I r03] 26, cOwn (α := Yr) 41 u0_2 r00, cOwn (α := Raw 3) 43 u1_3 rr2_4, cRo Bs3_5, cOwn (α := Int) 3 u4_6 r12, cBlk nb0_1 [v_numbers, I q1, I q2] 101] R := H.back H2_ rfl
 clear H2_
 refine s_val (x_mv (v := .tuple #[.agg #[I r002, I r012], I r15]) rfl) ?_
 refine s_val (x_ext (vs := [.agg #[I r002, I r012], I r15]) (v := .agg #[I r002, I r012]) rfl rfl) ?_
 refine s_val (x_ext (vs := [.agg #[I r002, I r012], I r15]) (v := I r15) rfl rfl) ?_
 refine t_alloc (cs := [I 0, I 0]) H Al35 rfl ?_
 intro b_8 w43z H
 refine t_st (k := 0) (b := b_8) (off := 0) (cs := [I 0, I 0]) (vs := [I r002, I r012]) (cs' := [I r002, I r012]) (v := .agg #[I r002, I r012]) (L' := [cBlk b_8 [I r002, I r012] 35, cBlk b_7 [u0_2, u1_3, I r02, I r03] 26, cOwn (α := Yr) 41 u0_2 r00, cOwn (α := Raw 3) 43 u1_3 rr2_4, cRo Bs3_5, cOwn (α := Int) 3 u4_6 r12, cBlk nb0_1 [v_numbers, I q1, I q2] 101]) H rfl rfl rfl Sz35 rfl rfl rfl rfl rfl rfl ?_
 intro w44z H
 refine s_val (x_as (v := I r15) rfl) ?_
 refine s_nil ?_
 refine W.seq ?_
 refine W.region rfl ?_
 refine s_val (x_ld (p := .pointer (some ⟨b_7, 0, none⟩)) (v := .agg #[u0_2, u1_3, I r02, I r03]) rfl (ldb_ag (ds := [u0_2, u1_3, I r02, I r03]) Ag26 Sz26 (H.blk (k := 1) rfl) rfl rfl)) ?_
 refine s_val (x_mv (v := I (r02 + r3)) rfl) ?_
 refine s_val (x_mv (v := I ((r02 + r3) + r4)) rfl) ?_
 refine s_val (x_mv (v := I r5) rfl) ?_
 obtain ⟨r46z, hx45z, hM⟩ := M.e_bind hM
 refine s_call cf15 [.agg #[u0_2, u1_3, I r02, I r03], I (r02 + r3), I ((r02 + r3) + r4), I r5] rfl (za4 r00 r01 r02 r03 (r02 + r3) ((r02 + r3) + r4) r5 (Reads.of (k := 2) rfl ownLe) (ownSl (H.get (k := 2) rfl)) (Reads.sup (Reads.of (k := 3) rfl ownLe) (Reads.of (k := 4) rfl roLe)) (rowSl rfl (H.get (k := 3) rfl) (roLe _ (H.get (k := 4) rfl)) hf9z) hx45z _ (St.give (T := [cBlk b_8 [I r002, I r012] 35, cBlk b_7 [u0_2, u1_3, I r02, I r03] 26, cOwn (α := Yr) 41 u0_2 r00, cOwn (α := Raw 3) 43 u1_3 rr2_4, cRo Bs3_5, cOwn (α := Int) 3 u4_6 r12, cBlk nb0_1 [v_numbers, I q1, I q2] 101]) H rfl)) ?_
 rintro vq w47z ⟨r003, r013, r16, hr48z, hvq, H2_⟩
 subst hr48z
 subst vq
 try dsimp only at hM
 replace H : St w w47z [cBlk b_8 [I r002, I r012] 35, cBlk b_7 [u0_2, u1_3, I r02, I r03] 26, cOwn (α := Yr) 41 u0_2 r00, cOwn (α := Raw 3) 43 u1_3 rr2_4, cRo Bs3_5, cOwn (α := Int) 3 u4_6 r12, cBlk nb0_1 [v_numbers, I q1, I q2] 101] R := H.back H2_ rfl
 clear H2_
 refine s_val (x_mv (v := .tuple #[.agg #[I r003, I r013], I r16]) rfl) ?_
 refine s_val (x_ext (vs := [.agg #[I r003, I r013], I r16]) (v := .agg #[I r003, I r013]) rfl rfl) ?_
 refine s_val (x_ext (vs := [.agg #[I r003, I r013], I r16]) (v := I r16) rfl rfl) ?_
 refine t_alloc (cs := [I 0, I 0]) H Al35 rfl ?_
 intro b_9 w49z H
 refine t_st (k := 0) (b := b_9) (off := 0) (cs := [I 0, I 0]) (vs := [I r003, I r013]) (cs' := [I r003, I r013]) (v := .agg #[I r003, I r013]) (L' := [cBlk b_9 [I r003, I r013] 35, cBlk b_8 [I r002, I r012] 35, cBlk b_7 [u0_2, u1_3, I r02, I r03] 26, cOwn (α := Yr) 41 u0_2 r00, cOwn (α := Raw 3) 43 u1_3 rr2_4, cRo Bs3_5, cOwn (α := Int) 3 u4_6 r12, cBlk nb0_1 [v_numbers, I q1, I q2] 101]) H rfl rfl rfl Sz35 rfl rfl rfl rfl rfl rfl ?_
 intro w50z H
 refine s_val (x_as (v := I r16) rfl) ?_
 refine s_nil ?_
 refine W.seq ?_
 refine W.region rfl ?_
 refine s_val (x_ld (p := .pointer (some ⟨b_7, 0, none⟩)) (v := .agg #[u0_2, u1_3, I r02, I r03]) rfl (ldb_ag (ds := [u0_2, u1_3, I r02, I r03]) Ag26 Sz26 (H.blk (k := 2) rfl) rfl rfl)) ?_
 refine s_val (x_mv (v := I r5) rfl) ?_
 obtain ⟨r52z, hx51z, hM⟩ := M.e_bind hM
 refine s_call cf26 [.agg #[u0_2, u1_3, I r02, I r03], I r5] rfl (zbV r00 r01 r02 r03 r5 (Reads.of (k := 3) rfl ownLe) (ownSl (H.get (k := 3) rfl)) (Reads.sup (Reads.of (k := 4) rfl ownLe) (Reads.of (k := 5) rfl roLe)) (rowSl rfl (H.get (k := 4) rfl) (roLe _ (H.get (k := 5) rfl)) hf9z) hx51z _ (St.give (T := [cBlk b_9 [I r003, I r013] 35, cBlk b_8 [I r002, I r012] 35, cBlk b_7 [u0_2, u1_3, I r02, I r03] 26, cOwn (α := Yr) 41 u0_2 r00, cOwn (α := Raw 3) 43 u1_3 rr2_4, cRo Bs3_5, cOwn (α := Int) 3 u4_6 r12, cBlk nb0_1 [v_numbers, I q1, I q2] 101]) H rfl)) ?_
 rintro vq w53z ⟨r004, r014, r10, r11, r22, hr54z, hvq, H2_⟩
 subst hr54z
 subst vq
 try dsimp only at hM
 replace H : St w w53z [cBlk b_9 [I r003, I r013] 35, cBlk b_8 [I r002, I r012] 35, cBlk b_7 [u0_2, u1_3, I r02, I r03] 26, cOwn (α := Yr) 41 u0_2 r00, cOwn (α := Raw 3) 43 u1_3 rr2_4, cRo Bs3_5, cOwn (α := Int) 3 u4_6 r12, cBlk nb0_1 [v_numbers, I q1, I q2] 101] R := H.back H2_ rfl
 clear H2_
 refine s_val (x_mv (v := .tuple #[.agg #[I r004, I r014], .agg #[I r10, I r11], I r22]) rfl) ?_
 refine s_val (x_ext (vs := [.agg #[I r004, I r014], .agg #[I r10, I r11], I r22]) (v := .agg #[I r004, I r014]) rfl rfl) ?_
 refine s_val (x_ext (vs := [.agg #[I r004, I r014], .agg #[I r10, I r11], I r22]) (v := .agg #[I r10, I r11]) rfl rfl) ?_
 refine s_val (x_ext (vs := [.agg #[I r004, I r014], .agg #[I r10, I r11], I r22]) (v := I r22) rfl rfl) ?_
 refine t_alloc (cs := [I 0, I 0]) H Al63 rfl ?_
 intro b_10 w55z H
 refine t_alloc (cs := [I 0, I 0]) H Al63 rfl ?_
 intro b_11 w56z H
 refine t_st (k := 1) (b := b_10) (off := 0) (cs := [I 0, I 0]) (vs := [I r004, I r014]) (cs' := [I r004, I r014]) (v := .agg #[I r004, I r014]) (L' := [cBlk b_11 [I 0, I 0] 63, cBlk b_10 [I r004, I r014] 63, cBlk b_9 [I r003, I r013] 35, cBlk b_8 [I r002, I r012] 35, cBlk b_7 [u0_2, u1_3, I r02, I r03] 26, cOwn (α := Yr) 41 u0_2 r00, cOwn (α := Raw 3) 43 u1_3 rr2_4, cRo Bs3_5, cOwn (α := Int) 3 u4_6 r12, cBlk nb0_1 [v_numbers, I q1, I q2] 101]) H rfl rfl rfl Sz63 rfl rfl rfl rfl rfl rfl ?_
 intro w57z H
 refine t_st (k := 0) (b := b_11) (off := 0) (cs := [I 0, I 0]) (vs := [I r10, I r11]) (cs' := [I r10, I r11]) (v := .agg #[I r10, I r11]) (L' := [cBlk b_11 [I r10, I r11] 63, cBlk b_10 [I r004, I r014] 63, cBlk b_9 [I r003, I r013] 35, cBlk b_8 [I r002, I r012] 35, cBlk b_7 [u0_2, u1_3, I r02, I r03] 26, cOwn (α := Yr) 41 u0_2 r00, cOwn (α := Raw 3) 43 u1_3 rr2_4, cRo Bs3_5, cOwn (α := Int) 3 u4_6 r12, cBlk nb0_1 [v_numbers, I q1, I q2] 101]) H rfl rfl rfl Sz63 rfl rfl rfl rfl rfl rfl ?_
 intro w58z H
 refine s_val (x_as (v := I r22) rfl) ?_
 refine s_nil ?_
 refine W.seq ?_
 refine W.seq ?_
 refine W.draw (fun W => St w W [cBlk b_11 [I r10, I r11] 63, cBlk b_10 [I r004, I r014] 63, cBlk b_9 [I r003, I r013] 35, cBlk b_8 [I r002, I r012] 35, cBlk b_7 [u0_2, u1_3, I r02, I r03] 26, cOwn (α := Yr) 41 u0_2 r00, cOwn (α := Raw 3) 43 u1_3 rr2_4, cRo Bs3_5, cOwn (α := Int) 3 u4_6 r12, cBlk nb0_1 [v_numbers, I q1, I q2] 101] R) [(0, true), (1, true), (2, true), (3, true), (4, true), (5, true), (6, true), (7, true), (8, true), (9, true), (10, true), (11, true), (12, true), (13, true), (14, true), (15, true), (16, true), (17, true), (18, true), (19, true), (20, true), (21, true), (22, true), (23, true), (24, true), (25, true), (26, true), (27, true), (28, true), (29, true), (30, true), (31, true), (32, true), (33, true), (34, true), (35, true), (36, true), (37, true), (38, true), (39, true), (40, true), (41, true), (42, true), (43, true)] mixed (by decide +kernel) rfl ?_
 intro w59z hx_
 replace H : St w w59z [cBlk b_11 [I r10, I r11] 63, cBlk b_10 [I r004, I r014] 63, cBlk b_9 [I r003, I r013] 35, cBlk b_8 [I r002, I r012] 35, cBlk b_7 [u0_2, u1_3, I r02, I r03] 26, cOwn (α := Yr) 41 u0_2 r00, cOwn (α := Raw 3) 43 u1_3 rr2_4, cRo Bs3_5, cOwn (α := Int) 3 u4_6 r12, cBlk nb0_1 [v_numbers, I q1, I q2] 101] R := H.ext hx_
 clear hx_
 refine ⟨(H.pick [0, 1, 2, 3, 4, 5, 6, 7, 8, 9] (by decide) rfl), ?_⟩
 refine d_q rfl (fun w' H => x_mv (v := I r15) rfl) ?_
 refine d_q rfl (fun w' H => x_cmp (kd := .i64) (a := r15) (b := 0) (r := r15 != 0) rfl rfl rfl) ?_
 refine d_q rfl (fun w' H => x_mv (v := B (r15 != 0)) rfl) ?_
 refine d_qg (!(r15 != 0)) rfl (gy_f rfl) (fun hg => (fun w' H => x_mv (v := I r16) rfl)) ?_
 refine d_qg (!(r15 != 0)) rfl (gy_f rfl) (fun hg => (fun w' H => x_cmp (kd := .i64) (a := r16) (b := 0) (r := r16 != 0) (gd_of (c := !(r15 != 0)) hg (I r16)) rfl rfl)) ?_
 refine d_q rfl (fun w' H => x_por (b := r15 != 0) (r := r16 != 0) rfl rfl (fun hb => gd_of (c := !(r15 != 0)) (by first | exact hb | (rw [hb]; rfl) | simp_all) (B (r16 != 0)))) ?_
 refine d_q rfl (fun w' H => x_mv (v := B ((r15 != 0) || (r16 != 0))) rfl) ?_
 refine d_qg (!((r15 != 0) || (r16 != 0))) rfl (gy_f rfl) (fun hg => (fun w' H => x_mv (v := I r22) rfl)) ?_
 refine d_qg (!((r15 != 0) || (r16 != 0))) rfl (gy_f rfl) (fun hg => (fun w' H => x_cmp (kd := .i64) (a := r22) (b := 0) (r := r22 != 0) (gd_of (c := !((r15 != 0) || (r16 != 0))) hg (I r22)) rfl rfl)) ?_
 refine d_q rfl (fun w' H => x_por (b := ((r15 != 0) || (r16 != 0))) (r := r22 != 0) rfl rfl (fun hb => gd_of (c := !((r15 != 0) || (r16 != 0))) (by first | exact hb | (rw [hb]; rfl) | simp_all) (B (r22 != 0)))) ?_
 refine d_q rfl (fun w' H => x_mv (v := B (((r15 != 0) || (r16 != 0)) || (r22 != 0))) rfl) ?_
 refine d_qg (!(((r15 != 0) || (r16 != 0)) || (r22 != 0))) rfl (gy_f rfl) (fun hg => (fun w' H => x_mv (v := u4_6) rfl)) ?_
 refine d_qg (!(((r15 != 0) || (r16 != 0)) || (r22 != 0))) rfl (gy_f rfl) (fun hg => (fun w' H => x_mv (v := I (r02 + r3)) rfl)) ?_
 refine d_qg (!(((r15 != 0) || (r16 != 0)) || (r22 != 0))) rfl (gy_f rfl) (fun hg => (fun w' H => x_fa (a := .pointer (some ⟨b_7, 0, none⟩)) (v := .pointer (some ⟨b_7, 2, none⟩)) rfl (fa_blk (o := 0) Fd26_2 Sz3))) ?_
 refine d_qg (!(((r15 != 0) || (r16 != 0)) || (r22 != 0))) rfl (gy_f rfl) (fun hg => (fun w' H => x_ld (p := .pointer (some ⟨b_7, 2, none⟩)) (v := I r02) (gd_of (c := !(((r15 != 0) || (r16 != 0)) || (r22 != 0))) hg (.pointer (some ⟨b_7, 2, none⟩))) (ldb_sc Sc3 (H.blk (k := 4) rfl) rfl))) ?_
 obtain ⟨sd60z, hM⟩ := M.e_grd hM
 replace sd60z := M.imp_of sd60z
 simp only [Bool.and_eq_true, decide_eq_true_eq] at sd60z
 refine d_qg (!(((r15 != 0) || (r16 != 0)) || (r22 != 0))) rfl (gy_f rfl) (fun hg => (fun w' H => x_ari (a := r02 + r3) (b := r02) (r := (r02 + r3) - r02) (gd_of (c := !(((r15 != 0) || (r16 != 0)) || (r22 != 0))) hg (I (r02 + r3))) (gd_of (c := !(((r15 != 0) || (r16 != 0)) || (r22 != 0))) hg (I r02)) rfl (by have h1_ := sd60z.resolve_left (by rw [hg]; decide); first | exact h1_ | exact h1_.1 | exact h1_.2 | omega | (have hx_ := hg; simp at hx_; omega)))) ?_
 obtain ⟨sd61z, hM⟩ := M.e_grd hM
 replace sd61z := M.imp_of sd61z
 simp only [Bool.and_eq_true, decide_eq_true_eq] at sd61z
 refine d_qg (!(((r15 != 0) || (r16 != 0)) || (r22 != 0))) rfl (gy_f rfl) (fun hg => (fun w' H => x_ix (a := u4_6) (b := I ((r02 + r3) - r02)) (v := vat u4_6 1 (Int.toNat ((r02 + r3) - r02))) (gd_of (c := !(((r15 != 0) || (r16 != 0)) || (r22 != 0))) hg (u4_6)) (gd_of (c := !(((r15 != 0) || (r16 != 0)) || (r22 != 0))) hg (I ((r02 + r3) - r02))) (Sl.ix (α := Int) T27.und T27.size (ownSl (H.get (k := 8) rfl)) (by have h1_ := sd60z.resolve_left (by rw [hg]; decide); have h2_ := sd61z.resolve_left (by rw [hg]; decide); first | exact h1_ | exact h1_.1 | exact h1_.2 | exact h2_ | exact h2_.1 | exact h2_.2 | omega | (have hx_ := hg; simp at hx_; omega)) (by have h1_ := sd60z.resolve_left (by rw [hg]; decide); have h2_ := sd61z.resolve_left (by rw [hg]; decide); first | exact h1_ | exact h1_.1 | exact h1_.2 | exact h2_ | exact h2_.1 | exact h2_.2 | omega | (have hx_ := hg; simp at hx_; omega))))) ?_
 refine d_qg (!(((r15 != 0) || (r16 != 0)) || (r22 != 0))) rfl (gy_f rfl) (fun hg => (fun w' H => x_ld (p := vat u4_6 1 (Int.toNat ((r02 + r3) - r02))) (v := I (r12.getD (Int.toNat ((r02 + r3) - r02)) 0)) (gd_of (c := !(((r15 != 0) || (r16 != 0)) || (r22 != 0))) hg (vat u4_6 1 (Int.toNat ((r02 + r3) - r02)))) (ld_sc Sc3 (At.mono (Int_at (ownSl (H.get (k := 8) rfl)) (i := (r02 + r3) - r02) (by have h1_ := sd60z.resolve_left (by rw [hg]; decide); have h2_ := sd61z.resolve_left (by rw [hg]; decide); first | exact h1_ | exact h1_.1 | exact h1_.2 | exact h2_ | exact h2_.1 | exact h2_.2 | omega | (have hx_ := hg; simp at hx_; omega)) (by have h1_ := sd60z.resolve_left (by rw [hg]; decide); have h2_ := sd61z.resolve_left (by rw [hg]; decide); first | exact h1_ | exact h1_.1 | exact h1_.2 | exact h2_ | exact h2_.1 | exact h2_.2 | omega | (have hx_ := hg; simp at hx_; omega))) (ownLe _ (H.get (k := 8) rfl)))))) ?_
 refine d_qg (!(((r15 != 0) || (r16 != 0)) || (r22 != 0))) rfl (gy_f rfl) (fun hg => (fun w' H => x_fa (a := .pointer (some ⟨b_8, 0, none⟩)) (v := .pointer (some ⟨b_8, 0, none⟩)) rfl (fa_blk (o := 0) Fd35_0 Sz3))) ?_
 refine d_qg (!(((r15 != 0) || (r16 != 0)) || (r22 != 0))) rfl (gy_f rfl) (fun hg => (fun w' H => x_ld (p := .pointer (some ⟨b_8, 0, none⟩)) (v := I r002) (gd_of (c := !(((r15 != 0) || (r16 != 0)) || (r22 != 0))) hg (.pointer (some ⟨b_8, 0, none⟩))) (ldb_sc Sc3 (H.blk (k := 3) rfl) rfl))) ?_
 refine d_qg (!(((r15 != 0) || (r16 != 0)) || (r22 != 0))) rfl (gy_f rfl) (fun hg => (fun w' H => x_cmp (kd := .i64) (a := r12.getD (Int.toNat ((r02 + r3) - r02)) 0) (b := r002) (r := decide ((r12.getD (Int.toNat ((r02 + r3) - r02)) 0) < r002)) (gd_of (c := !(((r15 != 0) || (r16 != 0)) || (r22 != 0))) hg (I (r12.getD (Int.toNat ((r02 + r3) - r02)) 0))) (gd_of (c := !(((r15 != 0) || (r16 != 0)) || (r22 != 0))) hg (I r002)) rfl)) ?_
 refine d_q rfl (fun w' H => x_por (b := (((r15 != 0) || (r16 != 0)) || (r22 != 0))) (r := decide ((r12.getD (Int.toNat ((r02 + r3) - r02)) 0) < r002)) rfl rfl (fun hb => gd_of (c := !(((r15 != 0) || (r16 != 0)) || (r22 != 0))) (by first | exact hb | (rw [hb]; rfl) | simp_all) (B (decide ((r12.getD (Int.toNat ((r02 + r3) - r02)) 0) < r002))))) ?_
 refine d_q rfl (fun w' H => x_mv (v := B ((((r15 != 0) || (r16 != 0)) || (r22 != 0)) || (decide ((r12.getD (Int.toNat ((r02 + r3) - r02)) 0) < r002)))) rfl) ?_
 refine d_qg (!((((r15 != 0) || (r16 != 0)) || (r22 != 0)) || (decide ((r12.getD (Int.toNat ((r02 + r3) - r02)) 0) < r002)))) rfl (gy_f rfl) (fun hg => (fun w' H => x_mv (v := u4_6) rfl)) ?_
 refine d_qg (!((((r15 != 0) || (r16 != 0)) || (r22 != 0)) || (decide ((r12.getD (Int.toNat ((r02 + r3) - r02)) 0) < r002)))) rfl (gy_f rfl) (fun hg => (fun w' H => x_mv (v := I (r02 + r3)) rfl)) ?_
 refine d_qg (!((((r15 != 0) || (r16 != 0)) || (r22 != 0)) || (decide ((r12.getD (Int.toNat ((r02 + r3) - r02)) 0) < r002)))) rfl (gy_f rfl) (fun hg => (fun w' H => x_fa (a := .pointer (some ⟨b_7, 0, none⟩)) (v := .pointer (some ⟨b_7, 2, none⟩)) rfl (fa_blk (o := 0) Fd26_2 Sz3))) ?_
 refine d_qg (!((((r15 != 0) || (r16 != 0)) || (r22 != 0)) || (decide ((r12.getD (Int.toNat ((r02 + r3) - r02)) 0) < r002)))) rfl (gy_f rfl) (fun hg => (fun w' H => x_ld (p := .pointer (some ⟨b_7, 2, none⟩)) (v := I r02) (gd_of (c := !((((r15 != 0) || (r16 != 0)) || (r22 != 0)) || (decide ((r12.getD (Int.toNat ((r02 + r3) - r02)) 0) < r002)))) hg (.pointer (some ⟨b_7, 2, none⟩))) (ldb_sc Sc3 (H.blk (k := 4) rfl) rfl))) ?_
 obtain ⟨sd62z, hM⟩ := M.e_grd hM
 replace sd62z := M.imp_of sd62z
 simp only [Bool.and_eq_true, decide_eq_true_eq] at sd62z
 refine d_qg (!((((r15 != 0) || (r16 != 0)) || (r22 != 0)) || (decide ((r12.getD (Int.toNat ((r02 + r3) - r02)) 0) < r002)))) rfl (gy_f rfl) (fun hg => (fun w' H => x_ari (a := r02 + r3) (b := r02) (r := (r02 + r3) - r02) (gd_of (c := !((((r15 != 0) || (r16 != 0)) || (r22 != 0)) || (decide ((r12.getD (Int.toNat ((r02 + r3) - r02)) 0) < r002)))) hg (I (r02 + r3))) (gd_of (c := !((((r15 != 0) || (r16 != 0)) || (r22 != 0)) || (decide ((r12.getD (Int.toNat ((r02 + r3) - r02)) 0) < r002)))) hg (I r02)) rfl (by have h1_ := sd62z.resolve_left (by rw [hg]; decide); first | exact h1_ | exact h1_.1 | exact h1_.2 | omega | (have hx_ := hg; simp at hx_; omega)))) ?_
 obtain ⟨sd63z, hM⟩ := M.e_grd hM
 replace sd63z := M.imp_of sd63z
 simp only [Bool.and_eq_true, decide_eq_true_eq] at sd63z
 refine d_qg (!((((r15 != 0) || (r16 != 0)) || (r22 != 0)) || (decide ((r12.getD (Int.toNat ((r02 + r3) - r02)) 0) < r002)))) rfl (gy_f rfl) (fun hg => (fun w' H => x_ix (a := u4_6) (b := I ((r02 + r3) - r02)) (v := vat u4_6 1 (Int.toNat ((r02 + r3) - r02))) (gd_of (c := !((((r15 != 0) || (r16 != 0)) || (r22 != 0)) || (decide ((r12.getD (Int.toNat ((r02 + r3) - r02)) 0) < r002)))) hg (u4_6)) (gd_of (c := !((((r15 != 0) || (r16 != 0)) || (r22 != 0)) || (decide ((r12.getD (Int.toNat ((r02 + r3) - r02)) 0) < r002)))) hg (I ((r02 + r3) - r02))) (Sl.ix (α := Int) T27.und T27.size (ownSl (H.get (k := 8) rfl)) (by have h1_ := sd62z.resolve_left (by rw [hg]; decide); have h2_ := sd63z.resolve_left (by rw [hg]; decide); first | exact h1_ | exact h1_.1 | exact h1_.2 | exact h2_ | exact h2_.1 | exact h2_.2 | omega | (have hx_ := hg; simp at hx_; omega)) (by have h1_ := sd62z.resolve_left (by rw [hg]; decide); have h2_ := sd63z.resolve_left (by rw [hg]; decide); first | exact h1_ | exact h1_.1 | exact h1_.2 | exact h2_ | exact h2_.1 | exact h2_.2 | omega | (have hx_ := hg; simp at hx_; omega))))) ?_
 refine d_qg (!((((r15 != 0) || (r16 != 0)) || (r22 != 0)) || (decide ((r12.getD (Int.toNat ((r02 + r3) - r02)) 0) < r002)))) rfl (gy_f rfl) (fun hg => (fun w' H => x_ld (p := vat u4_6 1 (Int.toNat ((r02 + r3) - r02))) (v := I (r12.getD (Int.toNat ((r02 + r3) - r02)) 0)) (gd_of (c := !((((r15 != 0) || (r16 != 0)) || (r22 != 0)) || (decide ((r12.getD (Int.toNat ((r02 + r3) - r02)) 0) < r002)))) hg (vat u4_6 1 (Int.toNat ((r02 + r3) - r02)))) (ld_sc Sc3 (At.mono (Int_at (ownSl (H.get (k := 8) rfl)) (i := (r02 + r3) - r02) (by have h1_ := sd62z.resolve_left (by rw [hg]; decide); have h2_ := sd63z.resolve_left (by rw [hg]; decide); first | exact h1_ | exact h1_.1 | exact h1_.2 | exact h2_ | exact h2_.1 | exact h2_.2 | omega | (have hx_ := hg; simp at hx_; omega)) (by have h1_ := sd62z.resolve_left (by rw [hg]; decide); have h2_ := sd63z.resolve_left (by rw [hg]; decide); first | exact h1_ | exact h1_.1 | exact h1_.2 | exact h2_ | exact h2_.1 | exact h2_.2 | omega | (have hx_ := hg; simp at hx_; omega))) (ownLe _ (H.get (k := 8) rfl)))))) ?_
 refine d_qg (!((((r15 != 0) || (r16 != 0)) || (r22 != 0)) || (decide ((r12.getD (Int.toNat ((r02 + r3) - r02)) 0) < r002)))) rfl (gy_f rfl) (fun hg => (fun w' H => x_fa (a := .pointer (some ⟨b_8, 0, none⟩)) (v := .pointer (some ⟨b_8, 1, none⟩)) rfl (fa_blk (o := 0) Fd35_1 Sz3))) ?_
 refine d_qg (!((((r15 != 0) || (r16 != 0)) || (r22 != 0)) || (decide ((r12.getD (Int.toNat ((r02 + r3) - r02)) 0) < r002)))) rfl (gy_f rfl) (fun hg => (fun w' H => x_ld (p := .pointer (some ⟨b_8, 1, none⟩)) (v := I r012) (gd_of (c := !((((r15 != 0) || (r16 != 0)) || (r22 != 0)) || (decide ((r12.getD (Int.toNat ((r02 + r3) - r02)) 0) < r002)))) hg (.pointer (some ⟨b_8, 1, none⟩))) (ldb_sc Sc3 (H.blk (k := 3) rfl) rfl))) ?_
 refine d_qg (!((((r15 != 0) || (r16 != 0)) || (r22 != 0)) || (decide ((r12.getD (Int.toNat ((r02 + r3) - r02)) 0) < r002)))) rfl (gy_f rfl) (fun hg => (fun w' H => x_cmp (kd := .i64) (a := r12.getD (Int.toNat ((r02 + r3) - r02)) 0) (b := r012) (r := decide (r012 < (r12.getD (Int.toNat ((r02 + r3) - r02)) 0))) (gd_of (c := !((((r15 != 0) || (r16 != 0)) || (r22 != 0)) || (decide ((r12.getD (Int.toNat ((r02 + r3) - r02)) 0) < r002)))) hg (I (r12.getD (Int.toNat ((r02 + r3) - r02)) 0))) (gd_of (c := !((((r15 != 0) || (r16 != 0)) || (r22 != 0)) || (decide ((r12.getD (Int.toNat ((r02 + r3) - r02)) 0) < r002)))) hg (I r012)) rfl)) ?_
 refine d_q rfl (fun w' H => x_por (b := ((((r15 != 0) || (r16 != 0)) || (r22 != 0)) || (decide ((r12.getD (Int.toNat ((r02 + r3) - r02)) 0) < r002)))) (r := decide (r012 < (r12.getD (Int.toNat ((r02 + r3) - r02)) 0))) rfl rfl (fun hb => gd_of (c := !((((r15 != 0) || (r16 != 0)) || (r22 != 0)) || (decide ((r12.getD (Int.toNat ((r02 + r3) - r02)) 0) < r002)))) (by first | exact hb | (rw [hb]; rfl) | simp_all) (B (decide (r012 < (r12.getD (Int.toNat ((r02 + r3) - r02)) 0)))))) ?_
 refine d_q rfl (fun w' H => x_mv (v := B (((((r15 != 0) || (r16 != 0)) || (r22 != 0)) || (decide ((r12.getD (Int.toNat ((r02 + r3) - r02)) 0) < r002))) || (decide (r012 < (r12.getD (Int.toNat ((r02 + r3) - r02)) 0))))) rfl) ?_
 refine d_qg (!(((((r15 != 0) || (r16 != 0)) || (r22 != 0)) || (decide ((r12.getD (Int.toNat ((r02 + r3) - r02)) 0) < r002))) || (decide (r012 < (r12.getD (Int.toNat ((r02 + r3) - r02)) 0))))) rfl (gy_f rfl) (fun hg => (fun w' H => x_fa (a := .pointer (some ⟨b_10, 0, none⟩)) (v := .pointer (some ⟨b_10, 1, none⟩)) rfl (fa_blk (o := 0) Fd63_1 Sz3))) ?_
 refine d_qg (!(((((r15 != 0) || (r16 != 0)) || (r22 != 0)) || (decide ((r12.getD (Int.toNat ((r02 + r3) - r02)) 0) < r002))) || (decide (r012 < (r12.getD (Int.toNat ((r02 + r3) - r02)) 0))))) rfl (gy_f rfl) (fun hg => (fun w' H => x_ld (p := .pointer (some ⟨b_10, 1, none⟩)) (v := I r014) (gd_of (c := !(((((r15 != 0) || (r16 != 0)) || (r22 != 0)) || (decide ((r12.getD (Int.toNat ((r02 + r3) - r02)) 0) < r002))) || (decide (r012 < (r12.getD (Int.toNat ((r02 + r3) - r02)) 0))))) hg (.pointer (some ⟨b_10, 1, none⟩))) (ldb_sc Sc3 (H.blk (k := 1) rfl) rfl))) ?_
 refine d_qg (!(((((r15 != 0) || (r16 != 0)) || (r22 != 0)) || (decide ((r12.getD (Int.toNat ((r02 + r3) - r02)) 0) < r002))) || (decide (r012 < (r12.getD (Int.toNat ((r02 + r3) - r02)) 0))))) rfl (gy_f rfl) (fun hg => (fun w' H => x_cmp (kd := .i64) (a := r014) (b := 1) (r := decide (r014 < 1)) (gd_of (c := !(((((r15 != 0) || (r16 != 0)) || (r22 != 0)) || (decide ((r12.getD (Int.toNat ((r02 + r3) - r02)) 0) < r002))) || (decide (r012 < (r12.getD (Int.toNat ((r02 + r3) - r02)) 0))))) hg (I r014)) rfl rfl)) ?_
 refine d_q rfl (fun w' H => x_por (b := (((((r15 != 0) || (r16 != 0)) || (r22 != 0)) || (decide ((r12.getD (Int.toNat ((r02 + r3) - r02)) 0) < r002))) || (decide (r012 < (r12.getD (Int.toNat ((r02 + r3) - r02)) 0))))) (r := decide (r014 < 1)) rfl rfl (fun hb => gd_of (c := !(((((r15 != 0) || (r16 != 0)) || (r22 != 0)) || (decide ((r12.getD (Int.toNat ((r02 + r3) - r02)) 0) < r002))) || (decide (r012 < (r12.getD (Int.toNat ((r02 + r3) - r02)) 0))))) (by first | exact hb | (rw [hb]; rfl) | simp_all) (B (decide (r014 < 1))))) ?_
 refine d_q rfl (fun w' H => x_mv (v := B ((((((r15 != 0) || (r16 != 0)) || (r22 != 0)) || (decide ((r12.getD (Int.toNat ((r02 + r3) - r02)) 0) < r002))) || (decide (r012 < (r12.getD (Int.toNat ((r02 + r3) - r02)) 0)))) || (decide (r014 < 1)))) rfl) ?_
 refine d_qg (!((((((r15 != 0) || (r16 != 0)) || (r22 != 0)) || (decide ((r12.getD (Int.toNat ((r02 + r3) - r02)) 0) < r002))) || (decide (r012 < (r12.getD (Int.toNat ((r02 + r3) - r02)) 0)))) || (decide (r014 < 1)))) rfl (gy_f rfl) (fun hg => (fun w' H => x_fa (a := .pointer (some ⟨b_11, 0, none⟩)) (v := .pointer (some ⟨b_11, 1, none⟩)) rfl (fa_blk (o := 0) Fd63_1 Sz3))) ?_
 refine d_qg (!((((((r15 != 0) || (r16 != 0)) || (r22 != 0)) || (decide ((r12.getD (Int.toNat ((r02 + r3) - r02)) 0) < r002))) || (decide (r012 < (r12.getD (Int.toNat ((r02 + r3) - r02)) 0)))) || (decide (r014 < 1)))) rfl (gy_f rfl) (fun hg => (fun w' H => x_ld (p := .pointer (some ⟨b_11, 1, none⟩)) (v := I r11) (gd_of (c := !((((((r15 != 0) || (r16 != 0)) || (r22 != 0)) || (decide ((r12.getD (Int.toNat ((r02 + r3) - r02)) 0) < r002))) || (decide (r012 < (r12.getD (Int.toNat ((r02 + r3) - r02)) 0)))) || (decide (r014 < 1)))) hg (.pointer (some ⟨b_11, 1, none⟩))) (ldb_sc Sc3 (H.blk (k := 0) rfl) rfl))) ?_
 refine d_qg (!((((((r15 != 0) || (r16 != 0)) || (r22 != 0)) || (decide ((r12.getD (Int.toNat ((r02 + r3) - r02)) 0) < r002))) || (decide (r012 < (r12.getD (Int.toNat ((r02 + r3) - r02)) 0)))) || (decide (r014 < 1)))) rfl (gy_f rfl) (fun hg => (fun w' H => x_cmp (kd := .i64) (a := r11) (b := 1) (r := decide (r11 < 1)) (gd_of (c := !((((((r15 != 0) || (r16 != 0)) || (r22 != 0)) || (decide ((r12.getD (Int.toNat ((r02 + r3) - r02)) 0) < r002))) || (decide (r012 < (r12.getD (Int.toNat ((r02 + r3) - r02)) 0)))) || (decide (r014 < 1)))) hg (I r11)) rfl rfl)) ?_
 refine d_q rfl (fun w' H => x_por (b := ((((((r15 != 0) || (r16 != 0)) || (r22 != 0)) || (decide ((r12.getD (Int.toNat ((r02 + r3) - r02)) 0) < r002))) || (decide (r012 < (r12.getD (Int.toNat ((r02 + r3) - r02)) 0)))) || (decide (r014 < 1)))) (r := decide (r11 < 1)) rfl rfl (fun hb => gd_of (c := !((((((r15 != 0) || (r16 != 0)) || (r22 != 0)) || (decide ((r12.getD (Int.toNat ((r02 + r3) - r02)) 0) < r002))) || (decide (r012 < (r12.getD (Int.toNat ((r02 + r3) - r02)) 0)))) || (decide (r014 < 1)))) (by first | exact hb | (rw [hb]; rfl) | simp_all) (B (decide (r11 < 1))))) ?_
 refine d_nil ?_
 refine W.cond (((((((r15 != 0) || (r16 != 0)) || (r22 != 0)) || (decide ((r12.getD (Int.toNat ((r02 + r3) - r02)) 0) < r002))) || (decide (r012 < (r12.getD (Int.toNat ((r02 + r3) - r02)) 0)))) || (decide (r014 < 1))) || (decide (r11 < 1))) rfl (fun c64z => ?_) (fun c64z => ?_)
 ·replace hM := M.e_t hM c64z
  refine W.seq ?_
  refine W.region rfl ?_
  refine s_val (x_as (v := B false) rfl) ?_
  refine s_nil ?_
  refine W.ret ?_
  have hr_ := M.e_pure hM
  exact ⟨_, resE_tmp rfl, ⟨false, hr_, rfl, (H.pick [] (by decide) rfl)⟩⟩
 replace hM := M.e_f hM c64z
 refine W.skip ?_
 refine W.seq ?_
 refine W.draw (fun W => St w W [cBlk b_11 [I r10, I r11] 63, cBlk b_10 [I r004, I r014] 63, cBlk b_9 [I r003, I r013] 35, cBlk b_8 [I r002, I r012] 35, cBlk b_7 [u0_2, u1_3, I r02, I r03] 26, cOwn (α := Yr) 41 u0_2 r00, cOwn (α := Raw 3) 43 u1_3 rr2_4, cRo Bs3_5, cOwn (α := Int) 3 u4_6 r12, cBlk nb0_1 [v_numbers, I q1, I q2] 101] R) [(0, true), (1, true), (2, true), (3, true), (4, true), (6, true), (7, true), (8, true), (9, true), (10, true), (11, true), (12, true), (5, false), (13, false), (14, true), (15, true)] mixed (by decide +kernel) rfl ?_
 intro w65z hx_
 replace H : St w w65z [cBlk b_11 [I r10, I r11] 63, cBlk b_10 [I r004, I r014] 63, cBlk b_9 [I r003, I r013] 35, cBlk b_8 [I r002, I r012] 35, cBlk b_7 [u0_2, u1_3, I r02, I r03] 26, cOwn (α := Yr) 41 u0_2 r00, cOwn (α := Raw 3) 43 u1_3 rr2_4, cRo Bs3_5, cOwn (α := Int) 3 u4_6 r12, cBlk nb0_1 [v_numbers, I q1, I q2] 101] R := H.ext hx_
 clear hx_
 refine ⟨(H.pick [0, 1, 2, 3, 4, 5, 6, 7, 8, 9] (by decide) rfl), ?_⟩
 refine d_q rfl (fun w' H => x_ld (p := .pointer (some ⟨b_7, 0, none⟩)) (v := .agg #[u0_2, u1_3, I r02, I r03]) rfl (ldb_ag (ds := [u0_2, u1_3, I r02, I r03]) Ag26 Sz26 (H.blk (k := 4) rfl) rfl rfl)) ?_
 refine d_q rfl (fun w' H => x_mv (v := u4_6) rfl) ?_
 refine d_q rfl (fun w' H => x_mv (v := I (r02 + r3)) rfl) ?_
 refine d_q rfl (fun w' H => x_mv (v := I ((r02 + r3) + r4)) rfl) ?_
 refine d_q rfl (fun w' H => x_mv (v := I r5) rfl) ?_
 refine d_q rfl (fun w' H => x_ld (p := .pointer (some ⟨b_7, 0, none⟩)) (v := .agg #[u0_2, u1_3, I r02, I r03]) rfl (ldb_ag (ds := [u0_2, u1_3, I r02, I r03]) Ag26 Sz26 (H.blk (k := 4) rfl) rfl rfl)) ?_
 refine d_q rfl (fun w' H => x_mv (v := u4_6) rfl) ?_
 refine d_q rfl (fun w' H => x_fa (a := .pointer (some ⟨b_7, 0, none⟩)) (v := .pointer (some ⟨b_7, 2, none⟩)) rfl (fa_blk (o := 0) Fd26_2 Sz3)) ?_
 refine d_q rfl (fun w' H => x_ld (p := .pointer (some ⟨b_7, 2, none⟩)) (v := I r02) rfl (ldb_sc Sc3 (H.blk (k := 4) rfl) rfl)) ?_
 refine d_q rfl (fun w' H => x_fa (a := .pointer (some ⟨b_7, 0, none⟩)) (v := .pointer (some ⟨b_7, 3, none⟩)) rfl (fa_blk (o := 0) Fd26_3 Sz3)) ?_
 refine d_q rfl (fun w' H => x_ld (p := .pointer (some ⟨b_7, 3, none⟩)) (v := I r03) rfl (ldb_sc Sc3 (H.blk (k := 4) rfl) rfl)) ?_
 refine d_q rfl (fun w' H => x_mv (v := I r5) rfl) ?_
 refine d_l rfl ?_
 obtain ⟨r67z, hx66z, hM⟩ := M.e_bind hM
 refine s_call cf46 [.agg #[u0_2, u1_3, I r02, I r03], u4_6, I (r02 + r3), I ((r02 + r3) + r4), I r5] rfl (zbA r00 r01 r02 r03 r12 (r02 + r3) ((r02 + r3) + r4) r5 (Reads.of (k := 5) rfl ownLe) (ownSl (H.get (k := 5) rfl)) (Reads.sup (Reads.of (k := 6) rfl ownLe) (Reads.of (k := 7) rfl roLe)) (rowSl rfl (H.get (k := 6) rfl) (roLe _ (H.get (k := 7) rfl)) hf9z) (Reads.of (k := 8) rfl ownLe) (ownSl (H.get (k := 8) rfl)) hx66z _ (St.give (T := [cBlk b_11 [I r10, I r11] 63, cBlk b_10 [I r004, I r014] 63, cBlk b_9 [I r003, I r013] 35, cBlk b_8 [I r002, I r012] 35, cBlk b_7 [u0_2, u1_3, I r02, I r03] 26, cOwn (α := Yr) 41 u0_2 r00, cOwn (α := Raw 3) 43 u1_3 rr2_4, cRo Bs3_5, cOwn (α := Int) 3 u4_6 r12, cBlk nb0_1 [v_numbers, I q1, I q2] 101]) H rfl)) ?_
 rintro vq w68z ⟨r6, hr69z, hvq, H2_⟩
 subst hr69z
 subst vq
 try dsimp only at hM
 replace H : St w w68z [cBlk b_11 [I r10, I r11] 63, cBlk b_10 [I r004, I r014] 63, cBlk b_9 [I r003, I r013] 35, cBlk b_8 [I r002, I r012] 35, cBlk b_7 [u0_2, u1_3, I r02, I r03] 26, cOwn (α := Yr) 41 u0_2 r00, cOwn (α := Raw 3) 43 u1_3 rr2_4, cRo Bs3_5, cOwn (α := Int) 3 u4_6 r12, cBlk nb0_1 [v_numbers, I q1, I q2] 101] R := H.back H2_ rfl
 clear H2_
 refine s_nil ⟨(H.pick [0, 1, 2, 3, 4, 5, 6, 7, 8, 9] (by decide) rfl), ?_⟩
 refine d_l rfl ?_
 obtain ⟨r71z, hx70z, hM⟩ := M.e_bind hM
 refine s_call cf46 [.agg #[u0_2, u1_3, I r02, I r03], u4_6, I r02, I r03, I r5] rfl (zbA r00 r01 r02 r03 r12 r02 r03 r5 (Reads.of (k := 5) rfl ownLe) (ownSl (H.get (k := 5) rfl)) (Reads.sup (Reads.of (k := 6) rfl ownLe) (Reads.of (k := 7) rfl roLe)) (rowSl rfl (H.get (k := 6) rfl) (roLe _ (H.get (k := 7) rfl)) hf9z) (Reads.of (k := 8) rfl ownLe) (ownSl (H.get (k := 8) rfl)) hx70z _ (St.give (T := [cBlk b_11 [I r10, I r11] 63, cBlk b_10 [I r004, I r014] 63, cBlk b_9 [I r003, I r013] 35, cBlk b_8 [I r002, I r012] 35, cBlk b_7 [u0_2, u1_3, I r02, I r03] 26, cOwn (α := Yr) 41 u0_2 r00, cOwn (α := Raw 3) 43 u1_3 rr2_4, cRo Bs3_5, cOwn (α := Int) 3 u4_6 r12, cBlk nb0_1 [v_numbers, I q1, I q2] 101]) H rfl)) ?_
 rintro vq w72z ⟨r7, hr73z, hvq, H2_⟩
 subst hr73z
 subst vq
 try dsimp only at hM
 replace H : St w w72z [cBlk b_11 [I r10, I r11] 63, cBlk b_10 [I r004, I r014] 63, cBlk b_9 [I r003, I r013] 35, cBlk b_8 [I r002, I r012] 35, cBlk b_7 [u0_2, u1_3, I r02, I r03] 26, cOwn (α := Yr) 41 u0_2 r00, cOwn (α := Raw 3) 43 u1_3 rr2_4, cRo Bs3_5, cOwn (α := Int) 3 u4_6 r12, cBlk nb0_1 [v_numbers, I q1, I q2] 101] R := H.back H2_ rfl
 clear H2_
 refine s_nil ⟨(H.pick [0, 1, 2, 3, 4, 5, 6, 7, 8, 9] (by decide) rfl), ?_⟩
 refine d_q rfl (fun w' H => x_as (v := I r6) rfl) ?_
 refine d_q rfl (fun w' H => x_as (v := I r7) rfl) ?_
 refine d_nil ?_
 refine W.seq ?_
 refine W.seq ?_
 refine W.region rfl ?_
 refine s_val (x_mv (v := I r6) rfl) ?_
 refine s_val (x_fa (a := .pointer (some ⟨b_9, 0, none⟩)) (v := .pointer (some ⟨b_9, 0, none⟩)) rfl (fa_blk (o := 0) Fd35_0 Sz3)) ?_
 refine s_val (x_ld (p := .pointer (some ⟨b_9, 0, none⟩)) (v := I r003) rfl (ldb_sc Sc3 (H.blk (k := 2) rfl) rfl)) ?_
 refine s_val (x_cmp (kd := .i64) (a := r6) (b := r003) (r := decide (r6 < r003)) rfl rfl rfl) ?_
 refine s_val (x_mv (v := B (decide (r6 < r003))) rfl) ?_
 refine g_val (!(decide (r6 < r003))) (gy_f rfl) (fun hg => x_mv (v := I r6) rfl) ?_
 refine g_val (!(decide (r6 < r003))) (gy_f rfl) (fun hg => x_fa (a := .pointer (some ⟨b_9, 0, none⟩)) (v := .pointer (some ⟨b_9, 1, none⟩)) rfl (fa_blk (o := 0) Fd35_1 Sz3)) ?_
 refine g_val (!(decide (r6 < r003))) (gy_f rfl) (fun hg => x_ld (p := .pointer (some ⟨b_9, 1, none⟩)) (v := I r013) (gd_of (c := !(decide (r6 < r003))) hg (.pointer (some ⟨b_9, 1, none⟩))) (ldb_sc Sc3 (H.blk (k := 2) rfl) rfl)) ?_
 refine g_val (!(decide (r6 < r003))) (gy_f rfl) (fun hg => x_cmp (kd := .i64) (a := r6) (b := r013) (r := decide (r013 < r6)) (gd_of (c := !(decide (r6 < r003))) hg (I r6)) (gd_of (c := !(decide (r6 < r003))) hg (I r013)) rfl) ?_
 refine s_val (x_por (b := decide (r6 < r003)) (r := decide (r013 < r6)) rfl rfl (fun hb => gd_of (c := !(decide (r6 < r003))) (by first | exact hb | (rw [hb]; rfl) | simp_all) (B (decide (r013 < r6))))) ?_
 refine s_val (x_mv (v := B ((decide (r6 < r003)) || (decide (r013 < r6)))) rfl) ?_
 refine g_val (!((decide (r6 < r003)) || (decide (r013 < r6)))) (gy_f rfl) (fun hg => x_fa (a := .pointer (some ⟨b_10, 0, none⟩)) (v := .pointer (some ⟨b_10, 0, none⟩)) rfl (fa_blk (o := 0) Fd63_0 Sz3)) ?_
 refine g_val (!((decide (r6 < r003)) || (decide (r013 < r6)))) (gy_f rfl) (fun hg => x_ld (p := .pointer (some ⟨b_10, 0, none⟩)) (v := I r004) (gd_of (c := !((decide (r6 < r003)) || (decide (r013 < r6)))) hg (.pointer (some ⟨b_10, 0, none⟩))) (ldb_sc Sc3 (H.blk (k := 1) rfl) rfl)) ?_
 refine g_val (!((decide (r6 < r003)) || (decide (r013 < r6)))) (gy_f rfl) (fun hg => x_mv (v := u4_6) rfl) ?_
 refine g_val (!((decide (r6 < r003)) || (decide (r013 < r6)))) (gy_f rfl) (fun hg => x_lenS T27.und (gd_of (c := !((decide (r6 < r003)) || (decide (r013 < r6)))) hg (u4_6)) (ownSl (H.get (k := 8) rfl))) ?_
 obtain ⟨sd75z, hM⟩ := M.e_grd hM
 replace sd75z := M.imp_of sd75z
 simp only [Bool.and_eq_true, decide_eq_true_eq] at sd75z
 refine g_val (!((decide (r6 < r003)) || (decide (r013 < r6)))) (gy_f rfl) (fun hg => x_ari (a := r004) (b := (r12.length : Int)) (r := r004 * (r12.length : Int)) (gd_of (c := !((decide (r6 < r003)) || (decide (r013 < r6)))) hg (I r004)) (gd_of (c := !((decide (r6 < r003)) || (decide (r013 < r6)))) hg (I (r12.length : Int))) rfl (by have h1_ := sd75z.resolve_left (by rw [hg]; decide); first | exact h1_ | exact h1_.1 | exact h1_.2 | omega | (have hx_ := hg; simp at hx_; omega))) ?_
 refine g_val (!((decide (r6 < r003)) || (decide (r013 < r6)))) (gy_f rfl) (fun hg => x_mv (v := I r7) rfl) ?_
 refine g_val (!((decide (r6 < r003)) || (decide (r013 < r6)))) (gy_f rfl) (fun hg => x_fa (a := .pointer (some ⟨b_10, 0, none⟩)) (v := .pointer (some ⟨b_10, 1, none⟩)) rfl (fa_blk (o := 0) Fd63_1 Sz3)) ?_
 refine g_val (!((decide (r6 < r003)) || (decide (r013 < r6)))) (gy_f rfl) (fun hg => x_ld (p := .pointer (some ⟨b_10, 1, none⟩)) (v := I r014) (gd_of (c := !((decide (r6 < r003)) || (decide (r013 < r6)))) hg (.pointer (some ⟨b_10, 1, none⟩))) (ldb_sc Sc3 (H.blk (k := 1) rfl) rfl)) ?_
 obtain ⟨sd76z, hM⟩ := M.e_grd hM
 replace sd76z := M.imp_of sd76z
 simp only [Bool.and_eq_true, decide_eq_true_eq] at sd76z
 refine g_val (!((decide (r6 < r003)) || (decide (r013 < r6)))) (gy_f rfl) (fun hg => x_ari (a := r7) (b := r014) (r := r7 * r014) (gd_of (c := !((decide (r6 < r003)) || (decide (r013 < r6)))) hg (I r7)) (gd_of (c := !((decide (r6 < r003)) || (decide (r013 < r6)))) hg (I r014)) rfl (by have h1_ := sd75z.resolve_left (by rw [hg]; decide); have h2_ := sd76z.resolve_left (by rw [hg]; decide); first | exact h1_ | exact h1_.1 | exact h1_.2 | exact h2_ | exact h2_.1 | exact h2_.2 | omega | (have hx_ := hg; simp at hx_; omega))) ?_
 refine g_val (!((decide (r6 < r003)) || (decide (r013 < r6)))) (gy_f rfl) (fun hg => x_cmp (kd := .i64) (a := r004 * (r12.length : Int)) (b := r7 * r014) (r := decide ((r7 * r014) < (r004 * (r12.length : Int)))) (gd_of (c := !((decide (r6 < r003)) || (decide (r013 < r6)))) hg (I (r004 * (r12.length : Int)))) (gd_of (c := !((decide (r6 < r003)) || (decide (r013 < r6)))) hg (I (r7 * r014))) rfl) ?_
 refine s_val (x_por (b := ((decide (r6 < r003)) || (decide (r013 < r6)))) (r := decide ((r7 * r014) < (r004 * (r12.length : Int)))) rfl rfl (fun hb => gd_of (c := !((decide (r6 < r003)) || (decide (r013 < r6)))) (by first | exact hb | (rw [hb]; rfl) | simp_all) (B (decide ((r7 * r014) < (r004 * (r12.length : Int))))))) ?_
 refine s_val (x_mv (v := B (((decide (r6 < r003)) || (decide (r013 < r6))) || (decide ((r7 * r014) < (r004 * (r12.length : Int)))))) rfl) ?_
 refine g_val (!(((decide (r6 < r003)) || (decide (r013 < r6))) || (decide ((r7 * r014) < (r004 * (r12.length : Int)))))) (gy_f rfl) (fun hg => x_fa (a := .pointer (some ⟨b_11, 0, none⟩)) (v := .pointer (some ⟨b_11, 0, none⟩)) rfl (fa_blk (o := 0) Fd63_0 Sz3)) ?_
 refine g_val (!(((decide (r6 < r003)) || (decide (r013 < r6))) || (decide ((r7 * r014) < (r004 * (r12.length : Int)))))) (gy_f rfl) (fun hg => x_ld (p := .pointer (some ⟨b_11, 0, none⟩)) (v := I r10) (gd_of (c := !(((decide (r6 < r003)) || (decide (r013 < r6))) || (decide ((r7 * r014) < (r004 * (r12.length : Int)))))) hg (.pointer (some ⟨b_11, 0, none⟩))) (ldb_sc Sc3 (H.blk (k := 0) rfl) rfl)) ?_
 refine g_val (!(((decide (r6 < r003)) || (decide (r013 < r6))) || (decide ((r7 * r014) < (r004 * (r12.length : Int)))))) (gy_f rfl) (fun hg => x_mv (v := u4_6) rfl) ?_
 refine g_val (!(((decide (r6 < r003)) || (decide (r013 < r6))) || (decide ((r7 * r014) < (r004 * (r12.length : Int)))))) (gy_f rfl) (fun hg => x_lenS T27.und (gd_of (c := !(((decide (r6 < r003)) || (decide (r013 < r6))) || (decide ((r7 * r014) < (r004 * (r12.length : Int)))))) hg (u4_6)) (ownSl (H.get (k := 8) rfl))) ?_
 obtain ⟨sd78z, hM⟩ := M.e_grd hM
 replace sd78z := M.imp_of sd78z
 simp only [Bool.and_eq_true, decide_eq_true_eq] at sd78z
 refine g_val (!(((decide (r6 < r003)) || (decide (r013 < r6))) || (decide ((r7 * r014) < (r004 * (r12.length : Int)))))) (gy_f rfl) (fun hg => x_ari (a := r10) (b := (r12.length : Int)) (r := r10 * (r12.length : Int)) (gd_of (c := !(((decide (r6 < r003)) || (decide (r013 < r6))) || (decide ((r7 * r014) < (r004 * (r12.length : Int)))))) hg (I r10)) (gd_of (c := !(((decide (r6 < r003)) || (decide (r013 < r6))) || (decide ((r7 * r014) < (r004 * (r12.length : Int)))))) hg (I (r12.length : Int))) rfl (by have h1_ := sd78z.resolve_left (by rw [hg]; decide); first | exact h1_ | exact h1_.1 | exact h1_.2 | omega | (have hx_ := hg; simp at hx_; omega))) ?_
 refine g_val (!(((decide (r6 < r003)) || (decide (r013 < r6))) || (decide ((r7 * r014) < (r004 * (r12.length : Int)))))) (gy_f rfl) (fun hg => x_mv (v := I r7) rfl) ?_
 refine g_val (!(((decide (r6 < r003)) || (decide (r013 < r6))) || (decide ((r7 * r014) < (r004 * (r12.length : Int)))))) (gy_f rfl) (fun hg => x_fa (a := .pointer (some ⟨b_11, 0, none⟩)) (v := .pointer (some ⟨b_11, 1, none⟩)) rfl (fa_blk (o := 0) Fd63_1 Sz3)) ?_
 refine g_val (!(((decide (r6 < r003)) || (decide (r013 < r6))) || (decide ((r7 * r014) < (r004 * (r12.length : Int)))))) (gy_f rfl) (fun hg => x_ld (p := .pointer (some ⟨b_11, 1, none⟩)) (v := I r11) (gd_of (c := !(((decide (r6 < r003)) || (decide (r013 < r6))) || (decide ((r7 * r014) < (r004 * (r12.length : Int)))))) hg (.pointer (some ⟨b_11, 1, none⟩))) (ldb_sc Sc3 (H.blk (k := 0) rfl) rfl)) ?_
 obtain ⟨sd79z, hM⟩ := M.e_grd hM
 replace sd79z := M.imp_of sd79z
 simp only [Bool.and_eq_true, decide_eq_true_eq] at sd79z
 refine g_val (!(((decide (r6 < r003)) || (decide (r013 < r6))) || (decide ((r7 * r014) < (r004 * (r12.length : Int)))))) (gy_f rfl) (fun hg => x_ari (a := r7) (b := r11) (r := r7 * r11) (gd_of (c := !(((decide (r6 < r003)) || (decide (r013 < r6))) || (decide ((r7 * r014) < (r004 * (r12.length : Int)))))) hg (I r7)) (gd_of (c := !(((decide (r6 < r003)) || (decide (r013 < r6))) || (decide ((r7 * r014) < (r004 * (r12.length : Int)))))) hg (I r11)) rfl (by have h1_ := sd78z.resolve_left (by rw [hg]; decide); have h2_ := sd79z.resolve_left (by rw [hg]; decide); first | exact h1_ | exact h1_.1 | exact h1_.2 | exact h2_ | exact h2_.1 | exact h2_.2 | omega | (have hx_ := hg; simp at hx_; omega))) ?_
 refine g_val (!(((decide (r6 < r003)) || (decide (r013 < r6))) || (decide ((r7 * r014) < (r004 * (r12.length : Int)))))) (gy_f rfl) (fun hg => x_cmp (kd := .i64) (a := r10 * (r12.length : Int)) (b := r7 * r11) (r := decide ((r10 * (r12.length : Int)) < (r7 * r11))) (gd_of (c := !(((decide (r6 < r003)) || (decide (r013 < r6))) || (decide ((r7 * r014) < (r004 * (r12.length : Int)))))) hg (I (r10 * (r12.length : Int)))) (gd_of (c := !(((decide (r6 < r003)) || (decide (r013 < r6))) || (decide ((r7 * r014) < (r004 * (r12.length : Int)))))) hg (I (r7 * r11))) rfl) ?_
 refine s_val (x_por (b := (((decide (r6 < r003)) || (decide (r013 < r6))) || (decide ((r7 * r014) < (r004 * (r12.length : Int)))))) (r := decide ((r10 * (r12.length : Int)) < (r7 * r11))) rfl rfl (fun hb => gd_of (c := !(((decide (r6 < r003)) || (decide (r013 < r6))) || (decide ((r7 * r014) < (r004 * (r12.length : Int)))))) (by first | exact hb | (rw [hb]; rfl) | simp_all) (B (decide ((r10 * (r12.length : Int)) < (r7 * r11)))))) ?_
 refine s_nil ?_
 refine W.cond ((((decide (r6 < r003)) || (decide (r013 < r6))) || (decide ((r7 * r014) < (r004 * (r12.length : Int))))) || (decide ((r10 * (r12.length : Int)) < (r7 * r11)))) rfl (fun c80z => ?_) (fun c80z => ?_)
 ·replace hM := M.e_t hM c80z
  refine W.seq ?_
  refine W.region rfl ?_
  refine s_val (x_as (v := B false) rfl) ?_
  refine s_nil ?_
  refine W.ret ?_
  have hr_ := M.e_pure hM
  exact ⟨_, resE_tmp rfl, ⟨false, hr_, rfl, (H.pick [] (by decide) rfl)⟩⟩
 replace hM := M.e_f hM c80z
 refine W.skip ?_
 refine W.seq ?_
 refine W.region rfl ?_
 refine s_val (x_mv (v := I times) rfl) ?_
 refine s_val (x_mv (v := I ((r02 + r3) + r4)) rfl) ?_
 refine s_val (x_mv (v := I (r02 + r3)) rfl) ?_
 obtain ⟨sd81z, hM⟩ := M.e_grd hM
 simp only [Bool.and_eq_true, decide_eq_true_eq] at sd81z
 refine s_val (x_ari (a := (r02 + r3) + r4) (b := r02 + r3) (r := ((r02 + r3) + r4) - (r02 + r3)) rfl rfl rfl (by omega)) ?_
 obtain ⟨sd82z, hM⟩ := M.e_grd hM
 simp only [Bool.and_eq_true, decide_eq_true_eq] at sd82z
 refine s_val (x_ari (a := ((r02 + r3) + r4) - (r02 + r3)) (b := 1) (r := (((r02 + r3) + r4) - (r02 + r3)) + 1) rfl rfl rfl (by omega)) ?_
 obtain ⟨r84z, hx83z, hM⟩ := M.e_bind hM
 refine s_call cf13 [I times, I ((((r02 + r3) + r4) - (r02 + r3)) + 1)] rfl (zbk times ((((r02 + r3) + r4) - (r02 + r3)) + 1) hx83z _ (St.give (T := [cBlk b_11 [I r10, I r11] 63, cBlk b_10 [I r004, I r014] 63, cBlk b_9 [I r003, I r013] 35, cBlk b_8 [I r002, I r012] 35, cBlk b_7 [u0_2, u1_3, I r02, I r03] 26, cOwn (α := Yr) 41 u0_2 r00, cOwn (α := Raw 3) 43 u1_3 rr2_4, cRo Bs3_5, cOwn (α := Int) 3 u4_6 r12, cBlk nb0_1 [v_numbers, I q1, I q2] 101]) H rfl)) ?_
 rintro vq w85z ⟨r8, hr86z, hvq, H2_⟩
 subst hr86z
 subst vq
 try dsimp only at hM
 replace H : St w w85z [cBlk b_11 [I r10, I r11] 63, cBlk b_10 [I r004, I r014] 63, cBlk b_9 [I r003, I r013] 35, cBlk b_8 [I r002, I r012] 35, cBlk b_7 [u0_2, u1_3, I r02, I r03] 26, cOwn (α := Yr) 41 u0_2 r00, cOwn (α := Raw 3) 43 u1_3 rr2_4, cRo Bs3_5, cOwn (α := Int) 3 u4_6 r12, cBlk nb0_1 [v_numbers, I q1, I q2] 101] R := H.back H2_ rfl
 clear H2_
 obtain ⟨sd87z, hM⟩ := M.e_grd hM
 simp only [Bool.and_eq_true, decide_eq_true_eq] at sd87z
 refine s_val (x_ari (a := 1) (b := r8) (r := 1 + r8) rfl rfl rfl (by omega)) ?_
 refine s_val (x_as (v := I (1 + r8)) rfl) ?_
 refine s_nil ?_
 refine W.seq ?_
 refine W.region rfl ?_
 refine s_val (x_ld (p := .pointer (some ⟨b_7, 0, none⟩)) (v := .agg #[u0_2, u1_3, I r02, I r03]) rfl (ldb_ag (ds := [u0_2, u1_3, I r02, I r03]) Ag26 Sz26 (H.blk (k := 4) rfl) rfl rfl)) ?_
 refine s_val (x_mv (v := I (r02 + r3)) rfl) ?_
 refine s_val (x_mv (v := I ((r02 + r3) + r4)) rfl) ?_
 refine s_val (x_mv (v := I (1 + r8)) rfl) ?_
 obtain ⟨r89z, hx88z, hM⟩ := M.e_bind hM
 refine s_call cf17 [.agg #[u0_2, u1_3, I r02, I r03], I (r02 + r3), I ((r02 + r3) + r4), I (1 + r8)] rfl (zbX r00 r01 r02 r03 (r02 + r3) ((r02 + r3) + r4) (1 + r8) (Reads.of (k := 5) rfl ownLe) (ownSl (H.get (k := 5) rfl)) (Reads.sup (Reads.of (k := 6) rfl ownLe) (Reads.of (k := 7) rfl roLe)) (rowSl rfl (H.get (k := 6) rfl) (roLe _ (H.get (k := 7) rfl)) hf9z) hx88z _ (St.give (T := [cBlk b_11 [I r10, I r11] 63, cBlk b_10 [I r004, I r014] 63, cBlk b_9 [I r003, I r013] 35, cBlk b_8 [I r002, I r012] 35, cBlk b_7 [u0_2, u1_3, I r02, I r03] 26, cOwn (α := Yr) 41 u0_2 r00, cOwn (α := Raw 3) 43 u1_3 rr2_4, cRo Bs3_5, cOwn (α := Int) 3 u4_6 r12, cBlk nb0_1 [v_numbers, I q1, I q2] 101]) H rfl)) ?_
 rintro vq w90z ⟨r005, r015, r17, hr91z, hvq, H2_⟩
 subst hr91z
 subst vq
 try dsimp only at hM
 replace H : St w w90z [cBlk b_11 [I r10, I r11] 63, cBlk b_10 [I r004, I r014] 63, cBlk b_9 [I r003, I r013] 35, cBlk b_8 [I r002, I r012] 35, cBlk b_7 [u0_2, u1_3, I r02, I r03] 26, cOwn (α := Yr) 41 u0_2 r00, cOwn (α := Raw 3) 43 u1_3 rr2_4, cRo Bs3_5, cOwn (α := Int) 3 u4_6 r12, cBlk nb0_1 [v_numbers, I q1, I q2] 101] R := H.back H2_ rfl
 clear H2_
 refine s_val (x_mv (v := .tuple #[.agg #[I r005, I r015], I r17]) rfl) ?_
 refine s_val (x_ext (vs := [.agg #[I r005, I r015], I r17]) (v := .agg #[I r005, I r015]) rfl rfl) ?_
 refine s_val (x_ext (vs := [.agg #[I r005, I r015], I r17]) (v := I r17) rfl rfl) ?_
 refine t_alloc (cs := [I 0, I 0]) H Al35 rfl ?_
 intro b_12 w92z H
 refine t_st (k := 0) (b := b_12) (off := 0) (cs := [I 0, I 0]) (vs := [I r005, I r015]) (cs' := [I r005, I r015]) (v := .agg #[I r005, I r015]) (L' := [cBlk b_12 [I r005, I r015] 35, cBlk b_11 [I r10, I r11] 63, cBlk b_10 [I r004, I r014] 63, cBlk b_9 [I r003, I r013] 35, cBlk b_8 [I r002, I r012] 35, cBlk b_7 [u0_2, u1_3, I r02, I r03] 26, cOwn (α := Yr) 41 u0_2 r00, cOwn (α := Raw 3) 43 u1_3 rr2_4, cRo Bs3_5, cOwn (α := Int) 3 u4_6 r12, cBlk nb0_1 [v_numbers, I q1, I q2] 101]) H rfl rfl rfl Sz35 rfl rfl rfl rfl rfl rfl ?_
 intro w93z H
 refine s_val (x_as (v := I r17) rfl) ?_
 refine s_nil ?_
 refine W.seq ?_
 refine W.region rfl ?_
 refine s_val (x_as (v := I 0) rfl) ?_
 refine s_nil ?_
 refine W.seq ?_
 refine W.seq ?_
 refine W.region rfl ?_
 refine s_val (x_mv (v := I (r02 + r3)) rfl) ?_
 refine s_val (x_as (v := I (r02 + r3)) rfl) ?_
 refine s_nil ?_
 refine W.block ?_
 obtain ⟨ex94z, hi95z, hk96z⟩ := M.e_bind hM
 obtain ⟨m0_, hi95z⟩ := M.e_iter hi95z
 refine W.loop (fun m σ W => ∃ (real : Int) (year : Int) (ρ : Env), σ = upds ρ [(11, .pointer (some ⟨b_7, 0, none⟩)), (12, u4_6), (14, I r17), (17, I (r02 + r3)), (18, I ((r02 + r3) + r4)), (27, I (1 + r8)), (28, .pointer (some ⟨b_12, 0, none⟩)), (29, I real), (30, I year)] /\ M.iterN (zas r00 r01 r02 r03 r12 r3 r4 r8) m (real, year) = some ex94z /\ St w W [cBlk b_12 [I r005, I r015] 35, cBlk b_11 [I r10, I r11] 63, cBlk b_10 [I r004, I r014] 63, cBlk b_9 [I r003, I r013] 35, cBlk b_8 [I r002, I r012] 35, cBlk b_7 [u0_2, u1_3, I r02, I r03] 26, cOwn (α := Yr) 41 u0_2 r00, cOwn (α := Raw 3) 43 u1_3 rr2_4, cRo Bs3_5, cOwn (α := Int) 3 u4_6 r12, cBlk nb0_1 [v_numbers, I q1, I q2] 101] R) ?_ ?_
 ·exact ⟨_, 0, r02 + r3, _, upds_of _ _ ⟨rfl, rfl, rfl, rfl, rfl, rfl, rfl, rfl, rfl, trivial⟩, hi95z, H⟩
 rintro m99z σ w97z ⟨real, year, ρ, rfl, hI98z, H⟩
 obtain ⟨m100z, lt101z, x102z, hM, hN103z⟩ := M.e_iterN hI98z
 simp only [zas] at hM
 clear hI98z
 refine W.seq ?_
 refine W.seq ?_
 refine W.region rfl ?_
 refine s_val (x_mv (v := I year) rfl) ?_
 refine s_val (x_mv (v := I ((r02 + r3) + r4)) rfl) ?_
 refine s_val (x_cmp (kd := .i64) (a := year) (b := (r02 + r3) + r4) (r := decide (year <= ((r02 + r3) + r4))) rfl rfl rfl) ?_
 refine s_nil ?_
 refine W.cond (decide (year <= ((r02 + r3) + r4))) rfl (fun c104z => ?_) (fun c104z => ?_)
 ·replace hM := M.e_t hM c104z
  simp only [decide_eq_true_eq, decide_eq_false_iff_not, beq_iff_eq, bne_iff_ne, beq_eq_false_iff_ne, bne_eq_false_iff_eq, ne_eq, Decidable.not_not] at c104z
  refine W.skip ?_
  refine W.seq ?_
  refine W.block ?_
  refine W.seq ?_
  refine W.region rfl ?_
  refine s_val (x_mv (v := u4_6) rfl) ?_
  refine s_val (x_mv (v := I year) rfl) ?_
  refine s_val (x_fa (a := .pointer (some ⟨b_7, 0, none⟩)) (v := .pointer (some ⟨b_7, 2, none⟩)) rfl (fa_blk (o := 0) Fd26_2 Sz3)) ?_
  refine s_val (x_ld (p := .pointer (some ⟨b_7, 2, none⟩)) (v := I r02) rfl (ldb_sc Sc3 (H.blk (k := 5) rfl) rfl)) ?_
  obtain ⟨sd105z, hM⟩ := M.e_grd hM
  simp only [Bool.and_eq_true, decide_eq_true_eq] at sd105z
  refine s_val (x_ari (a := year) (b := r02) (r := year - r02) rfl rfl rfl (by omega)) ?_
  obtain ⟨sd106z, hM⟩ := M.e_grd hM
  simp only [Bool.and_eq_true, decide_eq_true_eq] at sd106z
  refine s_val (x_ix (a := u4_6) (b := I (year - r02)) (v := vat u4_6 1 (Int.toNat (year - r02))) rfl rfl (Sl.ix (α := Int) T27.und T27.size (ownSl (H.get (k := 9) rfl)) (by omega) (by omega))) ?_
  refine s_val (x_ld (p := vat u4_6 1 (Int.toNat (year - r02))) (v := I (r12.getD (Int.toNat (year - r02)) 0)) rfl (ld_sc Sc3 (At.mono (Int_at (ownSl (H.get (k := 9) rfl)) (i := year - r02) (by omega) (by omega)) (ownLe _ (H.get (k := 9) rfl))))) ?_
  refine s_val (x_as (v := I (r12.getD (Int.toNat (year - r02)) 0)) rfl) ?_
  refine s_nil ?_
  refine W.seq ?_
  refine W.region rfl ?_
  refine s_val (x_ld (p := .pointer (some ⟨b_7, 0, none⟩)) (v := .agg #[u0_2, u1_3, I r02, I r03]) rfl (ldb_ag (ds := [u0_2, u1_3, I r02, I r03]) Ag26 Sz26 (H.blk (k := 5) rfl) rfl rfl)) ?_
  refine s_val (x_mv (v := u4_6) rfl) ?_
  refine s_val (x_mv (v := I (r02 + r3)) rfl) ?_
  refine s_val (x_mv (v := I ((r02 + r3) + r4)) rfl) ?_
  refine s_val (x_mv (v := I (r12.getD (Int.toNat (year - r02)) 0)) rfl) ?_
  obtain ⟨r108z, hx107z, hM⟩ := M.e_bind hM
  refine s_call cf46 [.agg #[u0_2, u1_3, I r02, I r03], u4_6, I (r02 + r3), I ((r02 + r3) + r4), I (r12.getD (Int.toNat (year - r02)) 0)] rfl (zbA r00 r01 r02 r03 r12 (r02 + r3) ((r02 + r3) + r4) (r12.getD (Int.toNat (year - r02)) 0) (Reads.of (k := 6) rfl ownLe) (ownSl (H.get (k := 6) rfl)) (Reads.sup (Reads.of (k := 7) rfl ownLe) (Reads.of (k := 8) rfl roLe)) (rowSl rfl (H.get (k := 7) rfl) (roLe _ (H.get (k := 8) rfl)) hf9z) (Reads.of (k := 9) rfl ownLe) (ownSl (H.get (k := 9) rfl)) hx107z _ (St.give (T := [cBlk b_12 [I r005, I r015] 35, cBlk b_11 [I r10, I r11] 63, cBlk b_10 [I r004, I r014] 63, cBlk b_9 [I r003, I r013] 35, cBlk b_8 [I r002, I r012] 35, cBlk b_7 [u0_2, u1_3, I r02, I r03] 26, cOwn (α := Yr) 41 u0_2 r00, cOwn (α := Raw 3) 43 u1_3 rr2_4, cRo Bs3_5, cOwn (α := Int) 3 u4_6 r12, cBlk nb0_1 [v_numbers, I q1, I q2] 101]) H rfl)) ?_
  rintro vq w109z ⟨r9, hr110z, hvq, H2_⟩
  subst hr110z
  subst vq
  try dsimp only at hM
  replace H : St w w109z [cBlk b_12 [I r005, I r015] 35, cBlk b_11 [I r10, I r11] 63, cBlk b_10 [I r004, I r014] 63, cBlk b_9 [I r003, I r013] 35, cBlk b_8 [I r002, I r012] 35, cBlk b_7 [u0_2, u1_3, I r02, I r03] 26, cOwn (α := Yr) 41 u0_2 r00, cOwn (α := Raw 3) 43 u1_3 rr2_4, cRo Bs3_5, cOwn (α := Int) 3 u4_6 r12, cBlk nb0_1 [v_numbers, I q1, I q2] 101] R := H.back H2_ rfl
  clear H2_
  refine s_val (x_mv (v := I (1 + r8)) rfl) ?_
  refine s_val (x_cmp (kd := .i64) (a := r9) (b := 1 + r8) (r := decide ((1 + r8) <= r9)) rfl rfl rfl) ?_
  refine s_nil ?_
  refine W.cond (decide ((1 + r8) <= r9)) rfl (fun c111z => ?_) (fun c111z => ?_)
  ·replace hM := M.e_t hM c111z
   simp only [decide_eq_true_eq, decide_eq_false_iff_not, beq_iff_eq, bne_iff_ne, beq_eq_false_iff_ne, bne_eq_false_iff_eq, ne_eq, Decidable.not_not] at c111z
   refine W.region rfl ?_
   refine s_val (x_mv (v := I real) rfl) ?_
   refine s_val (x_mv (v := I (r12.getD (Int.toNat (year - r02)) 0)) rfl) ?_
   refine s_val (x_max (kd := .i64) (a := real) (b := r12.getD (Int.toNat (year - r02)) 0) rfl rfl) ?_
   refine s_val (x_as (v := I (max real (r12.getD (Int.toNat (year - r02)) 0))) rfl) ?_
   refine s_nil ?_
   refine W.region rfl ?_
   refine s_val (x_mv (v := I year) rfl) ?_
   obtain ⟨sd112z, hM⟩ := M.e_grd hM
   simp only [Bool.and_eq_true, decide_eq_true_eq] at sd112z
   refine s_val (x_ari (a := year) (b := 1) (r := year + 1) rfl rfl rfl (by omega)) ?_
   refine s_val (x_as (v := I (year + 1)) rfl) ?_
   refine s_nil ?_
   exact ⟨m100z, lt101z, max real (r12.getD (Int.toNat (year - r02)) 0), year + 1, _, upds_of _ _ ⟨rfl, rfl, rfl, rfl, rfl, rfl, rfl, rfl, rfl, trivial⟩, M.e_inl hM hN103z, H⟩
  replace hM := M.e_f hM c111z
  simp only [decide_eq_true_eq, decide_eq_false_iff_not, beq_iff_eq, bne_iff_ne, beq_eq_false_iff_ne, bne_eq_false_iff_eq, ne_eq, Decidable.not_not] at c111z
  refine W.skip ?_
  refine W.region rfl ?_
  refine s_val (x_mv (v := I year) rfl) ?_
  obtain ⟨sd113z, hM⟩ := M.e_grd hM
  simp only [Bool.and_eq_true, decide_eq_true_eq] at sd113z
  refine s_val (x_ari (a := year) (b := 1) (r := year + 1) rfl rfl rfl (by omega)) ?_
  refine s_val (x_as (v := I (year + 1)) rfl) ?_
  refine s_nil ?_
  exact ⟨m100z, lt101z, real, year + 1, _, upds_of _ _ ⟨rfl, rfl, rfl, rfl, rfl, rfl, rfl, rfl, rfl, trivial⟩, M.e_inl hM hN103z, H⟩
 replace hM := M.e_f hM c104z
 simp only [decide_eq_true_eq, decide_eq_false_iff_not, beq_iff_eq, bne_iff_ne, beq_eq_false_iff_ne, bne_eq_false_iff_eq, ne_eq, Decidable.not_not] at c104z
 refine W.exit ?_
 have hX114z := M.e_inr hM hN103z
 subst hX114z
 replace hM := hk96z
 try dsimp only at hM
 refine W.seq ?_
 refine W.region rfl ?_
 refine s_val (x_mv (v := I r17) rfl) ?_
 refine s_val (x_cmp (kd := .i64) (a := r17) (b := 0) (r := r17 == 0) rfl rfl rfl) ?_
 refine s_val (x_mv (v := B (r17 == 0)) rfl) ?_
 refine g_val (r17 == 0) (gy_t rfl) (fun hg => x_mv (v := I real) rfl) ?_
 refine g_val (r17 == 0) (gy_t rfl) (fun hg => x_fa (a := .pointer (some ⟨b_12, 0, none⟩)) (v := .pointer (some ⟨b_12, 0, none⟩)) rfl (fa_blk (o := 0) Fd35_0 Sz3)) ?_
 refine g_val (r17 == 0) (gy_t rfl) (fun hg => x_ld (p := .pointer (some ⟨b_12, 0, none⟩)) (v := I r005) (gd_of (c := r17 == 0) hg (.pointer (some ⟨b_12, 0, none⟩))) (ldb_sc Sc3 (H.blk (k := 0) rfl) rfl)) ?_
 refine g_val (r17 == 0) (gy_t rfl) (fun hg => x_cmp (kd := .i64) (a := real) (b := r005) (r := decide (r005 <= real)) (gd_of (c := r17 == 0) hg (I real)) (gd_of (c := r17 == 0) hg (I r005)) rfl) ?_
 refine s_val (x_pand (b := r17 == 0) (r := decide (r005 <= real)) rfl (fun hb => gd_of (c := r17 == 0) (by first | exact hb | (rw [hb]; rfl) | simp_all) (B (decide (r005 <= real)))) rfl) ?_
 refine s_val (x_mv (v := B ((r17 == 0) && (decide (r005 <= real)))) rfl) ?_
 refine g_val ((r17 == 0) && (decide (r005 <= real))) (gy_t rfl) (fun hg => x_mv (v := I real) rfl) ?_
 refine g_val ((r17 == 0) && (decide (r005 <= real))) (gy_t rfl) (fun hg => x_fa (a := .pointer (some ⟨b_12, 0, none⟩)) (v := .pointer (some ⟨b_12, 1, none⟩)) rfl (fa_blk (o := 0) Fd35_1 Sz3)) ?_
 refine g_val ((r17 == 0) && (decide (r005 <= real))) (gy_t rfl) (fun hg => x_ld (p := .pointer (some ⟨b_12, 1, none⟩)) (v := I r015) (gd_of (c := ((r17 == 0) && (decide (r005 <= real)))) hg (.pointer (some ⟨b_12, 1, none⟩))) (ldb_sc Sc3 (H.blk (k := 0) rfl) rfl)) ?_
 refine g_val ((r17 == 0) && (decide (r005 <= real))) (gy_t rfl) (fun hg => x_cmp (kd := .i64) (a := real) (b := r015) (r := decide (real <= r015)) (gd_of (c := ((r17 == 0) && (decide (r005 <= real)))) hg (I real)) (gd_of (c := ((r17 == 0) && (decide (r005 <= real)))) hg (I r015)) rfl) ?_
 refine s_val (x_pand (b := ((r17 == 0) && (decide (r005 <= real)))) (r := decide (real <= r015)) rfl (fun hb => gd_of (c := ((r17 == 0) && (decide (r005 <= real)))) (by first | exact hb | (rw [hb]; rfl) | simp_all) (B (decide (real <= r015)))) rfl) ?_
 refine s_val (x_mv (v := B (((r17 == 0) && (decide (r005 <= real))) && (decide (real <= r015)))) rfl) ?_
 obtain ⟨r18, hx115z, hM⟩ := M.e_bind hM
 refine t_gcall (((r17 == 0) && (decide (r005 <= real))) && (decide (real <= r015))) (gy_t rfl) cf18 (B r18) (fun _ => []) (fun _ => rfl) H (fun hg => (zci (M.e_opt hx115z hg) _ (H.give (A := []) rfl)).mono fun v_ w_ ⟨y_, hr_, hv_, H_⟩ => by subst hr_; exact ⟨hv_, H.via H_⟩) ?_
 intro w116z H
 refine s_val (x_pand (b := (((r17 == 0) && (decide (r005 <= real))) && (decide (real <= r015)))) (r := r18) rfl (fun hb => gd_of (c := (((r17 == 0) && (decide (r005 <= real))) && (decide (real <= r015)))) (by first | exact hb | (rw [hb]; rfl) | simp_all) (B r18)) rfl) ?_
 refine s_val (x_as (v := B ((((r17 == 0) && (decide (r005 <= real))) && (decide (real <= r015))) && r18)) rfl) ?_
 refine s_nil ?_
 refine W.ret ?_
 have hr_ := M.e_pure hM
 exact ⟨_, resE_tmp rfl, ⟨((((r17 == 0) && (decide (r005 <= real))) && (decide (real <= r015))) && r18), hr_, rfl, (H.pick [] (by decide) rfl)⟩⟩

end Go.Proofs.Ytcgalcbkkijkhaa
end
namespace Go.Proofs.Ytcgalcbkkijkhaa
open Go Go.Nm
variable {ys : List Yr} {os : List Old10} {f l : Int} {t : List Int}
theorem told_real {r3 r4 r8 v : Int} (h : Bk.Tr ys os f l t) (h3 : 0 <= r3) (h4 : 0 <= r4) (hl : f + r3 + r4 <= l) (h8 : 0 <= r8) (hv : Bk.Top (Bk.vl t f (f + r3) (Int.toNat (f + r3 + r4 + 1 - (f + r3)))) (1 + r8) v) : (M.iter (zas ys os f l t r3 r4 r8) (0, f + r3)).Ends v := by
  refine M.Out.ends ?_
  have hlen := h.len
  have hf0 := h.ok.f0
  have hl3 := h.ok.l3
  obtain ⟨v1, v2, v3, v4⟩ := id hv
  refine M.o_for (Int.toNat (r4 + 1)) (fun i (s : Int × Int) => s.2 = f + r3 + i /\ 0 <= s.1 /\ s.1 <= v /\ ∀ j : Nat, j < i -> t.getD (Int.toNat (f + r3 + (j : Int) - f)) 0 <= v -> t.getD (Int.toNat (f + r3 + (j : Int) - f)) 0 <= s.1) ?_ ?_ ⟨by simp, Int.le_refl _, v1, fun j hj => by omega⟩
  · rintro i ⟨q, y⟩ hi ⟨e1, e2, e3, e4⟩
    dsimp only at e1 e2 e3 e4
    subst e1
    simp only [zas]
    generalize hx : t.getD (Int.toNat (f + r3 + (i : Int) - f)) 0 = x
    have c := counted_ends (t := t) ys os (fr := f + r3) (to := f + r3 + r4) (l := l) x (by omega) (by omega) hl hf0 hl3 hlen
    have hiff : (1 + r8 <= ((Bk.ct t f (f + r3) (Int.toNat (f + r3 + r4 + 1 - (f + r3))) x : Nat) : Int)) ↔ x <= v := by
      constructor
      · intro hh
        refine Int.not_lt.1 fun hn => ?_
        have := Bk.cnt_mono (L := Bk.vl t f (f + r3) (Int.toNat (f + r3 + r4 + 1 - (f + r3)))) (v := v + 1) (w := x) (by omega)
        unfold Bk.ct at hh
        omega
      · intro hh
        have := Bk.cnt_mono (L := Bk.vl t f (f + r3) (Int.toNat (f + r3 + r4 + 1 - (f + r3)))) (v := x) (w := v) hh
        unfold Bk.ct
        omega
    refine M.o_t (decide_eq_true (by omega)) (M.o_grd (gA2 (by omega) (by omega)) (M.o_grd (gA2 (by omega) (by omega)) (M.o_bindE c (M.o_if (fun hb => ?_) (fun hb => ?_)))))
    · have hb := hiff.1 (of_decide_eq_true hb)
      refine M.o_grd (gA2 (by omega) (by omega)) (M.o_pure ⟨by dsimp only; omega, by dsimp only; omega, by dsimp only; omega, fun j hj hjv => ?_⟩)
      dsimp only
      by_cases e : j = i
      · subst e; rw [hx]; omega
      · have := e4 j (by omega) hjv
        omega
    · have hb : ¬ x <= v := fun hh => of_decide_eq_false hb (hiff.2 hh)
      refine M.o_grd (gA2 (by omega) (by omega)) (M.o_pure ⟨by dsimp only; omega, e2, e3, fun j hj hjv => ?_⟩)
      by_cases e : j = i
      · subst e; rw [hx] at hjv; exact absurd hjv hb
      · exact e4 j (by omega) hjv
  · rintro ⟨q, y⟩ ⟨e1, e2, e3, e4⟩
    dsimp only at e1 e2 e3 e4
    subst e1
    simp only [zas]
    refine M.o_f (decide_eq_false (by omega)) (M.o_pure ?_)
    show q = v
    -- some number is that one
    have hex : ∃ x ∈ Bk.vl t f (f + r3) (Int.toNat (f + r3 + r4 + 1 - (f + r3))), x = v := by
      refine Classical.byContradiction fun hn => ?_
      have : (Bk.vl t f (f + r3) (Int.toNat (f + r3 + r4 + 1 - (f + r3)))).countP (fun x => decide (v <= x)) <= (Bk.vl t f (f + r3) (Int.toNat (f + r3 + r4 + 1 - (f + r3)))).countP (fun x => decide (v + 1 <= x)) := by
        refine List.countP_mono_left fun x hx hh => ?_
        have hh := of_decide_eq_true hh
        have : x ≠ v := fun e => hn ⟨x, hx, e⟩
        exact decide_eq_true (by omega)
      omega
    obtain ⟨x, hx, rfl⟩ := hex
    unfold Bk.vl at hx
    obtain ⟨j, hj, rfl⟩ := List.mem_map.1 hx
    have hj := List.mem_range.1 hj
    have := e4 j (by omega) (Int.le_refl _)
    omega
theorem zcj (p : List UInt8) (a b c d : Int) : (zbr p a b c d).Ends true := by
  refine M.Out.ends ?_
  unfold zbr
  have hnew : (zbH p).Ends (0, 0) := M.i_pure
  refine M.o_bindE hnew (M.o_bind (made_out SOk.zero (by omega) (by omega)) ?_)
  rintro ⟨ys, os, f, l, t, q1, q2⟩ ⟨hM, _⟩
  dsimp only at hM ⊢
  have h := hM.tr (by omega)
  have hlen := h.len
  have hf0 := hM.f0
  have hf2 := hM.f2
  have hfl := hM.fl
  have hnear := hM.near
  refine M.o_bindE (tr_holds h) (M.o_bindE (tr_clash h) (M.o_f rfl (M.o_bind (pick_num (by omega)) fun r3 h3 => ?_)))
  refine M.o_grd (gA2 (by omega) (by omega)) (M.o_grd (gA2 (by omega) (by omega)) (M.o_grd (gA2 (by omega) (by omega)) (M.o_bind (pick_num (by omega)) fun r4 h4 => ?_)))
  refine M.o_grd (gA2 (by omega) (by omega)) (M.o_bind (pick_num (by omega)) fun r5 h5 => ?_)
  have hI : Bk.In f l (f + r3) (f + r3 + r4) := ⟨by omega, by omega, by omega⟩
  have hW : Bk.In f l f l := ⟨Int.le_refl _, hfl, Int.le_refl _⟩
  obtain ⟨a1, b1, ha, hb, ha1, hb1, gR⟩ := tr_returns h (st := r5) (by omega)
  refine M.o_bindE (tr_highest h (y := f + r3) (by omega) (by omega)) (M.o_bindE (tr_passed h hI (by omega)) (M.o_bindE gR ?_))
  dsimp only
  obtain ⟨at1, at2⟩ := h.at_ (y := f + r3) (by omega) (by omega)
  have hd0 : 0 < t.length := by omega
  obtain ⟨A1, A2, A3, A4⟩ := Bk.share_nat (n := a1) hd0
  obtain ⟨B1, B2, B3, B4⟩ := Bk.share_nat (n := b1) hd0
  refine M.o_grd (gI2 fun _ => by omega) (M.o_grd (gI2 fun _ => by omega) (M.o_grd (gI2 fun _ => by omega) (M.o_grd (gI2 fun _ => by omega) (M.o_f ?_ ?_))))
  · rw [decide_eq_false (by omega), decide_eq_false (by omega), decide_eq_false (by omega), decide_eq_false (by omega)]
    rfl
  refine M.o_bindE (counted_ends (l := l) ys os r5 (by omega) (by omega) (by omega) hf0 (by omega) hlen) (M.o_bindE (counted_ends (l := l) ys os r5 (by omega) (by omega) (by omega) hf0 (by omega) hlen) ?_)
  have n1 := h.lo_ct hI r5
  have n2 := h.ct_hi hI r5
  have w1 := h.lo_ct hW r5
  have w2 := h.ct_hi hW r5
  rw [Bk.many_lo] at ha
  rw [Bk.many_hi] at hb
  rw [Bk.many_lo, Bk.many_hi]
  have c1 := Bk.ct_le t f f (Int.toNat (l + 1 - f)) r5
  have e1 : ∀ {x n g : Nat}, (x : Int) * ((n : Nat) : Int) = ((x * n : Nat) : Int) := fun {x n _} => (Int.natCast_mul x n).symm
  unfold Bk.ct at c1 ⊢
  generalize hC : (Bk.vl t f f (Int.toNat (l + 1 - f))).countP (fun x => decide (r5 <= x)) = C at *
  have m1 : a1 <= C := by omega
  have m2 : C <= b1 := by omega
  have p1 : a1 / Nat.gcd a1 t.length * t.length <= C * (t.length / Nat.gcd a1 t.length) := by rw [A1]; exact Nat.mul_le_mul_right _ m1
  have p2 : C * (t.length / Nat.gcd b1 t.length) <= b1 / Nat.gcd b1 t.length * t.length := by rw [B1]; exact Nat.mul_le_mul_right _ m2
  have p3 : b1 / Nat.gcd b1 t.length * t.length <= 100000 * 1000 := Nat.mul_le_mul (by omega) (by omega)
  have p4 : C * (t.length / Nat.gcd a1 t.length) <= 1000 * 1000 := Nat.mul_le_mul (by omega) (by omega)
  rw [← Int.natCast_mul, ← Int.natCast_mul, ← Int.natCast_mul, ← Int.natCast_mul]
  refine M.o_grd (gI2 fun _ => by omega) (M.o_grd (gI2 fun _ => by omega) (M.o_grd (gI2 fun _ => by omega) (M.o_grd (gI2 fun _ => by omega) (M.o_f ?_ ?_))))
  · rw [decide_eq_false (by omega), decide_eq_false (by omega), decide_eq_false (by omega), decide_eq_false (by omega)]
    rfl
  refine M.o_grd (gA2 (by omega) (by omega)) (M.o_grd (gA2 (by omega) (by omega)) (M.o_bind (pick_num (by omega)) fun r8 h8 => M.o_grd (gA2 (by omega) (by omega)) ?_))
  obtain ⟨u, v, g, tu, tv⟩ := tr_reaches h hI (n := 1 + r8) (by omega)
  refine M.o_bindE g ?_
  dsimp only
  obtain ⟨w, tw⟩ := top_some (L := Bk.vl t f (f + r3) (Int.toNat (f + r3 + r4 + 1 - (f + r3)))) (t := 1 + r8) (fun x hx => by
    unfold Bk.vl at hx
    obtain ⟨j, hj, rfl⟩ := List.mem_map.1 hx
    have hj := List.mem_range.1 hj
    exact h.all _ (by omega)) (by rw [Bk.vl_len]; omega)
  refine M.o_bindE (told_real h (by omega) (by omega) (by omega) (by omega) tw) ?_
  have k1 := Bk.Top.le (h.lo_ct hI) tu tw
  have k2 := Bk.Top.le (h.ct_hi hI) tw tv
  rw [decide_eq_true k1, decide_eq_true k2]
  exact M.o_bindE (M.i_opt (fun _ => awake_ends) (fun h => by cases h)) (M.o_pure rfl)
end Go.Proofs.Ytcgalcbkkijkhaa
