/- Part 5 of the texts on which the proof rests. Conditions: none. -/
import Derived.Test.YtclhljenjphofaaZR4
set_option linter.unusedVariables false
set_option linter.unusedSimpArgs false
set_option linter.unusedSectionVars false
namespace Go.Nm
structure SOk (c u x : Int) : Prop where
  u0 : 0 ≤ u
  u1 : u ≤ c
  x0 : 0 ≤ x
  x1 : x < 251
theorem SOk.mono {c d u x : Int} (h : SOk c u x) (hd : c ≤ d) : SOk d u x := ⟨h.u0, Int.le_trans h.u1 hd, h.x0, h.x1⟩
/-- What a stream gives: a number below n. -/
structure Nx (c n : Int) (y : Int × Int × Int) : Prop where
  ok : SOk c y.2.1 y.2.2
  lt : 1 ≤ n → 0 ≤ y.1 ∧ y.1 < n
  no : n < 1 → y.1 = 0
end Go.Nm
namespace Go.Proofs.Ytclhljenjphofaa
open Go Go.Nm
theorem next_out {b : List UInt8} {c u x n : Int} (h : SOk c u x) (hc : c ≤ 1000000000000) (hn : n ≤ 1000000) : (m_nilometerkit_Stream_Next b u x n).Out (Nx (c + 1) n) := by
  obtain ⟨u0, u1, x0, x1⟩ := h
  unfold m_nilometerkit_Stream_Next
  refine M.o_if (fun hb => ?_) (fun hb => ?_)
  · simp only [Bool.or_eq_true, decide_eq_true_eq, beq_iff_eq] at hb
    refine M.o_pure ⟨⟨u0, by dsimp only; omega, x0, x1⟩, fun h1 => ⟨Int.le_refl _, ?_⟩, fun _ => rfl⟩
    dsimp only
    omega
  · simp only [Bool.or_eq_false_iff, decide_eq_false_iff_not, beq_eq_false_iff_ne, ne_eq] at hb
    have hl : (0 : Int) < (b.length : Int) := by omega
    have m0 := Int.emod_nonneg u (show (b.length : Int) ≠ 0 by omega)
    have m1 := Int.emod_lt_of_pos u hl
    have d0 := Int.ediv_nonneg u0 (show (0 : Int) ≤ (b.length : Int) by omega)
    have d1 : u / (b.length : Int) ≤ u := Int.ediv_le_self _ u0
    have y1 : ((b.getD (Int.toNat (u % (b.length : Int))) 0).toNat : Int) < 256 := by
      have := UInt8.toNat_lt (b.getD (Int.toNat (u % (b.length : Int))) 0)
      omega
    have y0 : (0 : Int) ≤ ((b.getD (Int.toNat (u % (b.length : Int))) 0).toNat : Int) := Int.natCast_nonneg _
    generalize ((b.getD (Int.toNat (u % (b.length : Int))) 0).toNat : Int) = y at *
    generalize u % (b.length : Int) = m at *
    generalize u / (b.length : Int) = d at *
    have hn0 : 0 < n := by omega
    have fin : ∀ z : Int, 0 ≤ z → 0 ≤ z % n ∧ z % n < n := fun z hz => ⟨Int.emod_nonneg _ (by omega), Int.emod_lt_of_pos _ hn0⟩
    have pr : ∀ z w : Int, 0 ≤ z → Nx (c + 1) n (z % n, u + 1, w % 251) := fun z w hz => ⟨⟨by dsimp only; omega, by dsimp only; omega, by dsimp only; omega, by dsimp only; omega⟩, fun _ => fin z hz, fun h => by omega⟩
    refine M.o_grd (by simp only [Bool.and_eq_true, decide_eq_true_eq]; omega) (M.o_grd (by simp only [Bool.and_eq_true, decide_eq_true_eq]; omega) (M.o_grd (by simp only [Bool.and_eq_true, decide_eq_true_eq]; omega) ?_))
    refine M.o_if (fun h1 => ?_) (fun h1 => ?_)
    · refine M.o_grd (by simp only [Bool.and_eq_true, decide_eq_true_eq]; omega) (M.o_grd (by simp only [Bool.and_eq_true, decide_eq_true_eq]; omega) (M.o_grd (by simp only [Bool.and_eq_true, decide_eq_true_eq]; omega) (M.o_grd (by simp only [Bool.and_eq_true, decide_eq_true_eq]; omega) (M.o_grd (by simp only [Bool.and_eq_true, decide_eq_true_eq]; omega) ?_))))
      refine M.o_grd (by simp only [Bool.and_eq_true, decide_eq_true_eq]; omega) (M.o_grd (by simp only [Bool.and_eq_true, decide_eq_true_eq]; omega) (M.o_grd (by simp only [Bool.and_eq_true, decide_eq_true_eq]; omega) (M.o_grd (by simp only [Bool.and_eq_true, decide_eq_true_eq]; omega) ?_)))
      refine M.o_if (fun h2 => ?_) (fun h2 => ?_)
      · refine M.o_grd (by simp only [Bool.and_eq_true, decide_eq_true_eq]; omega) (M.o_grd (by simp only [Bool.and_eq_true, decide_eq_true_eq]; omega) (M.o_grd (by simp only [Bool.and_eq_true, decide_eq_true_eq]; omega) (M.o_pure (pr _ _ (by omega)))))
      · refine M.o_grd (by simp only [Bool.and_eq_true, decide_eq_true_eq]; omega) (M.o_pure (pr _ _ (by omega)))
    · refine M.o_grd (by simp only [Bool.and_eq_true, decide_eq_true_eq]; omega) (M.o_grd (by simp only [Bool.and_eq_true, decide_eq_true_eq]; omega) (M.o_grd (by simp only [Bool.and_eq_true, decide_eq_true_eq]; omega) (M.o_grd (by simp only [Bool.and_eq_true, decide_eq_true_eq]; omega) (M.o_grd (by simp only [Bool.and_eq_true, decide_eq_true_eq]; omega) ?_))))
      refine M.o_if (fun h2 => ?_) (fun h2 => ?_)
      · refine M.o_grd (by simp only [Bool.and_eq_true, decide_eq_true_eq]; omega) (M.o_grd (by simp only [Bool.and_eq_true, decide_eq_true_eq]; omega) (M.o_grd (by simp only [Bool.and_eq_true, decide_eq_true_eq]; omega) (M.o_pure (pr _ _ (by omega)))))
      · refine M.o_grd (by simp only [Bool.and_eq_true, decide_eq_true_eq]; omega) (M.o_pure (pr _ _ (by omega)))
theorem within_out {b : List UInt8} {c u x lo hi : Int} (h : SOk c u x) (hc : c ≤ 1000000000000) (h0 : -1000 ≤ lo) (h1 : lo ≤ hi) (h2 : hi ≤ 10000) : (m_nilometerkit_Stream_Within b u x lo hi).Out (fun y => SOk (c + 1) y.2.1 y.2.2 ∧ lo ≤ y.1 ∧ y.1 ≤ hi) := by
  unfold m_nilometerkit_Stream_Within
  refine M.o_grd (gA2 (by omega) (by omega)) (M.o_grd (gA2 (by omega) (by omega)) (M.o_bind (next_out h hc (by omega)) ?_))
  rintro ⟨r, u', x'⟩ ⟨k, hl, _⟩
  have := hl (by omega)
  dsimp only at this k ⊢
  exact M.o_grd (gA2 (by omega) (by omega)) (M.o_pure ⟨k, by dsimp only; omega, by dsimp only; omega⟩)
end Go.Proofs.Ytclhljenjphofaa
namespace Go.Nm
/-- A leg leads from a mark to another one, and can rise so much. -/
def Ed (ls : List Line) (a b c : Int) : Prop := ∃ l, l ∈ ls ∧ ((l.src = a ∧ l.dst = b ∧ c = l.err + l.rise) ∨ (l.dst = a ∧ l.src = b ∧ c = l.err - l.rise))
/-- Heights agree with all lines. -/
def Feas (ls : List Line) (h : Int → Int) : Prop := ∀ l, l ∈ ls → l.rise - l.err ≤ h l.dst - h l.src ∧ h l.dst - h l.src ≤ l.rise + l.err
inductive Wk (ls : List Line) (a : Int) : List Int → Int → Prop
  | one : Wk ls a [a] 0
  | snoc {m b : Int} {vs : List Int} {c e : Int} (w : Wk ls a (m :: vs) c) (he : Ed ls m b e) : Wk ls a (b :: m :: vs) (c + e)
variable {ls : List Line} {h : Int → Int} {a b c : Int}
theorem Feas.ed (hF : Feas ls h) (e : Ed ls a b c) : h b - h a ≤ c := by
  obtain ⟨l, hl, ⟨rfl, rfl, rfl⟩ | ⟨rfl, rfl, rfl⟩⟩ := e
  · have := hF l hl; omega
  · have := hF l hl; omega
theorem feas_of (hE : ∀ a b c, Ed ls a b c → h b - h a ≤ c) : Feas ls h := fun l hl => by
  have h1 := hE l.src l.dst _ ⟨l, hl, .inl ⟨rfl, rfl, rfl⟩⟩
  have h2 := hE l.dst l.src _ ⟨l, hl, .inr ⟨rfl, rfl, rfl⟩⟩
  omega
theorem Ed.rev (e : Ed ls a b c) : ∃ c', Ed ls b a c' := by
  obtain ⟨l, hl, ⟨rfl, rfl, rfl⟩ | ⟨rfl, rfl, rfl⟩⟩ := e
  · exact ⟨_, l, hl, .inr ⟨rfl, rfl, rfl⟩⟩
  · exact ⟨_, l, hl, .inl ⟨rfl, rfl, rfl⟩⟩
theorem Ed.sub {ks : List Line} (e : Ed ls a b c) (hs : ∀ l, l ∈ ls → l ∈ ks) : Ed ks a b c := by
  obtain ⟨l, hl, h⟩ := e
  exact ⟨l, hs l hl, h⟩
theorem Wk.sub {ks : List Line} {vs : List Int} (w : Wk ls a vs c) (hs : ∀ l, l ∈ ls → l ∈ ks) : Wk ks a vs c := by
  induction w with
  | one => exact .one
  | snoc _ he ih => exact .snoc ih (he.sub hs)
theorem Wk.feas (hF : Feas ls h) {vs : List Int} (w : Wk ls a vs c) : ∀ b, vs.head? = some b → h b - h a ≤ c := by
  induction w with
  | one => intro b hb; simp at hb; subst hb; omega
  | snoc _ he ih =>
    intro b hb
    simp at hb
    subst hb
    have h1 := ih _ rfl
    have h2 := hF.ed he
    omega
theorem Wk.le (hF : Feas ls h) {vs : List Int} (w : Wk ls a (b :: vs) c) : h b - h a ≤ c := w.feas hF b rfl
theorem Wk.ne {c : Int} (w : Wk ls a [] c) : False := by cases w
theorem Wk.last {vs : List Int} (w : Wk ls a vs c) : vs.getLast? = some a := by
  induction w with
  | one => rfl
  | snoc _ _ ih => rw [List.getLast?_cons_cons]; exact ih
/-- The end of a walk, put behind another one. -/
theorem Wk.cut : ∀ (xs : List Int) {v : Int} {ys : List Int} {c : Int}, Wk ls a (xs ++ v :: ys) c → ∃ c1, Wk ls a (v :: ys) c1 ∧ ∀ (a' : Int) (zs : List Int) (c2 : Int), Wk ls a' (v :: zs) c2 → Wk ls a' (xs ++ v :: zs) (c2 + (c - c1))
  | [], v, ys, c, w => ⟨c, w, fun a' zs c2 w2 => by rw [show c2 + (c - c) = c2 by omega]; exact w2⟩
  | [x], v, ys, c, w => by
    cases w with
    | snoc w he =>
      refine ⟨_, w, fun a' zs c2 w2 => ?_⟩
      rename_i c0 e
      rw [show c2 + (c0 + e - c0) = c2 + e by omega]
      exact .snoc w2 he
  | x :: y :: xs, v, ys, c, w => by
    cases w with
    | snoc w he =>
      rename_i c0 e
      obtain ⟨c1, h1, h2⟩ := Wk.cut (y :: xs) w
      refine ⟨c1, h1, fun a' zs c2 w2 => ?_⟩
      have := h2 a' zs c2 w2
      rw [show c2 + (c0 + e - c1) = c2 + (c0 - c1) + e by omega]
      exact .snoc this he
theorem Wk.app {m : Int} {vs ws : List Int} {c d : Int} (w : Wk ls a (m :: vs) c) (w' : Wk ls m (b :: ws) d) : ∃ us, Wk ls a (b :: us) (c + d) := by
  generalize hl : b :: ws = l at w'
  induction w' generalizing b ws with
  | one => cases hl; exact ⟨vs, by rw [Int.add_zero]; exact w⟩
  | snoc w2 he ih =>
    cases hl
    obtain ⟨us, hu⟩ := ih rfl
    exact ⟨_, by rw [← Int.add_assoc]; exact .snoc hu he⟩
theorem Wk.edge (e : Ed ls a b c) : Wk ls a [b, a] c := by
  have := Wk.snoc (.one (ls := ls) (a := a)) e
  rwa [Int.zero_add] at this
/-- Who can go can go back. -/
theorem Wk.back {vs : List Int} (w : Wk ls a vs c) : ∀ b, vs.head? = some b → ∃ us d, Wk ls b (a :: us) d := by
  induction w with
  | one => intro b hb; simp at hb; subst hb; exact ⟨[], 0, .one⟩
  | snoc _ he ih =>
    intro b hb
    simp at hb
    subst hb
    obtain ⟨c', hr⟩ := he.rev
    obtain ⟨us, d, hw⟩ := ih _ rfl
    obtain ⟨vs, hv⟩ := (Wk.edge hr).app hw
    exact ⟨vs, _, hv⟩
theorem not_nodup : ∀ (l : List Int), ¬ l.Nodup → ∃ xs v ys zs, l = xs ++ v :: (ys ++ v :: zs)
  | [], h => absurd List.nodup_nil h
  | x :: l, h => by
    by_cases hx : x ∈ l
    · obtain ⟨ys, zs, rfl⟩ := List.append_of_mem hx
      exact ⟨[], x, ys, zs, rfl⟩
    · obtain ⟨xs, v, ys, zs, e⟩ := not_nodup l (fun hn => h (List.nodup_cons.2 ⟨hx, hn⟩))
      exact ⟨x :: xs, v, ys, zs, by rw [e]; rfl⟩
/-- A walk without a mark twice can rise no more, if some heights agree. -/
theorem Wk.short (hF : Feas ls h) : ∀ (k : Nat) {vs : List Int} {b c : Int}, vs.length ≤ k → Wk ls a (b :: vs) c → ∃ vs' c', Wk ls a (b :: vs') c' ∧ c' ≤ c ∧ (b :: vs').Nodup
  | 0, vs, b, c, hk, w => by
    have : vs = [] := List.length_eq_zero_iff.1 (Nat.le_zero.1 hk)
    subst this
    exact ⟨[], c, w, Int.le_refl _, by simp⟩
  | k + 1, vs, b, c, hk, w => by
    by_cases hn : (b :: vs).Nodup
    · exact ⟨vs, c, w, Int.le_refl _, hn⟩
    · obtain ⟨xs, v, ys, zs, e⟩ := not_nodup _ hn
      rw [e] at w
      obtain ⟨c1, w1, t1⟩ := Wk.cut xs w
      obtain ⟨c2, w2, t2⟩ := Wk.cut (v :: ys) (v := v) (ys := zs) w1
      have w3 := t2 v [] 0 .one
      have h3 : 0 ≤ c1 - c2 := by have := Wk.le hF w3; omega
      have w4 := t1 a zs c2 w2
      have hlen : (xs ++ v :: zs).length ≤ k + 1 := by
        have := congrArg List.length e
        simp at this hk ⊢
        omega
      cases xs with
      | nil =>
        simp only [List.nil_append] at e w4 hlen
        have hb : b = v := (List.cons.inj e).1
        subst hb
        obtain ⟨vs', c', g1, g2, g3⟩ := Wk.short hF k (by simpa using hlen) w4
        exact ⟨vs', c', g1, by omega, g3⟩
      | cons x xs =>
        simp only [List.cons_append] at e w4 hlen
        have hb : b = x := (List.cons.inj e).1
        subst hb
        obtain ⟨vs', c', g1, g2, g3⟩ := Wk.short hF k (by simpa using hlen) w4
        exact ⟨vs', c', g1, by omega, g3⟩
/-- All lines lie between marks. -/
def Rng (n : Int) (ls : List Line) : Prop := ∀ l, l ∈ ls → (0 ≤ l.src ∧ l.src < n) ∧ (0 ≤ l.dst ∧ l.dst < n)
theorem Ed.rng {n : Int} (hR : Rng n ls) (e : Ed ls a b c) : (0 ≤ a ∧ a < n) ∧ (0 ≤ b ∧ b < n) := by
  obtain ⟨l, hl, ⟨rfl, rfl, rfl⟩ | ⟨rfl, rfl, rfl⟩⟩ := e
  · exact hR l hl
  · exact ⟨(hR l hl).2, (hR l hl).1⟩
theorem Wk.rng {n : Int} (hR : Rng n ls) (ha : 0 ≤ a ∧ a < n) {vs : List Int} (w : Wk ls a vs c) : ∀ v, v ∈ vs → 0 ≤ v ∧ v < n := by
  induction w with
  | one => intro v hv; simp at hv; subst hv; exact ha
  | snoc _ he ih =>
    intro v hv
    rcases List.mem_cons.1 hv with rfl | hv
    · exact (he.rng hR).2
    · exact ih v hv
/-- A shortest walk has fewer legs than there are marks. -/
theorem Wk.few {n : Nat} (hF : Feas ls h) (hR : Rng n ls) (ha : 0 ≤ a ∧ a < n) {vs : List Int} (w : Wk ls a (b :: vs) c) : ∃ vs' c', Wk ls a (b :: vs') c' ∧ c' ≤ c ∧ (b :: vs').Nodup ∧ vs'.length + 1 ≤ n := by
  obtain ⟨vs', c', g1, g2, g3⟩ := Wk.short hF _ (Nat.le_refl _) w
  exact ⟨vs', c', g1, g2, g3, nodup_bound n _ g3 (g1.rng hR ha)⟩
/-- What a walk can rise lies between bounds, as long as a leg's does. -/
theorem Wk.size (hB : ∀ a b c, Ed ls a b c → -1010000 ≤ c ∧ c ≤ 1010000) {vs : List Int} (w : Wk ls a vs c) : -(1010000 * (vs.length : Int)) + 1010000 ≤ c ∧ c ≤ 1010000 * (vs.length : Int) - 1010000 := by
  induction w with
  | one => simp
  | @snoc m b vs c e _ he ih =>
    have h1 := hB _ _ _ he
    simp only [List.length_cons, Int.natCast_succ] at ih ⊢
    omega
/-- The greatest difference. -/
structure IsDist (ls : List Line) (a b d : Int) : Prop where
  has : ∃ vs, Wk ls a (b :: vs) d
  le : ∀ vs c, Wk ls a (b :: vs) c → d ≤ c
def Tied (ls : List Line) (a b : Int) : Prop := ∃ vs c, Wk ls a (b :: vs) c
theorem IsDist.tied {d : Int} (h : IsDist ls a b d) : Tied ls a b := let ⟨vs, w⟩ := h.has; ⟨vs, d, w⟩
theorem Tied.refl (ls : List Line) (a : Int) : Tied ls a a := ⟨[], 0, .one⟩
theorem Tied.symm (t : Tied ls a b) : Tied ls b a := by
  obtain ⟨vs, c, w⟩ := t
  obtain ⟨us, d, h⟩ := w.back b rfl
  exact ⟨us, d, h⟩
theorem Tied.trans {m : Int} (t : Tied ls a m) (u : Tied ls m b) : Tied ls a b := by
  obtain ⟨vs, c, w⟩ := t
  obtain ⟨us, d, w'⟩ := u
  obtain ⟨xs, h⟩ := w.app w'
  exact ⟨xs, _, h⟩
theorem Tied.ed (e : Ed ls a b c) : Tied ls a b := ⟨_, _, Wk.edge e⟩
theorem least_nat {p : Nat → Prop} (h : ∃ n, p n) : ∃ n, p n ∧ ∀ k, p k → n ≤ k := by
  obtain ⟨n, hn⟩ := h
  induction n using Nat.strongRecOn with
  | _ n ih =>
    by_cases hc : ∃ k, k < n ∧ p k
    · obtain ⟨k, hk, hp⟩ := hc
      exact ih k hk hp
    · exact ⟨n, hn, fun k hk => by
        rcases Nat.lt_or_ge k n with hlt | hge
        · exact absurd ⟨k, hlt, hk⟩ hc
        · exact hge⟩
theorem dist_ex (hF : Feas ls h) (t : Tied ls a b) : ∃ d, IsDist ls a b d := by
  obtain ⟨vs, c, w⟩ := t
  obtain ⟨k, ⟨vs', w'⟩, hk⟩ := least_nat (p := fun k => ∃ vs, Wk ls a (b :: vs) (h b - h a + k)) ⟨(c - (h b - h a)).toNat, vs, by
    have := w.le hF
    rw [show h b - h a + ((c - (h b - h a)).toNat : Int) = c by omega]; exact w⟩
  refine ⟨_, ⟨vs', w'⟩, fun us c' wc => ?_⟩
  have h1 := wc.le hF
  have h2 := hk (c' - (h b - h a)).toNat ⟨us, by rw [show h b - h a + ((c' - (h b - h a)).toNat : Int) = c' by omega]; exact wc⟩
  omega
theorem IsDist.uniq {d d' : Int} (h1 : IsDist ls a b d) (h2 : IsDist ls a b d') : d = d' := by
  obtain ⟨vs, w⟩ := h1.has
  obtain ⟨us, w'⟩ := h2.has
  have := h1.le _ _ w'
  have := h2.le _ _ w
  omega
theorem IsDist.self (hF : Feas ls h) : IsDist ls a a 0 := ⟨⟨[], .one⟩, fun _ _ w => by have := w.le hF; omega⟩
theorem IsDist.step {m d e : Int} (h1 : IsDist ls a m d) (he : Ed ls m b e) {d' : Int} (h2 : IsDist ls a b d') : d' ≤ d + e := by
  obtain ⟨vs, w⟩ := h1.has
  exact h2.le _ _ (.snoc w he)
theorem IsDist.feas {d : Int} (hF : Feas ls h) (h1 : IsDist ls a b d) : h b - h a ≤ d := by
  obtain ⟨vs, w⟩ := h1.has
  exact w.le hF
end Go.Nm
namespace Go.Nm
/-- A net as it may be. -/
structure NetOk (n : Int) (ls : List Line) : Prop where
  marks : 1 ≤ n ∧ n ≤ 12
  few : ls.length ≤ 30
  rng : Rng n ls
  ne : ∀ l, l ∈ ls → l.src ≠ l.dst
  day : ∀ l, l ∈ ls → 0 ≤ l.day ∧ l.day ≤ 40000
  rise : ∀ l, l ∈ ls → -1000000 ≤ l.rise ∧ l.rise ≤ 1000000
  err : ∀ l, l ∈ ls → 0 ≤ l.err ∧ l.err ≤ 10000
variable {ls : List Line} {n a b c : Int} {h : Int → Int}
theorem NetOk.ed (hN : NetOk n ls) : ∀ a b c, Ed ls a b c → -1010000 ≤ c ∧ c ≤ 1010000 := by
  rintro a b c ⟨l, hl, ⟨_, _, rfl⟩ | ⟨_, _, rfl⟩⟩
  · have := hN.rise l hl; have := hN.err l hl; omega
  · have := hN.rise l hl; have := hN.err l hl; omega
/-- What is known of a row at work. -/
structure BF (ls : List Line) (n a : Int) (D : Int → Int) (k : Int) : Prop where
  top : ∀ v, 0 ≤ v → v < n → D v ≤ 1099511627776
  snd : ∀ v, 0 ≤ v → v < n → D v < 1099511627776 → ∃ vs, Wk ls a (v :: vs) (D v)
  low : ∀ v, 0 ≤ v → v < n → -(1010000 * k) ≤ D v
  own : D a ≤ 0
  up : ∀ v, 0 ≤ v → v < n → D v < 1099511627776 → D v ≤ 1010000 * k
theorem BF.init (ls : List Line) (n a : Int) : BF ls n a (fun v => if v = a then 0 else 1099511627776) 0 where
  top v _ _ := by first | (split <;> omega) | (dsimp only; split <;> omega)
  snd v _ _ hv := by
    try dsimp only at hv ⊢
    split at hv
    · rename_i e; subst e; rw [if_pos rfl]; exact ⟨[], .one⟩
    · omega
  low v _ _ := by first | (split <;> omega) | (dsimp only; split <;> omega)
  own := by rw [if_pos rfl]; exact Int.le_refl _
  up v _ _ := by first | (split <;> omega) | (dsimp only; split <;> omega)
theorem BF.congr {D D' : Int → Int} {k : Int} (hB : BF ls n a D k) (ha : 0 ≤ a ∧ a < n) (hN : Rng n ls) (e : ∀ v, 0 ≤ v → v < n → D' v = D v) : BF ls n a D' k where
  top v h0 h1 := by rw [e v h0 h1]; exact hB.top v h0 h1
  snd v h0 h1 := by rw [e v h0 h1]; exact hB.snd v h0 h1
  low v h0 h1 := by rw [e v h0 h1]; exact hB.low v h0 h1
  own := by rw [e a ha.1 ha.2]; exact hB.own
  up v h0 h1 := by rw [e v h0 h1]; exact hB.up v h0 h1
theorem BF.mono {D : Int → Int} {k k' : Int} (hB : BF ls n a D k) (hk : k ≤ k') : BF ls n a D k' := ⟨hB.top, hB.snd, fun v h0 h1 => by have := hB.low v h0 h1; omega, hB.own, fun v h0 h1 h2 => by have := hB.up v h0 h1 h2; omega⟩
theorem BF.relax {D : Int → Int} {k m g e : Int} (hB : BF ls n a D k) (hk : 0 ≤ k) (he : Ed ls m g e) (hb : -1010000 ≤ e ∧ e ≤ 1010000) (hm : 0 ≤ m ∧ m < n) (hg : 0 ≤ g ∧ g < n) (h1 : D m < 1099511627776) (h2 : D m + e < D g) : BF ls n a (fun v => if v = g then D m + e else D v) (k + 1) where
  top v h0 h3 := by
    try dsimp only
    split
    · have := hB.top g hg.1 hg.2; omega
    · exact hB.top v h0 h3
  snd v h0 h3 hv := by
    try dsimp only at hv ⊢
    split at hv
    · rename_i e; subst e
      rw [if_pos rfl]
      obtain ⟨vs, w⟩ := hB.snd m hm.1 hm.2 h1
      exact ⟨_, .snoc w he⟩
    · rename_i e; rw [if_neg e]; exact hB.snd v h0 h3 hv
  low v h0 h3 := by
    try dsimp only
    split
    · have := hB.low m hm.1 hm.2; omega
    · have := hB.low v h0 h3; omega
  own := by
    try dsimp only
    split
    · rename_i e; subst e; have := hB.own; omega
    · exact hB.own
  up v h0 h3 hv := by
    try dsimp only at hv ⊢
    split at hv
    · rename_i e; rw [if_pos e]; have := hB.up m hm.1 hm.2 h1; omega
    · rename_i e; rw [if_neg e]; have := hB.up v h0 h3 hv; omega
/-- Walks of so many legs are told. -/
def Cov (ls : List Line) (a : Int) (D : Int → Int) (r : Nat) : Prop := ∀ vs b c, Wk ls a (b :: vs) c → vs.length ≤ r → D b ≤ c
theorem Cov.zero {D : Int → Int} (h : D a ≤ 0) : Cov ls a D 0 := by
  intro vs b c w hl
  have : vs = [] := List.length_eq_zero_iff.1 (Nat.le_zero.1 hl)
  subst this
  cases w
  exact h
theorem Cov.next {D D' : Int → Int} {r : Nat} (hN : NetOk n ls) (hr : r ≤ 1000) (hC : Cov ls a D r) (ha : 0 ≤ a ∧ a < n) (hle : ∀ v, 0 ≤ v → v < n → D' v ≤ D v) (hE : ∀ m g e, Ed ls m g e → D m < 1099511627776 → D' g ≤ D m + e) : Cov ls a D' (r + 1) := by
  intro vs b c w hl
  cases w with
  | one => exact Int.le_trans (hle _ ha.1 ha.2) (hC [] _ _ .one (Nat.zero_le _))
  | snoc w he =>
    rename_i m ws c0 e
    have h1 := hC _ _ _ w (by simpa using hl)
    have h2 := w.size hN.ed
    simp only [List.length_cons] at h2 hl
    have h3 : D m < 1099511627776 := by omega
    have := hE _ _ _ he h3
    omega
/-- At the end. -/
structure Done (ls : List Line) (n a : Int) (D : Int → Int) : Prop where
  far : ∀ v, 0 ≤ v → v < n → D v ≠ 1099511627776 → D v < 1099511627776
  dist : ∀ v, 0 ≤ v → v < n → D v < 1099511627776 → IsDist ls a v (D v)
  tied : ∀ v, 0 ≤ v → v < n → Tied ls a v → D v < 1099511627776
theorem BF.done {D : Int → Int} {k : Int} {r N : Nat} (hN : NetOk n ls) (hF : Feas ls h) (e : (N : Int) = n) (ha : 0 ≤ a ∧ a < n) (hB : BF ls n a D k) (hC : Cov ls a D r) (hr : N ≤ r + 1) : Done ls n a D := by
  have hle : ∀ vs b c, Wk ls a (b :: vs) c → D b ≤ c ∧ D b < 1099511627776 := by
    intro vs b c w
    obtain ⟨vs', c', w', h1, h2, h3⟩ := w.few (n := N) hF (by rw [e]; exact hN.rng) (by rw [e]; exact ha)
    have h4 := hC _ _ _ w' (by omega)
    have h5 := w'.size hN.ed
    simp only [List.length_cons] at h5
    have := hN.marks
    exact ⟨by omega, by omega⟩
  refine ⟨fun v h0 h1 h2 => ?_, fun v h0 h1 h2 => ⟨hB.snd v h0 h1 h2, fun vs c w => (hle vs v c w).1⟩, fun v h0 h1 ⟨vs, c, w⟩ => (hle vs v c w).2⟩
  have := hB.top v h0 h1
  omega
/-- Rows that no leg makes less. -/
structure Tight (ls : List Line) (n : Int) (T : Int → Int → Int) : Prop where
  leg : ∀ a m g e, 0 ≤ a → a < n → Ed ls m g e → T a m < 1099511627776 → T a g ≤ T a m + e
  zero : ∀ a, 0 ≤ a → a < n → T a a = 0
theorem Tight.feas {T : Int → Int → Int} (hN : NetOk n ls) (hS : Tight ls n T) (ht : ∀ a v, 0 ≤ a → a < n → 0 ≤ v → v < n → T a v ≤ 1099511627776) (f : Int → Int)
    (hf : ∀ v, 0 ≤ v → v < n → (0 ≤ f v ∧ f v < n) ∧ T (f v) v < 1099511627776 ∧ ∀ u, 0 ≤ u → u < f v → ¬ T u v < 1099511627776) (hb : ∀ a m g e, 0 ≤ a → a < n → Ed ls m g e → T a m < 1099511627776 → T a m + e < 1099511627776) : Feas ls (fun v => T (f v) v) := by
  refine feas_of fun m g e he => ?_
  have hr := he.rng hN.rng
  have hm := hf m hr.1.1 hr.1.2
  have hg := hf g hr.2.1 hr.2.2
  have step : ∀ u v, Ed ls u v e ∨ (∃ e', Ed ls u v e') → True := fun _ _ _ => trivial
  have same : f m = f g := by
    have key : ∀ u v e', Ed ls u v e' → f v ≤ f u := by
      intro u v e' h'
      have hr' := h'.rng hN.rng
      have h1 := hf u hr'.1.1 hr'.1.2
      have h2 := hf v hr'.2.1 hr'.2.2
      have h3 := hS.leg _ _ _ _ h1.1.1 h1.1.2 h' h1.2.1
      have h4 := hb _ _ _ _ h1.1.1 h1.1.2 h' h1.2.1
      rcases Int.lt_or_le (f u) (f v) with hlt | hge
      · exact absurd (by omega) (h2.2.2 (f u) h1.1.1 hlt)
      · exact hge
    obtain ⟨e', hr'⟩ := he.rev
    have := key _ _ _ he
    have := key _ _ _ hr'
    omega
  try dsimp only
  have h3 := hS.leg (f m) m g e hm.1.1 hm.1.2 he hm.2.1
  rw [← same]
  omega
/-! ### Legs, and the last legs of shortest walks -/
def LegOk (ls : List Line) (g : Leg) : Prop := 0 ≤ g.line ∧ g.line < (ls.length : Int)
def lnOf (ls : List Line) (g : Leg) : Line := ls.getD (Int.toNat g.line) default
def sOf (ls : List Line) (g : Leg) : Int := legEnd g.back (lnOf ls g)
def gOf (ls : List Line) (g : Leg) : Int := legEnd (!g.back) (lnOf ls g)
def rOf (ls : List Line) (g : Leg) : Int := bif g.back then (lnOf ls g).err - (lnOf ls g).rise else (lnOf ls g).err + (lnOf ls g).rise
theorem LegOk.mem {g : Leg} (h : LegOk ls g) : lnOf ls g ∈ ls := by
  unfold lnOf
  have hl : Int.toNat g.line < ls.length := by have := h.1; have := h.2; omega
  rw [getD_el ls hl]
  exact List.getElem_mem hl
theorem LegOk.ed {g : Leg} (h : LegOk ls g) : Ed ls (sOf ls g) (gOf ls g) (rOf ls g) := by
  refine ⟨lnOf ls g, h.mem, ?_⟩
  unfold sOf gOf rOf legEnd
  cases g.back with
  | true => exact .inr ⟨rfl, rfl, rfl⟩
  | false => exact .inl ⟨rfl, rfl, rfl⟩
theorem leg_of (he : Ed ls a b c) : ∃ (i : Nat) (k : Bool), i < ls.length ∧ sOf ls ⟨i, k⟩ = a ∧ gOf ls ⟨i, k⟩ = b ∧ rOf ls ⟨i, k⟩ = c := by
  obtain ⟨l, hl, h⟩ := he
  obtain ⟨i, hi, rfl⟩ := mem_getD hl default
  rcases h with ⟨rfl, rfl, rfl⟩ | ⟨rfl, rfl, rfl⟩
  · exact ⟨i, false, hi, rfl, rfl, rfl⟩
  · exact ⟨i, true, hi, rfl, rfl, rfl⟩
/-- The last legs lead back to the first mark. -/
inductive Ch (ls : List Line) (a : Int) (by_ : Int → Leg) : Int → Prop
  | root : Ch ls a by_ a
  | up {v : Int} (hv : v ≠ a) (h : Ch ls a by_ (sOf ls (by_ v))) : Ch ls a by_ v
structure ByOk (ls : List Line) (n a : Int) (D : Int → Int) (by_ : Int → Leg) : Prop where
  leg : ∀ v, 0 ≤ v → v < n → v ≠ a → D v < 1099511627776 → LegOk ls (by_ v) ∧ gOf ls (by_ v) = v ∧ D (sOf ls (by_ v)) + rOf ls (by_ v) ≤ D v ∧ D (sOf ls (by_ v)) < 1099511627776
  chn : ∀ h, Feas ls h → ∀ v, 0 ≤ v → v < n → D v < 1099511627776 → Ch ls a by_ v
theorem ByOk.init (ls : List Line) (n a : Int) (by_ : Int → Leg) : ByOk ls n a (fun v => if v = a then 0 else 1099511627776) by_ where
  leg v _ _ hv h := by rw [if_neg hv] at h; omega
  chn h _ v _ _ hd := by
    by_cases e : v = a
    · subst e; exact .root
    · rw [if_neg e] at hd; omega
theorem Ch.congr {by_ by' : Int → Leg} (e : ∀ v, 0 ≤ v → v < n → by' v = by_ v) (hR : ∀ v, 0 ≤ v → v < n → v ≠ a → Ch ls a by_ v → 0 ≤ sOf ls (by_ v) ∧ sOf ls (by_ v) < n) {v : Int} (h0 : 0 ≤ v ∧ v < n) (h : Ch ls a by_ v) : Ch ls a by' v := by
  induction h with
  | root => exact .root
  | @up v hv hc ih => exact .up hv (by rw [e v h0.1 h0.2]; exact ih (hR v h0.1 h0.2 hv (.up hv hc)))
theorem ByOk.congr {D D' : Int → Int} {by_ by' : Int → Leg} (hN : NetOk n ls) (hB : ByOk ls n a D by_) (e : ∀ v, 0 ≤ v → v < n → D' v = D v) (e' : ∀ v, 0 ≤ v → v < n → by' v = by_ v) : ByOk ls n a D' by' where
  leg v h0 h1 hv hd := by
    rw [e v h0 h1] at hd ⊢
    rw [e' v h0 h1]
    obtain ⟨h2, h3, h4, h5⟩ := hB.leg v h0 h1 hv hd
    have hr := (h2.ed.rng hN.rng).1
    rw [e _ hr.1 hr.2]
    exact ⟨h2, h3, h4, h5⟩
  chn h hF v h0 h1 hd := by
    rw [e v h0 h1] at hd
    have hc := hB.chn h hF v h0 h1 hd
    have key : ∀ v, Ch ls a by_ v → 0 ≤ v → v < n → D v < 1099511627776 → Ch ls a by' v := by
      intro v hc
      induction hc with
      | root => exact fun _ _ _ => .root
      | @up v hv hc ih =>
        intro h0 h1 hd
        obtain ⟨h2, h3, h4, h5⟩ := hB.leg v h0 h1 hv hd
        have hr := (h2.ed.rng hN.rng).1
        exact .up hv (by rw [e' v h0 h1]; exact ih hr.1 hr.2 h5)
    exact key v hc h0 h1 hd
theorem ByOk.relax {D : Int → Int} {by_ : Int → Leg} {k : Int} {x : Leg} (hN : NetOk n ls) (hB : ByOk ls n a D by_) (hD : BF ls n a D k) (hx : LegOk ls x) (h1 : D (sOf ls x) < 1099511627776) (h2 : D (sOf ls x) + rOf ls x < D (gOf ls x)) :
    ByOk ls n a (fun v => if v = gOf ls x then D (sOf ls x) + rOf ls x else D v) (fun v => if v = gOf ls x then x else by_ v) := by
  have he := hx.ed
  have hr := he.rng hN.rng
  have hne : sOf ls x ≠ gOf ls x := by
    unfold sOf gOf legEnd
    have := hN.ne _ hx.mem
    cases x.back with
    | true => exact fun e => this e.symm
    | false => exact this
  have hle : ∀ v, (if v = gOf ls x then D (sOf ls x) + rOf ls x else D v) ≤ D v := fun v => by
    split
    · rename_i e; rw [e]; omega
    · exact Int.le_refl _
  refine ⟨fun v h0 h3 hv hd => ?_, fun h hF v h0 h3 hd => ?_⟩
  · by_cases e : v = gOf ls x
    · subst e
      simp only [if_true] at hd ⊢
      rw [if_neg hne]
      exact ⟨hx, trivial, Int.le_refl _, h1⟩
    · simp only [if_neg e] at hd ⊢
      obtain ⟨g1, g2, g3, g4⟩ := hB.leg v h0 h3 hv hd
      have := hle (sOf ls (by_ v))
      exact ⟨g1, g2, by omega, by omega⟩
  · -- the last legs lead to the first mark without the one that is turned
    have hga : gOf ls x ≠ a := by
      intro e
      obtain ⟨vs, w⟩ := hD.snd _ hr.1.1 hr.1.2 h1
      have q1 := (Wk.snoc w he).le hF
      have q2 := hD.own
      rw [e] at q1 h2
      omega
    have key : ∀ u, Ch ls a by_ u → 0 ≤ u → u < n → D u < 1099511627776 → ∀ vs c, Wk ls u (sOf ls x :: vs) c → D u + c ≤ D (sOf ls x) → Ch ls a (fun v => if v = gOf ls x then x else by_ v) u := by
      intro u hc
      induction hc with
      | root => exact fun _ _ _ _ _ _ _ => .root
      | @up u hu hc ih =>
        intro h0 h3 hd vs c w hle
        obtain ⟨g1, g2, g3, g4⟩ := hB.leg u h0 h3 hu hd
        have hr' := (g1.ed.rng hN.rng).1
        have hug : u ≠ gOf ls x := by
          intro e
          have q1 := (Wk.snoc w he).le hF
          rw [e] at q1 hle
          omega
        refine .up hu ?_
        rw [if_neg hug]
        have e1 := g1.ed
        rw [g2] at e1
        obtain ⟨us, hw⟩ := (Wk.edge e1).app w
        exact ih hr'.1 hr'.2 g4 us _ hw (by omega)
    have hm : Ch ls a (fun v => if v = gOf ls x then x else by_ v) (sOf ls x) := key _ (hB.chn h hF _ hr.1.1 hr.1.2 h1) hr.1.1 hr.1.2 h1 [] 0 .one (by omega)
    have hg : Ch ls a (fun v => if v = gOf ls x then x else by_ v) (gOf ls x) := .up hga (by rw [if_pos rfl]; exact hm)
    have all : ∀ u, Ch ls a by_ u → Ch ls a (fun v => if v = gOf ls x then x else by_ v) u := by
      intro u hc
      induction hc with
      | root => exact .root
      | @up u hu hc ih =>
        by_cases e : u = gOf ls x
        · rw [e]; exact hg
        · exact .up hu (by rw [if_neg e]; exact ih)
    by_cases e : v = gOf ls x
    · rw [e]; exact hg
    · simp only [if_neg e] at hd
      exact all v (hB.chn h hF v h0 h3 hd)
end Go.Nm
namespace Go.Proofs.Ytclhljenjphofaa
open Go Go.Nm
variable {ls : List Line} {n : Int}
theorem start_ends {g : Leg} (hg : LegOk ls g) : (m_level_survey_start n ls g).Ends (sOf ls g) := by
  unfold m_level_survey_start
  exact M.i_grd (gA2 hg.1 hg.2) M.i_pure
theorem goal_ends {g : Leg} (hg : LegOk ls g) : (m_level_survey_goal n ls g).Ends (gOf ls g) := by
  unfold m_level_survey_goal
  exact M.i_grd (gA2 hg.1 hg.2) M.i_pure
theorem rise_ends {N : Int} (hN : NetOk N ls) {g : Leg} (hg : LegOk ls g) : (m_level_survey_rise n ls g).Ends (rOf ls g) := by
  unfold m_level_survey_rise
  have h1 := hN.rise _ hg.mem
  have h2 := hN.err _ hg.mem
  unfold lnOf at h1 h2
  refine M.i_grd (gA2 hg.1 hg.2) (M.i_if (fun hb => ?_) (fun hb => ?_))
  · unfold rOf; rw [hb]
    exact M.i_grd (gA2 (by omega) (by omega)) M.i_pure
  · unfold rOf; rw [hb]
    exact M.i_grd (gA2 (by omega) (by omega)) M.i_pure
theorem sum2_ends {x y : Int} (h1 : -1000000000000000 ≤ x ∧ x ≤ 1000000000000000) (h2 : -1000000000000000 ≤ y ∧ y ≤ 1000000000000000) : (m_level_sum [x, y]).Ends (x + y) := by
  unfold m_level_sum
  refine M.i_bind (a := x + y) ?_ M.i_pure
  refine M.i_next (s' := (0 + x, 0 + 1)) ?_ (M.i_next (s' := (0 + x + y, 0 + 1 + 1)) ?_ (M.i_stop ?_))
  · simp only [m_level_sum_b0]
    exact M.i_t (by simp) (M.i_grd (by simp) (M.i_grd (gA2 (by simp; omega) (by simp; omega)) M.i_pure))
  · simp only [m_level_sum_b0]
    exact M.i_t (by simp) (M.i_grd (by simp) (M.i_grd (gA2 (by simp; omega) (by simp; omega)) M.i_pure))
  · simp only [m_level_sum_b0]
    rw [show x + y = 0 + x + y by omega]
    exact M.i_f (by simp) M.i_pure
/-- A walk over the legs that begin at a mark. -/
theorem legs_out {S X : Type} {bd : S → Leg → M (S ⊕ X)} {m : Int} (J : Nat → S → Prop) (QX : X → Prop)
    (step : ∀ (i : Nat) (k : Bool) (s : S), i < ls.length → sOf ls ⟨i, k⟩ = m → J (2 * i + k.toNat) s → (bd s ⟨i, k⟩).Out (fun r => match r with | .inl s' => J (2 * i + k.toNat + 1) s' | .inr x => QX x))
    (skip : ∀ (i : Nat) (k : Bool) (s : S), i < ls.length → sOf ls ⟨i, k⟩ ≠ m → J (2 * i + k.toNat) s → J (2 * i + k.toNat + 1) s)
    {s : S} (h : J 0 s) : (m_level_survey_legs_1 (M.yl bd) (.inl s) n ls m).Out (fun r => match r with | .inl s' => J (2 * ls.length) s' | .inr x => QX x) := by
  unfold m_level_survey_legs_1
  refine M.o_bind (P := fun y => match y with | .inl t => ∃ x, t = .inr x ∧ QX x | .inr t => ∃ s, t = .inl s ∧ J (2 * ls.length) s) ?_ ?_
  · refine M.o_for ls.length (fun i st => st.1 = i ∧ ∃ s, st.2 = .inl s ∧ J (2 * i) s) ?_ ?_ ⟨rfl, s, rfl, h⟩
    · rintro i ⟨s2, t⟩ hi ⟨rfl, s, rfl, hJ⟩
      dsimp only at hi hJ
      have one : ∀ (k : Bool) (s : S), J (2 * s2 + k.toNat) s → (M.bind (m_level_survey_start n ls ⟨s2, k⟩) fun r2 => M.bind (M.opt (r2 == m) (M.yl bd (.inl s) ⟨s2, k⟩) (false, .inl s)) fun (go, t) =>
          bif ((r2 == m) && (!go)) then (M.pure (.inr (.inl t))) else (M.pure (.inl (k.toNat + 1, t)))).Out
          (fun y : ((Nat × (S ⊕ X)) ⊕ ((S ⊕ X) ⊕ (S ⊕ X))) => match y with | .inl st => st.1 = k.toNat + 1 ∧ ∃ s, st.2 = .inl s ∧ J (2 * s2 + (k.toNat + 1)) s | .inr (.inl t) => ∃ x, t = .inr x ∧ QX x | .inr (.inr _) => False) := by
        intro k s hJ
        refine M.o_bindE (start_ends ⟨by show (0 : Int) ≤ (s2 : Int); omega, by show (s2 : Int) < _; omega⟩) ?_
        by_cases hm : sOf ls ⟨s2, k⟩ = m
        · have hb : (sOf ls ⟨s2, k⟩ == m) = true := by rw [beq_iff_eq]; exact hm
          rw [hb]
          refine M.o_bind (P := fun y => match y.1 with | true => ∃ s, y.2 = .inl s ∧ J (2 * s2 + k.toNat + 1) s | false => ∃ x, y.2 = .inr x ∧ QX x) ?_ ?_
          · refine M.o_bind (step s2 k s hi hm hJ) ?_
            rintro (s' | x) hs
            · exact M.o_pure ⟨s', rfl, hs⟩
            · exact M.o_pure ⟨x, rfl, hs⟩
          · rintro ⟨go, t⟩ hy
            cases go with
            | true => exact M.o_pure ⟨rfl, hy⟩
            | false => exact M.o_pure hy
        · have hb : (sOf ls ⟨s2, k⟩ == m) = false := by rw [beq_eq_false_iff_ne]; exact hm
          rw [hb]
          refine M.o_bindE (a := (false, .inl s)) (M.i_opt (fun h => by cases h) (fun _ => rfl)) ?_
          exact M.o_pure ⟨rfl, s, rfl, skip s2 k s hi hm hJ⟩
      simp only [m_level_survey_legs_1_b2]
      refine M.o_t (by simpa using hi) ?_
      refine M.o_bind (P := fun y => match y with | .inl t => ∃ x, t = .inr x ∧ QX x | .inr t => ∃ s, t = .inl s ∧ J (2 * (s2 + 1)) s) ?_ ?_
      · refine M.o_for 2 (fun j st => st.1 = j ∧ ∃ s, st.2 = .inl s ∧ J (2 * s2 + j) s) ?_ ?_ ⟨rfl, s, rfl, hJ⟩
        · rintro j ⟨s3, t⟩ hj ⟨rfl, s, rfl, hJ⟩
          dsimp only at hj hJ
          simp only [m_level_survey_legs_1_b1]
          refine M.o_t (by simp; omega) (M.o_grd (by simp; omega) ?_)
          rcases (show s3 = 0 ∨ s3 = 1 by omega) with rfl | rfl
          · exact M.o_mono (one false s hJ) (fun y hy => by rcases y with st | t | t; exact hy; exact hy; exact hy.elim)
          · exact M.o_mono (one true s hJ) (fun y hy => by rcases y with st | t | t; exact hy; exact hy; exact hy.elim)
        · rintro ⟨s3, t⟩ ⟨rfl, s, rfl, hJ⟩
          simp only [m_level_survey_legs_1_b1]
          exact M.o_f (by simp) (M.o_pure ⟨s, rfl, hJ⟩)
      · rintro (t | t) hy
        · exact M.o_pure hy
        · exact M.o_pure ⟨rfl, hy⟩
    · rintro ⟨s2, t⟩ ⟨rfl, s, rfl, hJ⟩
      simp only [m_level_survey_legs_1_b2]
      exact M.o_f (by simp) (M.o_pure ⟨s, rfl, hJ⟩)
  · rintro (t | t) hy
    · obtain ⟨x, rfl, hx⟩ := hy
      exact M.o_pure hx
    · obtain ⟨s, rfl, hs⟩ := hy
      exact M.o_pure hs
end Go.Proofs.Ytclhljenjphofaa
namespace Go.Nm
def rw_ (can : List Int) (a v : Int) : Int := can.getD (Int.toNat a * 13 + Int.toNat v) 0
def rb_ (by_ : List Leg) (a v : Int) : Leg := by_.getD (Int.toNat a * 13 + Int.toNat v) default
variable {ls : List Line} {n a : Int}
structure FI (ls : List Line) (n a : Int) (can0 : List Int) (by0 : List Leg) (k : Int) (can : List Int) (by_ : List Leg) : Prop where
  lc : can.length = 169
  lb : by_.length = 169
  oth : ∀ i, (i < Int.toNat a * 13 ∨ Int.toNat a * 13 + 13 ≤ i) → can.getD i 0 = can0.getD i 0 ∧ by_.getD i default = by0.getD i default
  bf : BF ls n a (rw_ can a) k
  bo : ByOk ls n a (rw_ can a) (rb_ by_ a)
theorem FI.mono {can0 can : List Int} {by0 by_ : List Leg} {k k' : Int} (h : FI ls n a can0 by0 k can by_) (hk : k ≤ k') : FI ls n a can0 by0 k' can by_ := ⟨h.lc, h.lb, h.oth, h.bf.mono hk, h.bo⟩
theorem rw_set {can : List Int} (hl : can.length = 169) {a g : Int} (ha : 0 ≤ a ∧ a < 12) (hg : 0 ≤ g ∧ g < 13) (x : Int) (v : Int) (h0 : 0 ≤ v) (h1 : v < 13) : rw_ (can.set (Int.toNat a * 13 + Int.toNat g) x) a v = if v = g then x else rw_ can a v := by
  unfold rw_
  rw [gset _ _ _ _ _ (by omega)]
  by_cases e : v = g
  · rw [if_pos e, if_pos (by rw [e])]
  · rw [if_neg e, if_neg (by omega)]
theorem rb_set {by_ : List Leg} (hl : by_.length = 169) {a g : Int} (ha : 0 ≤ a ∧ a < 12) (hg : 0 ≤ g ∧ g < 13) (x : Leg) (v : Int) (h0 : 0 ≤ v) (h1 : v < 13) : rb_ (by_.set (Int.toNat a * 13 + Int.toNat g) x) a v = if v = g then x else rb_ by_ a v := by
  unfold rb_
  rw [gset _ _ _ _ _ (by omega)]
  by_cases e : v = g
  · rw [if_pos e, if_pos (by rw [e])]
  · rw [if_neg e, if_neg (by omega)]
theorem FI.relax {can0 can : List Int} {by0 by_ : List Leg} {k : Int} {x : Leg} (hN : NetOk n ls) (ha : 0 ≤ a ∧ a < n) (h : FI ls n a can0 by0 k can by_) (hk : 0 ≤ k) (hx : LegOk ls x) (h1 : rw_ can a (sOf ls x) < 1099511627776) (h2 : rw_ can a (sOf ls x) + rOf ls x < rw_ can a (gOf ls x)) :
    FI ls n a can0 by0 (k + 1) (can.set (Int.toNat a * 13 + Int.toNat (gOf ls x)) (rw_ can a (sOf ls x) + rOf ls x)) (by_.set (Int.toNat a * 13 + Int.toNat (gOf ls x)) x) := by
  have hm := hN.marks
  have hr := hx.ed.rng hN.rng
  have e1 : ∀ v, 0 ≤ v → v < n → rw_ (can.set (Int.toNat a * 13 + Int.toNat (gOf ls x)) (rw_ can a (sOf ls x) + rOf ls x)) a v = if v = gOf ls x then rw_ can a (sOf ls x) + rOf ls x else rw_ can a v := fun v h0 h3 => rw_set h.lc (by omega) (by omega) _ v h0 (by omega)
  have e2 : ∀ v, 0 ≤ v → v < n → rb_ (by_.set (Int.toNat a * 13 + Int.toNat (gOf ls x)) x) a v = if v = gOf ls x then x else rb_ by_ a v := fun v h0 h3 => rb_set h.lb (by omega) (by omega) _ v h0 (by omega)
  refine ⟨by rw [List.length_set]; exact h.lc, by rw [List.length_set]; exact h.lb, fun i hi => ?_, ?_, ?_⟩
  · rw [gset _ _ _ _ _ (by rw [h.lc]; omega), gset _ _ _ _ _ (by rw [h.lb]; omega), if_neg (by omega), if_neg (by omega)]
    exact h.oth i hi
  · exact (h.bf.relax hk hx.ed (hN.ed _ _ _ hx.ed) hr.1 hr.2 h1 h2).congr ha hN.rng e1
  · exact (h.bo.relax hN h.bf hx h1 h2).congr hN e1 e2
/-- These legs make nothing less than they did when the round began. -/
def Rlx (ls : List Line) (D0 D : Int → Int) (pr : Nat → Bool → Prop) : Prop := ∀ (i : Nat) (k : Bool), i < ls.length → pr i k → D0 (sOf ls ⟨i, k⟩) < 1099511627776 → D (gOf ls ⟨i, k⟩) ≤ D0 (sOf ls ⟨i, k⟩) + rOf ls ⟨i, k⟩
theorem Rlx.le {D0 D D' : Int → Int} {pr pr' : Nat → Bool → Prop} (hR : Rng n ls) (h : Rlx ls D0 D pr) (hle : ∀ v, 0 ≤ v → v < n → D' v ≤ D v) (hp : ∀ i k, i < ls.length → pr' i k → pr i k) : Rlx ls D0 D' pr' := fun i k hi hpr hd => by
  have hx : LegOk ls ⟨i, k⟩ := ⟨by show (0 : Int) ≤ (i : Int); omega, by show (i : Int) < _; omega⟩
  have hr := (hx.ed.rng hR).2
  have := h i k hi (hp i k hi hpr) hd
  have := hle _ hr.1 hr.2
  omega
theorem Rlx.all {D0 D : Int → Int} (h : Rlx ls D0 D (fun _ _ => True)) : ∀ m g e, Ed ls m g e → D0 m < 1099511627776 → D g ≤ D0 m + e := by
  intro m g e he hd
  obtain ⟨i, k, hi, rfl, rfl, rfl⟩ := leg_of he
  exact h i k hi trivial hd
end Go.Nm
namespace Go.Proofs.Ytclhljenjphofaa
open Go Go.Nm
variable {ls : List Line} {n a : Int}
theorem ij {i : Nat} {k : Bool} (hi : i < ls.length) : LegOk ls ⟨i, k⟩ := ⟨by show (0 : Int) ≤ (i : Int); omega, by show (i : Int) < _; omega⟩
/-- One leg. -/
theorem fill_leg (hN : NetOk n ls) (ha : 0 ≤ a ∧ a < n) {can0 can : List Int} {by0 by_ : List Leg} {k : Int} {m i : Nat} {b : Bool} (hi : i < ls.length) (hs : sOf ls ⟨i, b⟩ = (m : Int)) (hk : 0 ≤ k ∧ k ≤ 100000) (h : FI ls n a can0 by0 k can by_) (hd : rw_ can a m < 1099511627776) :
    (m_level_survey_fill_b4 n ls a m (can, by_) ⟨i, b⟩).Out (fun r => match r with | .inl s => FI ls n a can0 by0 (k + 1) s.1 s.2 ∧ (∀ v, 0 ≤ v → v < n → rw_ s.1 a v ≤ rw_ can a v) ∧ rw_ s.1 a (gOf ls ⟨i, b⟩) ≤ rw_ can a m + rOf ls ⟨i, b⟩ | .inr _ => False) := by
  have hx : LegOk ls ⟨i, b⟩ := ij hi
  have hr := hx.ed.rng hN.rng
  have hm := hN.marks
  have hc := hN.ed _ _ _ hx.ed
  have hlo := h.bf.low m (by omega) (by rw [← hs]; exact hr.1.2)
  simp only [m_level_survey_fill_b4]
  refine M.o_bindE (rise_ends hN hx) ?_
  refine M.o_bindE (a := rw_ can a m + rOf ls ⟨i, b⟩) (sum2_ends (x := can.getD (Int.toNat a * 13 + m) 0) (by unfold rw_ at hlo hd; rw [Int.toNat_natCast] at hlo hd; omega) (by omega)) ?_
  refine M.o_bindE (goal_ends hx) ?_
  refine M.o_grd (gA2 (by omega) (by omega)) ?_
  refine M.o_if (fun hb => ?_) (fun hb => ?_)
  · have hb := of_decide_eq_true hb
    refine M.o_bindE (goal_ends hx) (M.o_bindE (goal_ends hx) (M.o_grd (gA2 (by omega) (by omega)) (M.o_grd (gA2 (by omega) (by omega)) (M.o_pure ?_))))
    have h1 := h.relax hN ha hk.1 hx (by rw [hs]; exact hd) (by rw [hs]; exact hb)
    rw [hs] at h1
    have e1 : ∀ v, 0 ≤ v → v < n → rw_ (can.set (Int.toNat a * 13 + Int.toNat (gOf ls ⟨i, b⟩)) (rw_ can a m + rOf ls ⟨i, b⟩)) a v = if v = gOf ls ⟨i, b⟩ then rw_ can a m + rOf ls ⟨i, b⟩ else rw_ can a v := fun v h0 h3 => rw_set h.lc (by omega) (by omega) _ v h0 (by omega)
    refine ⟨h1, fun v h0 h3 => ?_, ?_⟩
    · dsimp only
      rw [e1 v h0 h3]
      split
      · rename_i e
        rw [e]
        exact Int.le_of_lt hb
      · exact Int.le_refl _
    · dsimp only
      rw [e1 _ hr.2.1 hr.2.2, if_pos rfl]
      exact Int.le_refl _
  · have hb := of_decide_eq_false hb
    refine M.o_pure ⟨h.mono (by omega), fun v _ _ => Int.le_refl _, ?_⟩
    dsimp only
    unfold rw_ at *
    omega
/-- The legs at a mark. -/
theorem fill_mark (hN : NetOk n ls) (ha : 0 ≤ a ∧ a < n) {can0 can : List Int} {by0 by_ : List Leg} {k : Int} {m : Nat} (hm : (m : Int) < n) (hk : 0 ≤ k ∧ k ≤ 90000) (h : FI ls n a can0 by0 k can by_) {D0 : Int → Int} (hle : ∀ v, 0 ≤ v → v < n → rw_ can a v ≤ D0 v) (hR : Rlx ls D0 (rw_ can a) (fun i b => sOf ls ⟨i, b⟩ < (m : Int))) (hd : rw_ can a m < 1099511627776) :
    (m_level_survey_legs_1 (M.yl (m_level_survey_fill_b4 n ls a m)) (.inl (can, by_)) n ls m).Out (fun r => match r with | .inl s => FI ls n a can0 by0 (k + 60) s.1 s.2 ∧ (∀ v, 0 ≤ v → v < n → rw_ s.1 a v ≤ D0 v) ∧ Rlx ls D0 (rw_ s.1 a) (fun i b => sOf ls ⟨i, b⟩ < (m : Int) + 1) | .inr _ => False) := by
  have hf := hN.few
  refine M.o_mono (legs_out (m := (m : Int)) (fun idx s => FI ls n a can0 by0 (k + idx) s.1 s.2 ∧ (∀ v, 0 ≤ v → v < n → rw_ s.1 a v ≤ D0 v) ∧ rw_ s.1 a m < 1099511627776 ∧ Rlx ls D0 (rw_ s.1 a) (fun i b => sOf ls ⟨i, b⟩ < (m : Int) ∨ (sOf ls ⟨i, b⟩ = (m : Int) ∧ 2 * i + b.toNat < idx))) (fun _ => False) ?_ ?_ (s := (can, by_)) ⟨h.mono (by omega), hle, hd, hR.le hN.rng (fun v _ _ => Int.le_refl _) (fun i b _ hp => by rcases hp with hp | ⟨_, hp⟩; exact hp; omega)⟩) ?_
  · rintro i b ⟨s, s2⟩ hi hs ⟨hF, hle, hd, hR⟩
    dsimp only at hF hle hd hR
    have hb2 : b.toNat ≤ 1 := by cases b <;> decide
    refine M.o_mono (fill_leg hN ha hi hs (by omega) hF hd) ?_
    rintro (⟨t, t2⟩ | x) hy
    · obtain ⟨h1, h2, h3⟩ := hy
      dsimp only at h1 h2 h3 ⊢
      refine ⟨h1.mono (by omega), fun v h0 h4 => Int.le_trans (h2 v h0 h4) (hle v h0 h4), Int.lt_of_le_of_lt (h2 m (by omega) hm) hd, fun i' b' hi' hp hd0 => ?_⟩
      have hr' := ((ij (k := b') hi').ed.rng hN.rng).2
      by_cases e : sOf ls ⟨i', b'⟩ < (m : Int) ∨ (sOf ls ⟨i', b'⟩ = (m : Int) ∧ 2 * i' + b'.toNat < 2 * i + b.toNat)
      · have := hR i' b' hi' e hd0
        have := h2 _ hr'.1 hr'.2
        omega
      · have hb3 : b'.toNat ≤ 1 := by cases b' <;> decide
        have e2 : i' = i ∧ b' = b := by
          have : 2 * i' + b'.toNat = 2 * i + b.toNat := by omega
          refine ⟨by omega, ?_⟩
          have : b'.toNat = b.toNat := by omega
          cases b <;> cases b' <;> simp_all
        obtain ⟨rfl, rfl⟩ := e2
        rw [hs] at hd0 ⊢
        have := hle m (by omega) hm
        omega
    · exact hy.elim
  · rintro i b ⟨s, s2⟩ hi hs ⟨hF, hle, hd, hR⟩
    refine ⟨hF.mono (by omega), hle, hd, hR.le hN.rng (fun v _ _ => Int.le_refl _) (fun i' b' hi' hp => ?_)⟩
    rcases hp with hp | ⟨hp, hp2⟩
    · exact .inl hp
    · have hb2 : b.toNat ≤ 1 := by cases b <;> decide
      have hb3 : b'.toNat ≤ 1 := by cases b' <;> decide
      refine .inr ⟨hp, ?_⟩
      rcases Nat.lt_or_ge (2 * i' + b'.toNat) (2 * i + b.toNat) with h | h
      · exact h
      · exfalso
        have : 2 * i' + b'.toNat = 2 * i + b.toNat := by omega
        have e1 : i' = i := by omega
        subst e1
        have e2 : b' = b := by
          have : b'.toNat = b.toNat := by omega
          cases b <;> cases b' <;> simp_all
        subst e2
        exact hs hp
  · rintro (s | x) hy
    · obtain ⟨h1, h2, h3, h4⟩ := hy
      refine ⟨h1.mono (by omega), h2, h4.le hN.rng (fun v _ _ => Int.le_refl _) (fun i b hi hp => ?_)⟩
      have hb2 : b.toNat ≤ 1 := by cases b <;> decide
      by_cases e : sOf ls ⟨i, b⟩ < (m : Int)
      · exact .inl e
      · exact .inr ⟨by omega, by omega⟩
    · exact hy.elim
/-- A row. -/
theorem fill_out (hN : NetOk n ls) (ha : 0 ≤ a ∧ a < n) {can : List Int} {by_ : List Leg} (lc : can.length = 169) (lb : by_.length = 169) (h0 : ∀ v, 0 ≤ v → v < n → rw_ can a v = if v = a then 0 else 1099511627776) :
    (m_level_survey_fill n ls can by_ a).Out (fun r => FI ls n a can by_ 8640 r.1 r.2 ∧ Cov ls a (rw_ r.1 a) (Int.toNat n)) := by
  have hm := hN.marks
  have hI : FI ls n a can by_ 0 can by_ := ⟨lc, lb, fun _ _ => ⟨rfl, rfl⟩, (BF.init ls n a).congr ha hN.rng h0, (ByOk.init ls n a (rb_ by_ a)).congr hN h0 (fun _ _ _ => rfl)⟩
  unfold m_level_survey_fill
  refine M.o_grd (gA2 (by omega) (by omega)) ?_
  refine M.o_bind (P := fun r => FI ls n a can by_ 8640 r.1 r.2 ∧ Cov ls a (rw_ r.1 a) (Int.toNat n)) ?_ (fun y hy => M.o_pure hy)
  refine M.o_for (Int.toNat n) (fun r st => st.2.2 = r ∧ FI ls n a can by_ (720 * r) st.1 st.2.1 ∧ Cov ls a (rw_ st.1 a) r) ?_ ?_ (s := (can, by_, 0)) ⟨rfl, hI.mono (by simp), Cov.zero (by rw [h0 a ha.1 ha.2, if_pos rfl]; exact Int.le_refl _)⟩
  · rintro r ⟨c, y, r'⟩ hr ⟨rfl, hF, hC⟩
    dsimp only at hr hF hC
    simp only [m_level_survey_fill_b6]
    refine M.o_t (by simp; omega) ?_
    refine M.o_bind (P := fun q => FI ls n a can by_ (720 * (r' + 1)) q.1 q.2 ∧ Cov ls a (rw_ q.1 a) (r' + 1)) ?_ ?_
    · refine M.o_for (Int.toNat n) (fun m st => st.1 = m ∧ FI ls n a can by_ (720 * r' + 60 * m) st.2.1 st.2.2 ∧ (∀ v, 0 ≤ v → v < n → rw_ st.2.1 a v ≤ rw_ c a v) ∧ Rlx ls (rw_ c a) (rw_ st.2.1 a) (fun i b => sOf ls ⟨i, b⟩ < (m : Int))) ?_ ?_ (s := (0, c, y)) ⟨rfl, hF.mono (by simp), fun v _ _ => Int.le_refl _, fun i b hi hp _ => by have := ((ij (k := b) hi).ed.rng hN.rng).1; omega⟩
      · rintro m ⟨m', s, s2⟩ hmn ⟨rfl, hF, hle, hR⟩
        dsimp only at hmn hF hle hR
        simp only [m_level_survey_fill_b5]
        refine M.o_t (by simp; omega) (M.o_grd (gA2 (by omega) (by omega)) (M.o_if (fun hb => ?_) (fun hb => ?_)))
        · have hb := beq_iff_eq.1 hb
          refine M.o_grd (gA2 (by omega) (by omega)) (M.o_pure ⟨rfl, hF.mono (by omega), hle, fun i b hi hp hd => ?_⟩)
          by_cases e : sOf ls ⟨i, b⟩ < (m' : Int)
          · exact hR i b hi e hd
          · exfalso
            have e2 : sOf ls ⟨i, b⟩ = (m' : Int) := by omega
            have := hle m' (by omega) (by omega)
            rw [e2] at hd
            unfold rw_ at this hd
            rw [Int.toNat_natCast] at this hd
            omega
        · have hb := beq_eq_false_iff_ne.1 hb
          have htop := hF.bf.top m' (by omega) (by omega)
          have hd : rw_ s a m' < 1099511627776 := by
            unfold rw_ at htop ⊢
            rw [Int.toNat_natCast] at htop ⊢
            omega
          refine M.o_bindE (a := (m' : Int)) M.i_pure ?_
          refine M.o_bind (fill_mark hN ha (m := m') (by omega) (by omega) hF hle hR hd) ?_
          rintro (⟨t, t2⟩ | x) hy
          · refine M.o_grd (gA2 (by omega) (by omega)) (M.o_pure ⟨rfl, hy.1.mono (by omega), hy.2.1, hy.2.2.le hN.rng (fun v _ _ => Int.le_refl _) (fun i b _ hp => by omega)⟩)
          · exact hy.elim
      · rintro ⟨m', s, s2⟩ ⟨rfl, hF, hle, hR⟩
        dsimp only at hF hle hR
        simp only [m_level_survey_fill_b5]
        refine M.o_f (by simp; omega) (M.o_pure ⟨hF.mono (by omega), ?_⟩)
        refine hC.next hN (by omega) ha hle ?_
        refine Rlx.all (hR.le hN.rng (fun v _ _ => Int.le_refl _) (fun i b hi _ => ?_))
        have := ((ij (k := b) hi).ed.rng hN.rng).1
        omega
    · rintro ⟨q, q2⟩ ⟨h1, h2⟩
      exact M.o_grd (gA2 (by omega) (by omega)) (M.o_pure ⟨rfl, h1.mono (by omega), h2⟩)
  · rintro ⟨c, y, r'⟩ ⟨rfl, hF, hC⟩
    simp only [m_level_survey_fill_b6]
    exact M.o_f (by simp; omega) (M.o_pure ⟨hF.mono (by omega), hC⟩)
end Go.Proofs.Ytclhljenjphofaa
namespace Go.Nm
variable {ls : List Line} {n a : Int}
theorem Cov.congr {D D' : Int → Int} {r : Nat} (hR : Rng n ls) (ha : 0 ≤ a ∧ a < n) (h : Cov ls a D r) (e : ∀ v, 0 ≤ v → v < n → D' v = D v) : Cov ls a D' r := fun vs b c w hl => by
  have := w.rng hR ha b (by simp)
  rw [e b this.1 this.2]
  exact h vs b c w hl
def Agr (ls : List Line) : Prop := ∃ h, Feas ls h
structure Row (ls : List Line) (n a : Int) (D : Int → Int) (by_ : Int → Leg) : Prop where
  bf : BF ls n a D 8640
  cov : Cov ls a D (Int.toNat n)
  bo : ByOk ls n a D by_
theorem Row.congr {D D' : Int → Int} {b b' : Int → Leg} (hN : NetOk n ls) (ha : 0 ≤ a ∧ a < n) (h : Row ls n a D b) (e : ∀ v, 0 ≤ v → v < n → D' v = D v) (e' : ∀ v, 0 ≤ v → v < n → b' v = b v) : Row ls n a D' b' :=
  ⟨h.bf.congr ha hN.rng e, h.cov.congr hN.rng ha e, h.bo.congr hN e e'⟩
structure Wkd (ls : List Line) (n : Int) (can : List Int) (by_ : List Leg) : Prop where
  lc : can.length = 169
  lb : by_.length = 169
  row : ∀ a, 0 ≤ a → a < n → Row ls n a (rw_ can a) (rb_ by_ a)
theorem Wkd.done {can : List Int} {by_ : List Leg} (hN : NetOk n ls) (hW : Wkd ls n can by_) (hA : Agr ls) (ha : 0 ≤ a ∧ a < n) : Done ls n a (rw_ can a) := by
  obtain ⟨h, hF⟩ := hA
  have hr := hW.row a ha.1 ha.2
  have hm := hN.marks
  exact hr.bf.done (N := Int.toNat n) hN hF (by omega) ha hr.cov (by omega)
def Rx (ls : List Line) (can : List Int) (a : Int) (x : Leg) : Prop := rw_ can a (sOf ls x) < 1099511627776 ∧ rw_ can a (sOf ls x) + rOf ls x < rw_ can a (gOf ls x)
theorem Wkd.agr_no {can : List Int} {by_ : List Leg} (hN : NetOk n ls) (hW : Wkd ls n can by_) (hA : Agr ls) (ha : 0 ≤ a ∧ a < n) {x : Leg} (hx : LegOk ls x) : ¬ Rx ls can a x := by
  rintro ⟨h1, h2⟩
  have hD := hW.done hN hA ha
  have hr := hx.ed.rng hN.rng
  have d1 := hD.dist _ hr.1.1 hr.1.2 h1
  have ht : Tied ls a (gOf ls x) := d1.tied.trans (.ed hx.ed)
  have d2 := hD.dist _ hr.2.1 hr.2.2 (hD.tied _ hr.2.1 hr.2.2 ht)
  have := d1.step hx.ed d2
  omega
theorem Wkd.agr_zero {can : List Int} {by_ : List Leg} (hN : NetOk n ls) (hW : Wkd ls n can by_) (hA : Agr ls) (ha : 0 ≤ a ∧ a < n) : rw_ can a a = 0 := by
  have hD := hW.done hN hA ha
  have h1 := (hW.row a ha.1 ha.2).bf.own
  obtain ⟨h, hF⟩ := hA
  exact (hD.dist a ha.1 ha.2 (by omega)).uniq (.self hF)
theorem Wkd.agr_of {can : List Int} {by_ : List Leg} (hN : NetOk n ls) (hW : Wkd ls n can by_) (h1 : ∀ a, 0 ≤ a → a < n → ∀ x, LegOk ls x → ¬ Rx ls can a x) (h2 : ∀ a, 0 ≤ a → a < n → ¬ rw_ can a a < 0) :
    ∃ f : Int → Int, (∀ v, 0 ≤ v → v < n → (0 ≤ f v ∧ f v < n) ∧ rw_ can (f v) v < 1099511627776 ∧ ∀ u, 0 ≤ u → u < f v → ¬ rw_ can u v < 1099511627776) ∧ Feas ls (fun v => rw_ can (f v) v) := by
  have hS : Tight ls n (rw_ can) := by
    refine ⟨fun a m g e h0 h3 he hd => ?_, fun a h0 h3 => ?_⟩
    · obtain ⟨i, k, hi, rfl, rfl, rfl⟩ := leg_of he
      have := h1 a h0 h3 ⟨i, k⟩ ⟨by show (0 : Int) ≤ (i : Int); omega, by show (i : Int) < _; omega⟩
      unfold Rx at this
      omega
    · have := h2 a h0 h3
      have := (hW.row a h0 h3).bf.own
      omega
  have hex : ∀ v, 0 ≤ v → v < n → ∃ u : Nat, ((u : Int) < n ∧ rw_ can u v < 1099511627776) ∧ ∀ k : Nat, ((k : Int) < n ∧ rw_ can k v < 1099511627776) → u ≤ k := by
    intro v h0 h3
    refine least_nat ⟨v.toNat, by omega, ?_⟩
    rw [Int.toNat_of_nonneg h0, hS.zero v h0 h3]
    omega
  refine ⟨fun v => if h : 0 ≤ v ∧ v < n then (((hex v h.1 h.2).choose : Nat) : Int) else 0, ?_, ?_⟩
  · intro v h0 h3
    dsimp only
    rw [dif_pos ⟨h0, h3⟩]
    obtain ⟨⟨g1, g2⟩, g3⟩ := (hex v h0 h3).choose_spec
    refine ⟨⟨by omega, g1⟩, g2, fun u hu0 hu1 hu => ?_⟩
    have := g3 u.toNat (by rw [Int.toNat_of_nonneg hu0]; exact ⟨by omega, hu⟩)
    omega
  · refine hS.feas hN (fun a v h0 h3 h4 h5 => (hW.row a h0 h3).bf.top v h4 h5) _ ?_ (fun a m g e h0 h3 he hd => ?_)
    · intro v h0 h3
      try dsimp only
      rw [dif_pos ⟨h0, h3⟩]
      obtain ⟨⟨g1, g2⟩, g3⟩ := (hex v h0 h3).choose_spec
      refine ⟨⟨by omega, g1⟩, g2, fun u hu0 hu1 hu => ?_⟩
      have := g3 u.toNat (by rw [Int.toNat_of_nonneg hu0]; exact ⟨by omega, hu⟩)
      omega
    · have hr := he.rng hN.rng
      have := (hW.row a h0 h3).bf.up m hr.1.1 hr.1.2 hd
      have := hN.ed _ _ _ he
      omega
end Go.Nm
namespace Go.Proofs.Ytclhljenjphofaa
open Go Go.Nm
variable {ls : List Line} {n a : Int}
theorem rw_nat (can : List Int) (i j : Nat) : rw_ can i j = can.getD (i * 13 + j) 0 := by unfold rw_; rw [Int.toNat_natCast, Int.toNat_natCast]
theorem worked_out (hN : NetOk n ls) : (m_level_worked n ls).Out (fun r => r.1 = n ∧ Wkd ls n r.2.1 r.2.2) := by
  have hm := hN.marks
  unfold m_level_worked
  refine M.o_bind (P := fun c => c.length = 169 ∧ ∀ i j : Nat, (i : Int) < n → (j : Int) < n → c.getD (i * 13 + j) 0 = if j = i then 0 else 1099511627776) ?_ ?_
  · refine M.o_for (Int.toNat n) (fun i st => st.2 = i ∧ st.1.length = 169 ∧ ∀ i' j : Nat, i' < i → (j : Int) < n → st.1.getD (i' * 13 + j) 0 = if j = i' then 0 else 1099511627776) ?_ ?_ (s := (List.replicate 169 0, 0)) ⟨rfl, List.length_replicate, fun i' j h => by omega⟩
    · rintro i ⟨c, i0⟩ hi ⟨rfl, hl, hc⟩
      dsimp only at hi hl hc
      simp only [m_level_worked_b2]
      refine M.o_t (by simp; omega) ?_
      refine M.o_bind (P := fun d => d.length = 169 ∧ (∀ i' j : Nat, i' < i0 → (j : Int) < n → d.getD (i' * 13 + j) 0 = if j = i' then 0 else 1099511627776) ∧ ∀ j : Nat, (j : Int) < n → d.getD (i0 * 13 + j) 0 = 1099511627776) ?_ ?_
      · refine M.o_for (Int.toNat n) (fun j st => st.2 = j ∧ st.1.length = 169 ∧ (∀ i' j : Nat, i' < i0 → (j : Int) < n → st.1.getD (i' * 13 + j) 0 = if j = i' then 0 else 1099511627776) ∧ ∀ j' : Nat, j' < j → st.1.getD (i0 * 13 + j') 0 = 1099511627776) ?_ ?_ (s := (c, 0)) ⟨rfl, hl, hc, fun j h => by omega⟩
        · rintro j ⟨d, j0⟩ hj ⟨rfl, hl, hd, he⟩
          dsimp only at hj hl hd he
          simp only [m_level_worked_b1]
          refine M.o_t (by simp; omega) (M.o_grd (gA2 (by omega) (by omega)) (M.o_grd (gA2 (by omega) (by omega)) (M.o_grd (gA2 (by omega) (by omega)) (M.o_pure ⟨rfl, by simpa using hl, fun i' j h1 h2 => ?_, fun j' h1 => ?_⟩))))
          · dsimp only
            rw [gset _ _ _ _ _ (by omega), if_neg (by omega)]
            exact hd i' j h1 h2
          · dsimp only
            rw [gset _ _ _ _ _ (by omega)]
            by_cases e : j' = j0
            · rw [e, if_pos rfl]
            · rw [if_neg (by omega)]; exact he j' (by omega)
        · rintro ⟨d, j0⟩ ⟨rfl, hl, hd, he⟩
          simp only [m_level_worked_b1]
          exact M.o_f (by simp; omega) (M.o_pure ⟨hl, hd, fun j h => he j (by omega)⟩)
      · rintro d ⟨hl, hd, he⟩
        refine M.o_grd (gA2 (by omega) (by omega)) (M.o_grd (gA2 (by omega) (by omega)) (M.o_pure ⟨rfl, by simpa using hl, fun i' j h1 h2 => ?_⟩))
        dsimp only
        rw [gset _ _ _ _ _ (by omega)]
        by_cases e : i' = i0
        · subst e
          by_cases e2 : j = i'
          · subst e2; rw [if_pos rfl, if_pos rfl]
          · rw [if_neg (by omega), if_neg e2]; exact he j h2
        · rw [if_neg (by omega)]; exact hd i' j (by omega) h2
    · rintro ⟨c, i0⟩ ⟨rfl, hl, hc⟩
      simp only [m_level_worked_b2]
      exact M.o_f (by simp; omega) (M.o_pure ⟨hl, fun i j h1 h2 => hc i j (by omega) h2⟩)
  · rintro c ⟨hl, hc⟩
    refine M.o_bind (P := fun r => Wkd ls n r.1 r.2) ?_ (fun r hr => M.o_pure ⟨rfl, hr⟩)
    refine M.o_for (Int.toNat n) (fun i st => st.2.2 = i ∧ st.1.length = 169 ∧ st.2.1.length = 169 ∧ (∀ a : Nat, a < i → Row ls n a (rw_ st.1 a) (rb_ st.2.1 a)) ∧ ∀ a j : Nat, i ≤ a → (a : Int) < n → (j : Int) < n → st.1.getD (a * 13 + j) 0 = if j = a then 0 else 1099511627776) ?_ ?_ (s := (c, List.replicate 169 default, 0)) ⟨rfl, hl, List.length_replicate, fun a h => by omega, fun a j _ h1 h2 => hc a j h1 h2⟩
    · rintro i ⟨c, y, i0⟩ hi ⟨rfl, hl, hy, hd, hc⟩
      dsimp only at hi hl hy hd hc
      simp only [m_level_worked_b3]
      refine M.o_t (by simp; omega) ?_
      refine M.o_bind (fill_out hN (a := (i0 : Int)) (by omega) hl hy ?_) ?_
      · intro v h0 h1
        have := hc i0 v.toNat (Nat.le_refl _) (by omega) (by omega)
        unfold rw_
        rw [Int.toNat_natCast, this]
        by_cases e : v = (i0 : Int)
        · rw [if_pos e, if_pos (by omega)]
        · rw [if_neg e, if_neg (by omega)]
      · rintro ⟨q, q2⟩ ⟨hF, hC⟩
        refine M.o_grd (gA2 (by omega) (by omega)) (M.o_pure ⟨rfl, hF.lc, hF.lb, fun a h => ?_, fun a j h1 h2 h3 => ?_⟩)
        · by_cases e : a = i0
          · subst e; exact ⟨hF.bf, hC, hF.bo⟩
          · refine (hd a (by omega)).congr hN (by omega) (fun v h0 h1 => ?_) (fun v h0 h1 => ?_)
            · have := (hF.oth (a * 13 + v.toNat) (by rw [Int.toNat_natCast]; omega)).1
              unfold rw_; rw [Int.toNat_natCast]; exact this
            · have := (hF.oth (a * 13 + v.toNat) (by rw [Int.toNat_natCast]; omega)).2
              unfold rb_; rw [Int.toNat_natCast]; exact this
        · have := (hF.oth (a * 13 + j) (by rw [Int.toNat_natCast]; omega)).1
          dsimp only
          rw [this]
          exact hc a j (by omega) h2 h3
    · rintro ⟨c, y, i0⟩ ⟨rfl, hl, hy, hd, hc⟩
      simp only [m_level_worked_b3]
      refine M.o_f (by simp; omega) (M.o_pure ⟨hl, hy, fun a h0 h1 => ?_⟩)
      have := hd a.toNat (by omega)
      rwa [Int.toNat_of_nonneg h0] at this
theorem open_out (hN : NetOk n ls) {can : List Int} {by_ : List Leg} (hW : Wkd ls n can by_) : (m_level_survey_open n ls can by_).Out (fun b => b = true ↔ ¬ Agr ls) := by
  have hm := hN.marks
  have leg : ∀ (m i : Nat) (b : Bool), i < ls.length → sOf ls ⟨i, b⟩ = (m : Int) → (m_level_survey_open_b5 n ls can m () ⟨i, b⟩).Out (fun r => match r with | .inl _ => ∀ a, 0 ≤ a → a < n → ¬ Rx ls can a ⟨i, b⟩ | .inr _ => ∃ a, (0 ≤ a ∧ a < n) ∧ Rx ls can a ⟨i, b⟩) := by
    intro m i b hi hs
    have hx : LegOk ls ⟨i, b⟩ := ij hi
    have hr := hx.ed.rng hN.rng
    have hc := hN.ed _ _ _ hx.ed
    simp only [m_level_survey_open_b5]
    refine M.o_bind (P := fun y => match y with | .inl _ => ∃ a, (0 ≤ a ∧ a < n) ∧ Rx ls can a ⟨i, b⟩ | .inr _ => ∀ a, 0 ≤ a → a < n → ¬ Rx ls can a ⟨i, b⟩) ?_ (fun y hy => by rcases y with y | y <;> exact M.o_pure hy)
    refine M.o_for (Int.toNat n) (fun k s => s = k ∧ ∀ a : Nat, a < k → ¬ Rx ls can a ⟨i, b⟩) ?_ ?_ (s := 0) ⟨rfl, fun a h => by omega⟩
    · rintro k s hk ⟨rfl, hJ⟩
      have e0 : rw_ can s (sOf ls ⟨i, b⟩) = can.getD (s * 13 + m) 0 := by rw [hs]; exact rw_nat can s m
      have e1 : rw_ can s (gOf ls ⟨i, b⟩) = can.getD (s * 13 + Int.toNat (gOf ls ⟨i, b⟩)) 0 := by unfold rw_; rw [Int.toNat_natCast]
      have hlo := (hW.row s (by omega) (by omega)).bf.low (sOf ls ⟨i, b⟩) hr.1.1 hr.1.2
      rw [e0] at hlo
      simp only [m_level_survey_open_b4]
      refine M.o_t (by simp; omega) (M.o_grd (gA2 (by omega) (by omega)) (M.o_grd (gA2 (by omega) (by omega)) ?_))
      by_cases hd : can.getD (s * 13 + m) 0 < 1099511627776
      · have hd' : decide (can.getD (s * 13 + m) 0 < 1099511627776) = true := decide_eq_true hd
        rw [hd']
        refine M.o_bindE (a := rOf ls ⟨i, b⟩) (M.i_opt (fun _ => rise_ends hN hx) (fun h => by cases h)) (M.o_grd (gOr2 (by omega) (by omega)) (M.o_bindE (a := gOf ls ⟨i, b⟩) (M.i_opt (fun _ => goal_ends hx) (fun h => by cases h)) (M.o_grd (gOr2 (by omega) (by omega)) ?_)))
        by_cases h2 : can.getD (s * 13 + m) 0 + rOf ls ⟨i, b⟩ < can.getD (s * 13 + Int.toNat (gOf ls ⟨i, b⟩)) 0
        · exact M.o_t (by rw [Bool.true_and]; exact decide_eq_true h2) (M.o_pure ⟨s, by omega, by unfold Rx; rw [e0, e1]; exact ⟨hd, h2⟩⟩)
        · refine M.o_f (by rw [Bool.true_and]; exact decide_eq_false h2) (M.o_grd (gA2 (by omega) (by omega)) (M.o_pure ⟨rfl, fun a h => ?_⟩))
          by_cases e : a = s
          · rw [e]; unfold Rx; rw [e0, e1]; exact fun h => h2 h.2
          · exact hJ a (by omega)
      · have hd' : decide (can.getD (s * 13 + m) 0 < 1099511627776) = false := decide_eq_false hd
        rw [hd']
        refine M.o_bindE (a := 0) (M.i_opt (fun h => by cases h) (fun _ => rfl)) (M.o_grd (by simp) (M.o_bindE (a := 0) (M.i_opt (fun h => by cases h) (fun _ => rfl)) (M.o_grd (by simp) ?_)))
        refine M.o_f (by simp) (M.o_grd (gA2 (by omega) (by omega)) (M.o_pure ⟨rfl, fun a h => ?_⟩))
        by_cases e : a = s
        · rw [e]; unfold Rx; rw [e0]; exact fun h => hd h.1
        · exact hJ a (by omega)
    · rintro s ⟨rfl, hJ⟩
      simp only [m_level_survey_open_b4]
      refine M.o_f (by simp; omega) (M.o_pure fun a h0 h1 => ?_)
      have := hJ a.toNat (by omega)
      rwa [Int.toNat_of_nonneg h0] at this
  have no_of : (∃ x, LegOk ls x ∧ ∃ a, (0 ≤ a ∧ a < n) ∧ Rx ls can a x) → ¬ Agr ls := by
    rintro ⟨x, hx, a, ha, hR⟩ hA
    exact hW.agr_no hN hA ha hx hR
  unfold m_level_survey_open
  refine M.o_bind (P := fun y => match y with | .inl _ => ¬ Agr ls | .inr _ => Agr ls) ?_ (fun y hy => by
    rcases y with y | y
    · exact M.o_pure ⟨fun _ => hy, fun _ => rfl⟩
    · exact M.o_pure ⟨fun h => (by cases h), fun h => absurd hy h⟩)
  refine M.o_for (Int.toNat n) (fun m s => s = m ∧ (∀ i b, i < ls.length → sOf ls ⟨i, b⟩ < (m : Int) → ∀ a, 0 ≤ a → a < n → ¬ Rx ls can a ⟨i, b⟩) ∧ ∀ a : Nat, a < m → ¬ rw_ can a a < 0) ?_ ?_ (s := 0) ⟨rfl, fun i b hi h => by have := ((ij (k := b) hi).ed.rng hN.rng).1; omega, fun a h => by omega⟩
  · rintro m s hmn ⟨rfl, h1, h2⟩
    simp only [m_level_survey_open_b6]
    refine M.o_t (by simp; omega) (M.o_bindE (a := (s : Int)) M.i_pure ?_)
    refine M.o_bind (legs_out (m := (s : Int)) (fun idx _ => ∀ i b, i < ls.length → sOf ls ⟨i, b⟩ = (s : Int) → 2 * i + b.toNat < idx → ∀ a, 0 ≤ a → a < n → ¬ Rx ls can a ⟨i, b⟩) (fun _ => ¬ Agr ls) ?_ ?_ (s := ()) (fun i b _ _ h => by omega)) ?_
    · intro i b _ hi hs hJ
      refine M.o_mono (leg s i b hi hs) ?_
      rintro (x | x) hx
      · intro i' b' hi' hs' hlt
        by_cases e : 2 * i' + b'.toNat < 2 * i + b.toNat
        · exact hJ i' b' hi' hs' e
        · have hb2 : b.toNat ≤ 1 := by cases b <;> decide
          have hb3 : b'.toNat ≤ 1 := by cases b' <;> decide
          have e1 : i' = i := by omega
          subst e1
          have e2 : b' = b := by
            have : b'.toNat = b.toNat := by omega
            cases b <;> cases b' <;> simp_all
          subst e2
          exact hx
      · exact no_of ⟨_, ij hi, hx⟩
    · intro i b _ hi hs hJ i' b' hi' hs' hlt
      refine hJ i' b' hi' hs' ?_
      have hb2 : b.toNat ≤ 1 := by cases b <;> decide
      have hb3 : b'.toNat ≤ 1 := by cases b' <;> decide
      rcases Nat.lt_or_ge (2 * i' + b'.toNat) (2 * i + b.toNat) with h | h
      · exact h
      · exfalso
        have e1 : i' = i := by omega
        subst e1
        have e2 : b' = b := by
          have : b'.toNat = b.toNat := by omega
          cases b <;> cases b' <;> simp_all
        subst e2
        exact hs hs'
    · rintro (x | x) hx
      · refine M.o_grd (gA2 (by omega) (by omega)) ?_
        by_cases hd : rw_ can s s < 0
        · refine M.o_t (decide_eq_true (by rw [← rw_nat]; exact hd)) (M.o_pure fun hA => ?_)
          have := hW.agr_zero hN hA (a := (s : Int)) (by omega)
          omega
        · refine M.o_f (decide_eq_false (by rw [← rw_nat]; exact hd)) (M.o_grd (gA2 (by omega) (by omega)) (M.o_pure ⟨rfl, fun i b hi h => ?_, fun a h => ?_⟩))
          · by_cases e : sOf ls ⟨i, b⟩ < (s : Int)
            · exact h1 i b hi e
            · have hb2 : b.toNat ≤ 1 := by cases b <;> decide
              exact hx i b hi (by omega) (by omega)
          · by_cases e : a = s
            · rw [e]; exact hd
            · exact h2 a (by omega)
      · exact M.o_pure hx
  · rintro s ⟨rfl, h1, h2⟩
    simp only [m_level_survey_open_b6]
    refine M.o_f (by simp; omega) (M.o_pure ?_)
    obtain ⟨f, _, hF⟩ := hW.agr_of hN (fun a h0 h3 x hx => by
      obtain ⟨l, k⟩ := x
      have hx' := hx
      obtain ⟨l0, l1⟩ := hx
      dsimp only at l0 l1
      have e : l = ((l.toNat : Nat) : Int) := by omega
      rw [e] at hx' ⊢
      exact h1 l.toNat k (by omega) (by have := (hx'.ed.rng hN.rng).1; omega) a h0 h3) (fun a h0 h3 => by
      have := h2 a.toNat (by omega)
      rwa [Int.toNat_of_nonneg h0] at this)
    exact ⟨_, hF⟩
end Go.Proofs.Ytclhljenjphofaa
namespace Go.Nm
/-- A line, as it may be in a net. -/
def okLine (n : Int) (l : Line) : Bool := (((((decide (0 ≤ l.src) && decide (l.src ≤ n - 1)) && (decide (0 ≤ l.dst) && decide (l.dst ≤ n - 1))) && (l.src != l.dst)) && (decide (0 ≤ l.day) && decide (l.day ≤ 40000))) && (decide (-1000000 ≤ l.rise) && decide (l.rise ≤ 1000000))) && (decide (0 ≤ l.err) && decide (l.err ≤ 10000))
def chkE (n : Int) (ls : List Line) : Int := bif (!(decide (1 ≤ n) && decide (n ≤ 12))) || decide (30 < (ls.length : Int)) then 3 else bif !(ls.all (okLine n)) then 20 else 0
theorem okLine_iff {n : Int} {l : Line} : okLine n l = true ↔ ((((((0 ≤ l.src ∧ l.src ≤ n - 1) ∧ (0 ≤ l.dst ∧ l.dst ≤ n - 1)) ∧ l.src ≠ l.dst) ∧ (0 ≤ l.day ∧ l.day ≤ 40000)) ∧ (-1000000 ≤ l.rise ∧ l.rise ≤ 1000000)) ∧ (0 ≤ l.err ∧ l.err ≤ 10000)) := by
  unfold okLine
  simp only [Bool.and_eq_true, decide_eq_true_eq, bne_iff_ne, ne_eq]
theorem chk_ok {n : Int} {ls : List Line} : chkE n ls = 0 ↔ NetOk n ls := by
  unfold chkE
  cases h1 : (!(decide (1 ≤ n) && decide (n ≤ 12))) || decide (30 < (ls.length : Int)) with
  | true =>
    simp only [Bool.or_eq_true, Bool.not_eq_true', Bool.and_eq_false_iff, decide_eq_false_iff_not, decide_eq_true_eq] at h1
    refine ⟨fun h => by simp at h, fun h => ?_⟩
    have := h.marks
    have := h.few
    omega
  | false =>
    simp only [Bool.or_eq_false_iff, Bool.not_eq_false', Bool.and_eq_true, decide_eq_false_iff_not, decide_eq_true_eq] at h1
    cases h2 : ls.all (okLine n) with
    | true =>
      rw [List.all_eq_true] at h2
      have h3 := fun l hl => okLine_iff.1 (h2 l hl)
      exact ⟨fun _ => ⟨h1.1, by omega, fun l hl => by have := h3 l hl; omega, fun l hl => (h3 l hl).1.1.1.2, fun l hl => (h3 l hl).1.1.2, fun l hl => (h3 l hl).1.2, fun l hl => (h3 l hl).2⟩, fun _ => rfl⟩
    | false =>
      rw [List.all_eq_false] at h2
      obtain ⟨l, hl, h3⟩ := h2
      refine ⟨fun h => by simp at h, fun h => absurd (okLine_iff.2 ?_) h3⟩
      have := h.rng l hl
      exact ⟨⟨⟨⟨⟨⟨this.1.1, by omega⟩, ⟨this.2.1, by omega⟩⟩, h.ne l hl⟩, h.day l hl⟩, h.rise l hl⟩, h.err l hl⟩
/-- What is said of two marks. -/
structure Btw (ls : List Line) (a b : Int) (r : Int × Int × Int) : Prop where
  no : ¬ Agr ls → r = (0, 0, 7)
  far : Agr ls → ¬ Tied ls a b → r = (0, 0, 5)
  yes : Agr ls → Tied ls a b → r.2.2 = 0 ∧ IsDist ls a b r.2.1 ∧ IsDist ls b a (-r.1)
end Go.Nm
namespace Go.Proofs.Ytclhljenjphofaa
open Go Go.Nm
variable {ls : List Line} {n a : Int}
theorem in_ends (x lo hi : Int) : (m_level_in x lo hi).Ends (decide (lo ≤ x) && decide (x ≤ hi)) := M.i_pure
theorem index_line {f : Line → M Bool} {q : Line → Bool} (h : ∀ x, x ∈ ls → (f x).Ends (q x)) : (m_slices_IndexFunc_level_Line ls f).Out (fun r => decide (0 ≤ r) = ls.any q) := by
  unfold m_slices_IndexFunc_level_Line
  refine M.o_bind (P := fun y => match y with | .inl r => decide (0 ≤ r) = ls.any q | .inr _ => ls.any q = false) ?_ (fun y hy => by
    rcases y with y | y
    · exact M.o_pure hy
    · exact M.o_pure (by rw [hy]; rfl))
  refine M.o_for ls.length (fun i s => s = i ∧ (ls.take i).any q = false) ?_ ?_ (s := 0) ⟨rfl, by simp⟩
  · rintro i s hi ⟨rfl, hJ⟩
    simp only [m_slices_IndexFunc_level_Line_b0]
    refine M.o_t (by simpa using hi) (M.o_grd (by simpa using hi) (M.o_bindE (h (ls.getD s default) (by rw [getD_el ls hi]; exact List.getElem_mem hi)) (M.o_if (fun hb => ?_) (fun hb => ?_))))
    · refine M.o_pure ?_
      dsimp only
      rw [show ls.any q = true from List.any_eq_true.2 ⟨_, by rw [getD_el ls hi]; exact List.getElem_mem hi, hb⟩]
      exact decide_eq_true (by omega)
    · refine M.o_pure ⟨rfl, ?_⟩
      rw [← take_succ_D ls s hi default, List.any_append, hJ]
      simp only [List.any_cons, List.any_nil, Bool.or_false, Bool.false_or]
      exact hb
  · rintro s ⟨rfl, hJ⟩
    simp only [m_slices_IndexFunc_level_Line_b0]
    rw [List.take_length] at hJ
    exact M.o_f (by simp) (M.o_pure hJ)
theorem every_line {so : Line → M Bool} {p : Line → Bool} (h : ∀ x, x ∈ ls → (so x).Ends (p x)) : (m_level_every_level_Line ls so).Ends (ls.all p) := by
  unfold m_level_every_level_Line m_slices_ContainsFunc_level_Line
  obtain ⟨r, h1, h2⟩ := index_line (ls := ls) (f := fun x => m_level_every_level_Line__1 x so) (q := fun x => !(p x)) (fun x hx => by unfold m_level_every_level_Line__1; exact M.i_bind (h x hx) M.i_pure)
  refine M.i_bind (M.i_bind h1 M.i_pure) ?_
  rw [h2, List.any_eq_not_all_not]
  simp only [Bool.not_not]
  exact M.i_pure
theorem check_ends (n : Int) (ls : List Line) : (m_level_Check n ls).Ends (chkE n ls) := by
  unfold m_level_Check chkE
  refine M.i_bind (in_ends _ _ _) (M.i_if (fun hb => ?_) (fun hb => ?_))
  · rw [hb]; exact M.i_pure
  · rw [hb]
    simp only [Bool.or_eq_false_iff, Bool.not_eq_false', Bool.and_eq_true, decide_eq_false_iff_not, decide_eq_true_eq] at hb
    refine M.i_bind (every_line (p := okLine n) fun l _ => ?_) (M.i_if (fun h2 => by rw [h2]; exact M.i_pure) (fun h2 => by rw [h2]; exact M.i_pure))
    have mk : ∀ x : Int, (m_level_Check_1 x n ls).Ends (decide (0 ≤ x) && decide (x ≤ n - 1)) := fun x => by
      unfold m_level_Check_1
      exact M.i_grd (gA2 (by omega) (by omega)) (M.i_bind (in_ends _ _ _) M.i_pure)
    unfold m_level_Check_2
    have opt : ∀ {c : Bool} {m : M Bool} {b : Bool}, m.Ends b → (M.opt c m false).Ends (c && b) := fun {c m b} h => M.i_opt (fun e => by rw [e, Bool.true_and]; exact h) (fun e => by rw [e]; rfl)
    refine M.i_bind (mk l.src) (M.i_bind (opt (mk l.dst)) (M.i_bind (opt (in_ends _ _ _)) (M.i_bind (opt (in_ends _ _ _)) (M.i_bind (opt (in_ends _ _ _)) ?_))))
    have e : okLine n l = _ := rfl
    unfold okLine
    generalize (decide (0 ≤ l.src) && decide (l.src ≤ n - 1)) = b1
    generalize (decide (0 ≤ l.dst) && decide (l.dst ≤ n - 1)) = b2
    generalize (l.src != l.dst) = b3
    generalize (decide (0 ≤ l.day) && decide (l.day ≤ 40000)) = b4
    generalize (decide (-1000000 ≤ l.rise) && decide (l.rise ≤ 1000000)) = b5
    generalize (decide (0 ≤ l.err) && decide (l.err ≤ 10000)) = b6
    cases b1 <;> cases b2 <;> cases b3 <;> cases b4 <;> cases b5 <;> cases b6 <;> exact M.i_pure
theorem opened_out (hN : NetOk n ls) : (m_level_opened n ls).Out (fun y => ∃ can by_, y = .inr (n, can, by_, 0) ∧ Wkd ls n can by_) := by
  unfold m_level_opened
  refine M.o_bindE (check_ends n ls) ?_
  rw [chk_ok.2 hN]
  refine M.o_f (by decide) (M.o_bind (worked_out hN) ?_)
  rintro ⟨r0, c, b⟩ ⟨rfl, hW⟩
  exact M.o_pure ⟨c, b, rfl, hW⟩
theorem agrees_out (hN : NetOk n ls) : (m_level_Agrees n ls).Out (fun r => r.2 = 0 ∧ (r.1 = true ↔ Agr ls)) := by
  unfold m_level_Agrees
  refine M.o_bind (opened_out hN) ?_
  rintro y ⟨c, b, rfl, hW⟩
  dsimp only
  refine M.o_f (by decide) (M.o_bind (open_out hN hW) ?_)
  intro r hr
  refine M.o_pure ⟨rfl, ?_⟩
  dsimp only
  rw [Bool.not_eq_true']
  constructor
  · intro h
    refine Classical.byContradiction fun hc => ?_
    rw [hr.2 hc] at h
    cases h
  · intro h
    cases hc : r with
    | false => rfl
    | true => exact absurd h (hr.1 hc)
theorem between_out (hN : NetOk n ls) {f t : Int} (hf : 0 ≤ f ∧ f < n) (ht : 0 ≤ t ∧ t < n) : (m_level_Between n ls f t).Out (Btw ls f t) := by
  have hm := hN.marks
  unfold m_level_Between
  refine M.o_bind (P := fun y => ∃ can by_ e, y = .inr (n, can, by_, e) ∧ Wkd ls n can by_ ∧ (¬ Agr ls → e = 7) ∧ (Agr ls → e = if rw_ can f t = 1099511627776 then 5 else 0)) ?_ ?_
  · unfold m_level_asked
    refine M.o_bindE (check_ends n ls) ?_
    rw [chk_ok.2 hN]
    refine M.o_f (by decide) (M.o_grd (gA2 (by omega) (by omega)) (M.o_bindE (in_ends _ _ _) ?_))
    rw [show (decide (0 ≤ f) && decide (f ≤ n - 1)) = true from gA2 (by omega) (by omega)]
    refine M.o_bindE (a := true) (M.i_opt (fun _ => by rw [← show (decide (0 ≤ t) && decide (t ≤ n - 1)) = true from gA2 (by omega) (by omega)]; exact in_ends _ _ _) (fun h => by cases h)) ?_
    refine M.o_f (by simp) ?_
    refine M.o_bind (P := fun y => ∃ can by_ e, y = (n, can, by_, e) ∧ Wkd ls n can by_ ∧ (¬ Agr ls → e = 7) ∧ (Agr ls → e = 0)) ?_ ?_
    · unfold m_level_agreed
      refine M.o_bind (opened_out hN) ?_
      rintro y ⟨c, b, rfl, hW⟩
      dsimp only
      refine M.o_bind (P := fun r => r = true ↔ ¬ Agr ls) (by
        obtain ⟨r, h1, h2⟩ := open_out hN hW
        exact ⟨r, M.i_opt (fun _ => h1) (fun h => by simp at h), h2⟩) ?_
      intro r hr
      cases r with
      | true => exact M.o_t rfl (M.o_pure ⟨c, b, 7, rfl, hW, fun _ => rfl, fun h => absurd h (hr.1 rfl)⟩)
      | false => exact M.o_f rfl (M.o_pure ⟨c, b, 0, rfl, hW, fun h => absurd (hr.2 h) (by decide), fun _ => rfl⟩)
    · rintro y ⟨c, b, e, rfl, hW, h1, h2⟩
      dsimp only
      refine M.o_grd (gOr2 (by omega) (by omega)) (M.o_grd (gOr2 (by omega) (by omega)) ?_)
      by_cases hA : Agr ls
      · have := h2 hA
        subst this
        by_cases e : rw_ c f t = 1099511627776
        · exact M.o_t (by unfold rw_ at e; rw [e]; rfl) (M.o_pure ⟨c, b, 5, rfl, hW, fun h => absurd hA h, fun _ => by rw [if_pos e]⟩)
        · exact M.o_f (by unfold rw_ at e; simpa using e) (M.o_pure ⟨c, b, 0, rfl, hW, fun h => absurd hA h, fun _ => by rw [if_neg e]⟩)
      · have := h1 hA
        subst this
        exact M.o_f (by simp) (M.o_pure ⟨c, b, 7, rfl, hW, fun _ => rfl, fun h => absurd h hA⟩)
  · rintro y ⟨c, b, e, rfl, hW, h1, h2⟩
    dsimp only
    by_cases hA : Agr ls
    · have hD := hW.done hN hA hf
      have hD2 := hW.done hN hA ht
      by_cases e5 : rw_ c f t = 1099511627776
      · have := h2 hA
        rw [if_pos e5] at this
        subst this
        refine M.o_t (by decide) (M.o_pure ⟨fun h => absurd hA h, fun _ _ => rfl, fun _ hT => ?_⟩)
        have := hD.tied t ht.1 ht.2 hT
        omega
      · have := h2 hA
        rw [if_neg e5] at this
        subst this
        have hlt := hD.far t ht.1 ht.2 e5
        have d1 := hD.dist t ht.1 ht.2 hlt
        have hlt2 := hD2.tied f hf.1 hf.2 d1.tied.symm
        have d2 := hD2.dist f hf.1 hf.2 hlt2
        have b1 := (hW.row t ht.1 ht.2).bf.low f hf.1 hf.2
        unfold rw_ at hlt2 b1
        refine M.o_f (by decide) (M.o_grd (gA2 (by omega) (by omega)) (M.o_grd (gA2 (by omega) (by omega)) (M.o_grd (gA2 (by omega) (by omega)) (M.o_pure ⟨fun h => absurd hA h, fun _ h => absurd d1.tied h, fun _ _ => ⟨rfl, d1, ?_⟩⟩))))
        dsimp only
        rw [Int.neg_neg]
        exact d2
    · have := h1 hA
      subst this
      exact M.o_t (by decide) (M.o_pure ⟨fun _ => rfl, fun h => absurd h hA, fun h => absurd h hA⟩)
end Go.Proofs.Ytclhljenjphofaa
namespace Go.Nm
def hOf (hs : List Int) (v : Int) : Int := hs.getD (Int.toNat v) 0
structure LnOk (n : Int) (hs : List Int) (l : Line) : Prop where
  src : 0 ≤ l.src ∧ l.src < n
  dst : 0 ≤ l.dst ∧ l.dst < n
  ne : l.src ≠ l.dst
  day : 0 ≤ l.day ∧ l.day < 30
  err : 0 ≤ l.err ∧ l.err ≤ 8
  lo : l.rise - l.err ≤ hOf hs l.dst - hOf hs l.src
  hi : hOf hs l.dst - hOf hs l.src ≤ l.rise + l.err
structure HsOk (n : Int) (hs : List Int) : Prop where
  len : (hs.length : Int) = n
  zero : hs.getD 0 0 = 0
  bnd : ∀ v, -300 ≤ hOf hs v ∧ hOf hs v ≤ 300
/-- What a net of numbers is like. -/
structure MadeN (most n : Int) (ls : List Line) (hs : List Int) : Prop where
  two : 2 ≤ n ∧ n ≤ most
  hh : HsOk n hs
  one : 1 ≤ ls.length ∧ ls.length ≤ 14
  ln : ∀ l, l ∈ ls → LnOk n hs l
theorem LnOk.rise {n : Int} {hs : List Int} {l : Line} (h : LnOk n hs l) (hh : HsOk n hs) : -700 ≤ l.rise ∧ l.rise ≤ 700 := by
  have h1 := hh.bnd l.src
  have h2 := hh.bnd l.dst
  have := h.err
  have := h.lo
  have := h.hi
  omega
theorem net_ok {most n : Int} {ls : List Line} {hs : List Int} (hm : 1 ≤ n ∧ n ≤ 12) (hh : HsOk n hs) (hl : ls.length ≤ 30) (h : ∀ l, l ∈ ls → LnOk n hs l) : NetOk n ls :=
  ⟨hm, hl, fun l hl => ⟨(h l hl).src, (h l hl).dst⟩, fun l hl => (h l hl).ne, fun l hl => by have := (h l hl).day; omega, fun l hl => by have := (h l hl).rise hh; omega, fun l hl => by have := (h l hl).err; omega⟩
theorem feas_ln {n : Int} {ls : List Line} {hs : List Int} (h : ∀ l, l ∈ ls → LnOk n hs l) : Feas ls (hOf hs) := fun l hl => ⟨(h l hl).lo, (h l hl).hi⟩
theorem MadeN.ok {most n : Int} {ls : List Line} {hs : List Int} (h : MadeN most n ls hs) (hm : most ≤ 12) : NetOk n ls := net_ok (most := 0) (by have := h.two; omega) h.hh (by have := h.one; omega) h.ln
theorem MadeN.agr {most n : Int} {ls : List Line} {hs : List Int} (h : MadeN most n ls hs) : Agr ls := ⟨_, feas_ln h.ln⟩
theorem modne {a j n : Int} (ha : 0 ≤ a ∧ a < n) (hj : 1 ≤ j ∧ j < n) : (0 ≤ (a + j) % n ∧ (a + j) % n < n) ∧ (a + j) % n ≠ a := by
  have h1 := Int.emod_nonneg (a + j) (show n ≠ 0 by omega)
  have h2 := Int.emod_lt_of_pos (a + j) (show 0 < n by omega)
  refine ⟨⟨h1, h2⟩, fun e => ?_⟩
  by_cases h : a + j < n
  · rw [Int.emod_eq_of_lt (by omega) h] at e; omega
  · rw [← Int.sub_emod_right, Int.emod_eq_of_lt (by omega) (by omega)] at e; omega
end Go.Nm
namespace Go.Proofs.Ytclhljenjphofaa
open Go Go.Nm
theorem levelled_out {b : List UInt8} {c u x n : Int} {hs : List Int} {a t day : Int} (h : SOk c u x) (hc : c ≤ 100000000000) (hh : HsOk n hs) (ha : 0 ≤ a ∧ a < n) (ht : 0 ≤ t ∧ t < n) (hne : a ≠ t) (hd : 0 ≤ day ∧ day < 30) :
    (m_nilometerlaw01_Levelled b u x hs a t day).Out (fun y => LnOk n hs ⟨y.1, y.2.1, y.2.2.1, y.2.2.2.1, y.2.2.2.2.1⟩ ∧ SOk (c + 2) y.2.2.2.2.2.1 y.2.2.2.2.2.2) := by
  have hl := hh.len
  have b1 := hh.bnd a
  have b2 := hh.bnd t
  unfold hOf at b1 b2
  unfold m_nilometerlaw01_Levelled
  refine M.o_bind (next_out h (by omega) (by omega)) ?_
  rintro ⟨r2, u1, x1⟩ ⟨ok, hlt, _⟩
  dsimp only at ok hlt ⊢
  have hlt := hlt (by omega)
  refine M.o_grd (gA2 (by omega) (by omega)) (M.o_grd (gA2 (by omega) (by omega)) (M.o_grd (gA2 (by omega) (by omega)) (M.o_grd (gA2 (by omega) (by omega)) ?_)))
  refine M.o_bind (within_out ok (by omega) (by omega) (by omega) (by omega)) ?_
  rintro ⟨r3, u2, x2⟩ ⟨ok2, h1, h2⟩
  dsimp only at ok2 h1 h2 ⊢
  refine M.o_grd (gA2 (by omega) (by omega)) (M.o_pure ⟨⟨ha, ht, hne, hd, by dsimp only; omega, ?_, ?_⟩, ok2.mono (by omega)⟩)
  · unfold hOf; dsimp only; omega
  · unfold hOf; dsimp only; omega
theorem made_out {b : List UInt8} {c u x most : Int} (h : SOk c u x) (hc : c ≤ 100000000) (h2 : 2 ≤ most) (h12 : most ≤ 12) : (m_nilometerlaw01_Made b u x most).Out (fun y => MadeN most y.1 y.2.1 y.2.2.1 ∧ SOk (c + 2000) y.2.2.2.1 y.2.2.2.2) := by
  unfold m_nilometerlaw01_Made
  refine M.o_bind (within_out h (by omega) (by omega) h2 (by omega)) ?_
  rintro ⟨n, u1, x1⟩ ⟨hs, r0, r1⟩
  dsimp only at hs r0 r1 ⊢
  refine M.o_bind (P := fun y => HsOk n y.2.2.2 ∧ SOk (c + 100) y.1 y.2.1) ?_ ?_
  · refine M.o_for (Int.toNat n - 1) (fun i st => st.2.2.length = i + 1 ∧ SOk (c + 1 + i) st.1 st.2.1 ∧ st.2.2.getD 0 0 = 0 ∧ ∀ j : Nat, -300 ≤ st.2.2.getD j 0 ∧ st.2.2.getD j 0 ≤ 300) ?_ ?_ (s := (u1, x1, [0])) ⟨rfl, hs.mono (by simp), rfl, fun j => ?_⟩
    · rintro i ⟨u, x, l⟩ hi ⟨hl, ok, hz, hb⟩
      dsimp only at hl ok hz hb
      simp only [m_nilometerlaw01_Made_b0]
      refine M.o_t (decide_eq_true (by omega)) (M.o_bind (within_out ok (by omega) (by omega) (by omega) (by omega)) ?_)
      rintro ⟨r3, u2, x2⟩ ⟨ok2, h1, h2⟩
      dsimp only at ok2 h1 h2 ⊢
      refine M.o_grdD (by simp only [List.length_cons, List.length_nil]; omega) (M.o_pure ⟨by simp [hl], ok2.mono (by omega), ?_, fun j => ?_⟩)
      · dsimp only
        simp only [List.getD_eq_getElem?_getD] at hz ⊢
        rw [List.getElem?_append_left (by omega)]; exact hz
      · dsimp only
        have := hb j
        simp only [List.getD_eq_getElem?_getD] at this ⊢
        by_cases e : j < l.length
        · rw [List.getElem?_append_left e]; exact this
        · rw [List.getElem?_append_right (by omega)]
          by_cases e2 : j - l.length = 0
          · rw [e2]; simp; omega
          · rw [List.getElem?_eq_none (by simp; omega)]; simp
    · rintro ⟨u, x, l⟩ ⟨hl, ok, hz, hb⟩
      dsimp only at hl ok hz hb
      simp only [m_nilometerlaw01_Made_b0]
      exact M.o_f (decide_eq_false (by omega)) (M.o_pure ⟨⟨by dsimp only; omega, hz, fun v => hb _⟩, ok.mono (by omega)⟩)
    · cases j with
      | zero => simp
      | succ j => simp
  · rintro ⟨u, x, l2, l3⟩ ⟨hh, ok⟩
    dsimp only at hh ok ⊢
    refine M.o_bind (within_out ok (by omega) (by omega) (by omega) (by omega)) ?_
    rintro ⟨k, u3, x3⟩ ⟨ok3, k0, k1⟩
    dsimp only at ok3 k0 k1 ⊢
    refine M.o_bind (P := fun y => (1 ≤ y.2.1.length ∧ y.2.1.length ≤ 14) ∧ (∀ l, l ∈ y.2.1 → LnOk n l3 l) ∧ SOk (c + 2000) y.2.2.1 y.2.2.2) ?_ (fun y hy => M.o_pure ⟨⟨⟨by dsimp only; omega, by dsimp only; omega⟩, hh, hy.1, hy.2.1⟩, hy.2.2⟩)
    refine M.o_for (Int.toNat k) (fun i st => st.2.2.1 = i ∧ st.2.2.2.length = i ∧ SOk (c + 101 + 10 * i) st.1 st.2.1 ∧ ∀ l, l ∈ st.2.2.2 → LnOk n l3 l) ?_ ?_ (s := (u3, x3, 0, [])) ⟨rfl, rfl, ok3.mono (by omega), fun l hl => by simp at hl⟩
    · rintro i ⟨u, x, j, l⟩ hi ⟨rfl, hl, ok, hj⟩
      dsimp only at hi hl ok hj
      simp only [m_nilometerlaw01_Made_b1]
      refine M.o_t (decide_eq_true (by omega)) (M.o_bind (next_out ok (by omega) (by omega)) ?_)
      rintro ⟨r5, u5, x5⟩ ⟨ok5, h5, _⟩
      dsimp only at ok5 h5 ⊢
      have h5 := h5 (by omega)
      refine M.o_grd (gA2 (by omega) (by omega)) (M.o_grd (gA2 (by omega) (by omega)) (M.o_bind (next_out ok5 (by omega) (by omega)) ?_))
      rintro ⟨r6, u6, x6⟩ ⟨ok6, h6, _⟩
      dsimp only at ok6 h6 ⊢
      have h6 := h6 (by omega)
      refine M.o_grd (gA2 (by omega) (by omega)) (M.o_grd (gA2 (by omega) (by omega)) (M.o_bind (next_out ok6 (by omega) (by omega)) ?_))
      rintro ⟨r7, u7, x7⟩ ⟨ok7, h7, _⟩
      dsimp only at ok7 h7 ⊢
      have h7 := h7 (by omega)
      have hm := modne (a := r5) (j := 1 + r6) (n := n) (by omega) (by omega)
      rw [← Int.add_assoc] at hm
      refine M.o_bind (levelled_out ok7 (by omega) hh (a := r5) (t := (r5 + 1 + r6) % n) (by omega) hm.1 (fun e => hm.2 e.symm) h7) ?_
      rintro ⟨y0, y1, y2, y3, y4, y5, y6⟩ ⟨hln, ok8⟩
      dsimp only at hln ok8 ⊢
      refine M.o_grdD (by simp only [List.length_cons, List.length_nil]; omega) (M.o_grd (gA2 (by omega) (by omega)) (M.o_pure ⟨rfl, by simp [hl], ok8.mono (by omega), fun l' hl' => ?_⟩))
      simp only [List.mem_append, List.mem_cons, List.not_mem_nil, or_false] at hl'
      rcases hl' with hl' | rfl
      · exact hj l' hl'
      · exact hln
    · rintro ⟨u, x, j, l⟩ ⟨rfl, hl, ok, hj⟩
      dsimp only at hl ok hj
      simp only [m_nilometerlaw01_Made_b1]
      exact M.o_f (decide_eq_false (by omega)) (M.o_pure ⟨by dsimp only; omega, hj, ok.mono (by omega)⟩)
theorem new_ends (b : List UInt8) : (m_nilometerkit_New b).Ends (0, 0) := M.i_pure
theorem sok0 : SOk 0 0 0 := ⟨Int.le_refl _, Int.le_refl _, Int.le_refl _, by decide⟩
theorem copy_net {ls : List Line} (h : ls.length ≤ 1000000) (n : Int) : (m_nilometerlaw01_CopyNet n ls).Ends (n, ls) := by
  unfold m_nilometerlaw01_CopyNet m_nilometerkit_Copy_level_Line
  exact M.i_bind (M.i_grd (decide_eq_true (by simp only [List.length_nil]; omega)) M.i_pure) M.i_pure
end Go.Proofs.Ytclhljenjphofaa
namespace Go.Nm
variable {ls ks : List Line} {a b d : Int}
theorem Tied.edge {u v c : Int} (he : Ed ls u v c) : Tied ls a u ↔ Tied ls a v := ⟨fun t => t.trans (.ed he), fun t => by obtain ⟨c', hr⟩ := he.rev; exact t.trans (.ed hr)⟩
theorem dist_cert (hA : Agr ls) (hD : IsDist ls a b d) : ∃ h, Feas ls h ∧ h b - h a = d := by
  obtain ⟨h0, hF⟩ := hA
  haveI := fun v => Classical.propDecidable (∃ d, IsDist ls a v d)
  refine ⟨fun v => if t : ∃ d, IsDist ls a v d then t.choose else h0 v, feas_of fun u v e he => ?_, ?_⟩
  · by_cases t : Tied ls a u
    · have t1 := dist_ex hF t
      have t2 := dist_ex hF ((Tied.edge he).1 t)
      try dsimp only
      rw [dif_pos t1, dif_pos t2]
      have := t1.choose_spec.step he t2.choose_spec
      omega
    · have t1 : ¬ ∃ d, IsDist ls a u d := fun ⟨d, h⟩ => t h.tied
      have t2 : ¬ ∃ d, IsDist ls a v d := fun ⟨d, h⟩ => t ((Tied.edge he).2 h.tied)
      try dsimp only
      rw [dif_neg t1, dif_neg t2]
      exact hF.ed he
  · have t1 : ∃ d, IsDist ls a b d := ⟨d, hD⟩
    have t2 : ∃ d, IsDist ls a a d := ⟨0, .self hF⟩
    try dsimp only
    rw [dif_pos t1, dif_pos t2, t1.choose_spec.uniq hD, t2.choose_spec.uniq (.self hF)]
    omega
theorem Wk.map {f : Int → Int} (hE : ∀ a b c, Ed ks a b c → Ed ls (f a) (f b) c) {vs : List Int} {c : Int} (w : Wk ks a vs c) : Wk ls (f a) (vs.map f) c := by
  induction w with
  | one => exact .one
  | snoc _ he ih => exact .snoc ih (hE _ _ _ he)
/-! ### Nets that are joined at one mark -/
section
variable {N M there joint : Int} (hN : Rng N ls) (hM : Rng M ks) (hj : 0 ≤ joint ∧ joint < N) (ht : 0 ≤ there ∧ there < M)
include hN hM hj ht
end
end Go.Nm
namespace Go.Proofs.Ytclhljenjphofaa
open Go Go.Nm
set_option maxRecDepth 100000 in
theorem awake_ends : (m_nilometerlaw01_awake).Ends true := ⟨300, by kernel_rfl⟩
end Go.Proofs.Ytclhljenjphofaa
namespace Go.Nm
variable {ls ms : List Line} {n : Int}
theorem dist_sizeN {a b d : Int} (hN : NetOk n ls) (hA : Agr ls) (ha : 0 ≤ a ∧ a < n) (h : IsDist ls a b d) : -100000000 ≤ d ∧ d ≤ 100000000 := by
  obtain ⟨hh, hF⟩ := hA
  obtain ⟨vs, w⟩ := h.has
  obtain ⟨vs', c', w', h1, -, h2⟩ := w.few (n := n.toNat) hF (by rw [Int.toNat_of_nonneg (by omega)]; exact hN.rng) (by omega)
  have h3 := h.le _ _ w'
  have h4 := w'.size hN.ed
  have := hN.marks
  rw [List.length_cons] at h4
  omega
theorem Wk.size708 {a : Int} (hB : ∀ a b c, Ed ls a b c → -708 ≤ c ∧ c ≤ 708) {vs : List Int} {c : Int} (w : Wk ls a vs c) : -(708 * (vs.length : Int)) + 708 ≤ c ∧ c ≤ 708 * (vs.length : Int) - 708 := by
  induction w with
  | one => simp
  | @snoc m b vs c e _ he ih =>
    have h1 := hB _ _ _ he
    simp only [List.length_cons, Int.natCast_succ] at ih ⊢
    omega
theorem dist_small {hs : List Int} {a b d : Int} (hm : 1 ≤ n ∧ n ≤ 9) (hh : HsOk n hs) (hl : ∀ l, l ∈ ls → LnOk n hs l) (ha : 0 ≤ a ∧ a < n) (h : IsDist ls a b d) : -6000 ≤ d ∧ d ≤ 6000 := by
  obtain ⟨vs, w⟩ := h.has
  obtain ⟨vs', c', w', h1, -, h2⟩ := w.few (n := n.toNat) (feas_ln hl) (fun l hl' => by rw [Int.toNat_of_nonneg (by omega)]; exact ⟨(hl l hl').src, (hl l hl').dst⟩) (by omega)
  have h3 := h.le _ _ w'
  have h4 := w'.size708 fun a b c he => by
    obtain ⟨l, hl', h⟩ := he
    have h5 := (hl l hl').rise hh
    have h6 := (hl l hl').err
    omega
  rw [List.length_cons] at h4
  omega
/-- A truth for each number between the least and the greatest one. -/
theorem mid_ex (hA : Agr ls) {f g lo hi x : Int} (d1 : IsDist ls f g hi) (d2 : IsDist ls g f (-lo)) (h0 : lo ≤ x) (h1 : x ≤ hi) : ∃ h, Feas ls h ∧ h g - h f = x := by
  obtain ⟨p, hP, e1⟩ := dist_cert hA d1
  obtain ⟨q, hQ, e2⟩ := dist_cert hA d2
  refine ⟨fun v => max (q v - q f) (p v - p f - (hi - x)), feas_of fun a b c he => ?_, ?_⟩
  · have := hP.ed he
    have := hQ.ed he
    try dsimp only
    omega
  · dsimp only
    omega
theorem rowp_at {c : List Int} {n i s : Nat} (hi : i < n) (hs : s < 13) : rowp s ((rowsOf c n).getD i default) = decide (c.getD (i * 13 + s) 0 < 1099511627776) := by
  have e : (rowsOf c n).getD i default = ⟨(c.drop (i * 13)).take 13⟩ := by
    unfold rowsOf
    rw [List.getD_eq_getElem?_getD, List.getElem?_map, List.getElem?_range hi]
    rfl
  rw [e]
  unfold rowp
  dsimp only
  congr 2
  simp only [List.getD_eq_getElem?_getD]
  rw [List.getElem?_take, if_pos hs, List.getElem?_drop]
theorem first_row {c : List Int} {n s : Nat} (hs : s < 13) (h : ∃ i, i < n ∧ c.getD (i * 13 + s) 0 < 1099511627776) : ∃ f : Nat, f < n ∧ idxP (rowp s) (rowsOf c n) = f ∧ c.getD (f * 13 + s) 0 < 1099511627776 ∧ ∀ k, k < f → ¬ c.getD (k * 13 + s) 0 < 1099511627776 := by
  obtain ⟨f, ⟨hf, h1⟩, h2⟩ := least_nat h
  have hlen : (rowsOf c n).length = n := by simp [rowsOf]
  have no : ∀ k, k < f → ¬ c.getD (k * 13 + s) 0 < 1099511627776 := fun k hk h3 => by
    have := h2 k ⟨by omega, h3⟩
    omega
  refine ⟨f, hf, (idx_yes (d := default) (by omega) (by rw [Int.toNat_natCast, rowp_at hf hs]; exact decide_eq_true h1) fun y hy => ?_).symm, h1, no⟩
  obtain ⟨k, hk, rfl⟩ := mem_getD hy default
  have hk2 : k < f := by
    have := hk
    rw [List.length_take] at this
    omega
  have : (List.take f (rowsOf c n)).getD k default = (rowsOf c n).getD k default := by
    simp only [List.getD_eq_getElem?_getD]
    rw [List.getElem?_take, if_pos hk2]
  rw [this, rowp_at (by omega) hs]
  exact decide_eq_false (no k hk2)
/-- Heights that are returned. -/
structure HtOk (n : Int) (ls : List Line) (l : List Int) : Prop where
  len : (l.length : Int) = n
  feas : Feas ls (hOf l)
  zero : l.getD 0 0 = 0
  bnd : ∀ v, 0 ≤ v → v < n → -100000000 ≤ hOf l v ∧ hOf l v ≤ 100000000
end Go.Nm
namespace Go.Proofs.Ytclhljenjphofaa
open Go Go.Nm
variable {ls ms : List Line} {n : Int}
theorem agreed_out (hN : NetOk n ls) : (m_level_agreed n ls).Out (fun y => ∃ can by_ e, y = (n, can, by_, e) ∧ Wkd ls n can by_ ∧ (¬ Agr ls → e = 7) ∧ (Agr ls → e = 0)) := by
  unfold m_level_agreed
  refine M.o_bind (opened_out hN) ?_
  rintro y ⟨c, b, rfl, hW⟩
  dsimp only
  refine M.o_bind (P := fun r => r = true ↔ ¬ Agr ls) (by
    obtain ⟨r, h1, h2⟩ := open_out hN hW
    exact ⟨r, M.i_opt (fun _ => h1) (fun h => by simp at h), h2⟩) ?_
  intro r hr
  cases r with
  | true => exact M.o_t rfl (M.o_pure ⟨c, b, 7, rfl, hW, fun _ => rfl, fun h => absurd h (hr.1 rfl)⟩)
  | false => exact M.o_f rfl (M.o_pure ⟨c, b, 0, rfl, hW, fun h => absurd (hr.2 h) (by decide), fun _ => rfl⟩)
theorem heights_out (hN : NetOk n ls) : (m_level_Heights n ls).Out (fun y => (¬ Agr ls → y = ([], 7)) ∧ (Agr ls → y.2 = 0 ∧ HtOk n ls y.1)) := by
  have hk := hN.marks
  unfold m_level_Heights
  refine M.o_bind (agreed_out hN) ?_
  rintro y ⟨c, b, e, rfl, hW, h7, h0⟩
  dsimp only
  by_cases hA : Agr ls
  · have := h0 hA
    subst this
    refine M.o_f rfl ?_
    have rwn : ∀ i j : Nat, rw_ c i j = c.getD (i * 13 + j) 0 := fun i j => by unfold rw_; rw [Int.toNat_natCast, Int.toNat_natCast]
    have tie : ∀ i j : Nat, (i : Int) < n → (j : Int) < n → (c.getD (i * 13 + j) 0 < 1099511627776 ↔ Tied ls i j) := fun i j hi hj => by
      have hD := hW.done hN hA (a := (i : Int)) ⟨by omega, hi⟩
      rw [← rwn]
      exact ⟨fun h => (hD.dist j (by omega) hj h).tied, fun h => hD.tied j (by omega) hj h⟩
    have dst : ∀ i j : Nat, (i : Int) < n → (j : Int) < n → c.getD (i * 13 + j) 0 < 1099511627776 → IsDist ls i j (c.getD (i * 13 + j) 0) := fun i j hi hj h => by
      have hD := hW.done hN hA (a := (i : Int)) ⟨by omega, hi⟩
      rw [← rwn] at h ⊢
      exact hD.dist j (by omega) hj h
    have self : ∀ i : Nat, (i : Int) < n → c.getD (i * 13 + i) 0 = 0 := fun i hi => by
      rw [← rwn]
      exact hW.agr_zero hN hA ⟨by omega, hi⟩
    refine M.o_bind (P := fun y => HtOk n ls y.2) ?_ (fun y hy => M.o_pure ⟨fun h => absurd hA h, fun _ => ⟨rfl, hy⟩⟩)
    refine M.o_for (Int.toNat n) (fun i st => st.1 = i ∧ st.2.length = i ∧ ∀ j : Nat, j < i → ∃ f : Nat, (f : Int) < n ∧ st.2.getD j 0 = c.getD (f * 13 + j) 0 ∧ c.getD (f * 13 + j) 0 < 1099511627776 ∧ ∀ k, k < f → ¬ c.getD (k * 13 + j) 0 < 1099511627776) ?_ ?_ (s := (0, [])) ⟨rfl, rfl, fun j hj => by omega⟩
    · rintro i ⟨s, l⟩ hi ⟨rfl, hl, hJ⟩
      dsimp only at hi hl hJ
      simp only [m_level_Heights_b0]
      obtain ⟨f, f1, f2, f3, f4⟩ := first_row (c := c) (n := Int.toNat n) (s := s) (by omega) ⟨s, hi, by rw [self s (by omega)]; decide⟩
      rw [f2, Int.toNat_natCast]
      refine M.o_t (decide_eq_true (by omega)) (M.o_grd (gA2 (by omega) (by omega)) (M.o_grdD (by omega) (M.o_grd (gA2 (by omega) (by omega)) (M.o_grd (gA2 (by omega) (by omega)) (M.o_grdD (by simp only [List.length_cons, List.length_nil]; omega) (M.o_grd (gA2 (by omega) (by omega)) (M.o_pure ⟨rfl, by simp [hl], fun j hj => ?_⟩)))))))
      dsimp only
      by_cases e : j = s
      · subst e
        refine ⟨f, by omega, ?_, f3, f4⟩
        rw [← hl]
        simp [List.getD_eq_getElem?_getD]
      · obtain ⟨f', g1, g2, g3⟩ := hJ j (by omega)
        refine ⟨f', g1, ?_, g3⟩
        rw [← g2, List.getD_eq_getElem?_getD, List.getElem?_append_left (by omega), ← List.getD_eq_getElem?_getD]
    · rintro ⟨s, l⟩ ⟨rfl, hl, hJ⟩
      dsimp only at hl hJ
      simp only [m_level_Heights_b0]
      refine M.o_f (decide_eq_false (by omega)) (M.o_pure ?_)
      have at_ : ∀ v, 0 ≤ v → v < n → ∃ f : Nat, (f : Int) < n ∧ hOf l v = c.getD (f * 13 + v.toNat) 0 ∧ c.getD (f * 13 + v.toNat) 0 < 1099511627776 ∧ ∀ k, k < f → ¬ c.getD (k * 13 + v.toNat) 0 < 1099511627776 := fun v h0 h1 => hJ v.toNat (by omega)
      refine ⟨by dsimp only; omega, feas_of fun p q e he => ?_, ?_, fun v h0 h1 => ?_⟩
      · have hr := he.rng hN.rng
        obtain ⟨f, a1, a2, a3, a4⟩ := at_ p hr.1.1 hr.1.2
        obtain ⟨g, b1, b2, b3, b4⟩ := at_ q hr.2.1 hr.2.2
        have ep : ((p.toNat : Nat) : Int) = p := by omega
        have eq_ : ((q.toNat : Nat) : Int) = q := by omega
        have hp : ((p.toNat : Nat) : Int) < n := by omega
        have hq : ((q.toNat : Nat) : Int) < n := by omega
        have t1 := (tie f p.toNat a1 hp).1 a3
        have t2 := (tie g q.toNat b1 hq).1 b3
        rw [ep] at t1
        rw [eq_] at t2
        have c1 := (tie f q.toNat a1 hq).2 (by rw [eq_]; exact t1.trans (.ed he))
        have c2 := (tie g p.toNat b1 hp).2 (by rw [ep]; exact t2.trans (Tied.ed he).symm)
        have fg : f = g := by
          rcases Nat.lt_trichotomy f g with h | h | h
          · exact absurd c1 (b4 f h)
          · exact h
          · exact absurd c2 (a4 g h)
        subst fg
        have d1 := dst f p.toNat a1 hp a3
        have d2 := dst f q.toNat a1 hq b3
        rw [ep] at d1
        rw [eq_] at d2
        rw [a2, b2]
        have := d1.step he d2
        omega
      · obtain ⟨f, a1, a2, a3, a4⟩ := hJ 0 (by omega)
        have hz := self 0 (by omega)
        have : f = 0 := by
          rcases Nat.eq_zero_or_pos f with h | h
          · exact h
          · exact absurd (by rw [hz]; decide) (a4 0 h)
        subst this
        rw [a2]
        exact hz
      · obtain ⟨f, a1, a2, a3, a4⟩ := at_ v h0 h1
        have d1 := dst f v.toNat a1 (by omega) a3
        rw [a2]
        exact dist_sizeN hN hA ⟨by omega, a1⟩ d1
  · have := h7 hA
    subst this
    exact M.o_t rfl (M.o_pure ⟨fun _ => rfl, fun h => absurd h hA⟩)
theorem tied_ends {l : List Int} (hN : NetOk n ls) (h : HtOk n ls l) : (m_nilometerlaw01_tied n ls l).Ends true := by
  have out : (m_nilometerlaw01_tied n ls l).Out (fun r => r = true) := by
    have hlen := h.len
    unfold m_nilometerlaw01_tied
    refine M.o_f (by simp [hlen]) (M.o_bind (P := fun y => y = .inr ()) ?_ (fun y hy => by subst hy; exact M.o_pure rfl))
    refine M.o_for ls.length (fun i st => st = i) ?_ ?_ rfl
    · rintro i s hi rfl
      simp only [m_nilometerlaw01_tied_b0]
      have hm : ls.getD s default ∈ ls := by rw [getD_el ls hi]; exact List.getElem_mem hi
      have hr := hN.rng _ hm
      have h1 := h.feas _ hm
      have h2 := h.bnd _ hr.1.1 hr.1.2
      have h3 := h.bnd _ hr.2.1 hr.2.2
      have h4 := hN.rise _ hm
      unfold hOf at h1 h2 h3
      refine M.o_t (by simpa using hi) (M.o_grd (by simpa using hi) (M.o_grd (gA2 (by omega) (by omega)) (M.o_grd (gA2 (by omega) (by omega)) (M.o_grd (gA2 (by omega) (by omega)) (M.o_grd (gA2 (by omega) (by omega)) (M.o_grd (gA2 (by omega) (by omega)) (M.o_f (decide_eq_false (by omega)) (M.o_pure rfl))))))))
    · rintro s rfl
      simp only [m_nilometerlaw01_tied_b0]
      exact M.o_f (by simp) (M.o_pure rfl)
  obtain ⟨r, h, rfl⟩ := out
  exact h
theorem levelReached_ends (p : List UInt8) (a b : UInt8) (c : UInt16) : (m_nilometerlaw01_LevelReached p a.toNat b.toNat c.toNat).Ends true := by
  have out : (m_nilometerlaw01_LevelReached p a.toNat b.toNat c.toNat).Out (fun r => r = true) := by
    unfold m_nilometerlaw01_LevelReached
    refine M.o_bindE (new_ends p) (M.o_bind (made_out sok0 (by omega) (by omega) (by omega)) ?_)
    rintro ⟨n, ls, hs, q1, q2⟩ ⟨hA, _⟩
    dsimp only at hA ⊢
    have ua := a.toNat_lt
    have ub := b.toNat_lt
    have uc := c.toNat_lt
    generalize a.toNat = a at *
    generalize b.toNat = b at *
    generalize c.toNat = c at *
    have n2 := hA.two
    have l1 := hA.one
    have oA := hA.ok (by omega)
    have gA := hA.agr
    refine M.o_grd (gA2 (by omega) (by omega)) (M.o_grd (gA2 (by omega) (by omega)) (M.o_grd (gA2 (by omega) (by omega)) ?_))
    have a0 := Int.emod_nonneg a (show n ≠ 0 by omega)
    have a1 := Int.emod_lt_of_pos a (show 0 < n by omega)
    have b0 := Int.emod_nonneg b (show n ≠ 0 by omega)
    have b1 := Int.emod_lt_of_pos b (show 0 < n by omega)
    refine M.o_bind (between_out oA ⟨a0, a1⟩ ⟨b0, b1⟩) ?_
    rintro ⟨lo, hi, e⟩ hx
    dsimp only
    have no : ∀ {bb : Bool}, bb = true → (M.bind (M.opt bb m_nilometerlaw01_awake false) fun r3 => M.pure (bb && r3)).Out (fun r => r = true) := by
      rintro _ rfl
      exact M.o_bindE (M.i_opt (fun _ => awake_ends) (fun h => by cases h)) (M.o_pure rfl)
    refine M.o_if (fun hc => ?_) (fun hc => ?_)
    · have hc := beq_iff_eq.1 hc
      rw [← hc] at hx
      obtain ⟨e1, d1, d2⟩ := hx.yes gA (.refl _ _)
      dsimp only at e1 d1 d2
      have z := IsDist.self (a := (a : Int) % n) (feas_ln hA.ln)
      have h1 := d1.uniq z
      have h2 := d2.uniq z
      have h3 : lo = 0 := by omega
      subst e1
      subst h1
      subst h3
      exact no (by decide)
    · have hne := beq_eq_false_iff_ne.1 hc
      refine M.o_if (fun he => ?_) (fun he => ?_)
      · have t : ¬ Tied ls ((a : Int) % n) ((b : Int) % n) := fun t => by
          have := (hx.yes gA t).1
          dsimp only at this
          rw [this] at he
          cases he
        have := hx.far gA t
        simp only [Prod.mk.injEq] at this
        obtain ⟨-, -, rfl⟩ := this
        exact no (by decide)
      · have he : e = 0 := by simpa using he
        subst he
        have t : Tied ls ((a : Int) % n) ((b : Int) % n) := Classical.byContradiction fun t => by
          have := hx.far gA t
          simp at this
        obtain ⟨-, d1, d2⟩ := hx.yes gA t
        dsimp only at d1 d2
        have s1 := dist_small (by omega) hA.hh hA.ln ⟨a0, a1⟩ d1
        have s2 := dist_small (by omega) hA.hh hA.ln ⟨b0, b1⟩ d2
        have hle : lo ≤ hi := by
          obtain ⟨h, hF⟩ := gA
          have := d1.feas hF
          have := d2.feas hF
          omega
        have c0 := Int.emod_nonneg c (show hi - lo + 1 ≠ 0 by omega)
        have c1 := Int.emod_lt_of_pos c (show 0 < hi - lo + 1 by omega)
        have c2 := Int.emod_nonneg c (show (50 : Int) ≠ 0 by omega)
        have c3 := Int.emod_lt_of_pos c (show (0 : Int) < 50 by omega)
        refine M.o_f (decide_eq_false (by omega)) ?_
        refine M.o_grd (gA2 (by omega) (by omega)) (M.o_grd (gA2 (by omega) (by omega)) (M.o_grd (gA2 (by omega) (by omega)) (M.o_grd (gA2 (by omega) (by omega)) (M.o_grd (gA2 (by omega) (by omega)) (M.o_grd (gA2 (by omega) (by omega)) (M.o_grd (gA2 (by omega) (by omega)) (M.o_grd (gA2 (by omega) (by omega)) ?_)))))))
        refine M.o_bind (P := fun y => y = .inr ()) ?_ (fun y hy => by subst hy; exact M.o_bindE awake_ends (M.o_pure rfl))
        refine M.o_for 5 (fun i st => st = i) ?_ ?_ rfl
        · rintro i s hs5 rfl
          simp only [m_nilometerlaw01_LevelReached_b0]
          have hxb : -7000 ≤ ([lo, hi, lo + (c : Int) % (hi - lo + 1), lo - 1, hi + 1 + (c : Int) % 50] : List Int).getD s 0 ∧ ([lo, hi, lo + (c : Int) % (hi - lo + 1), lo - 1, hi + 1 + (c : Int) % 50] : List Int).getD s 0 ≤ 7000 := by
            rcases (show s = 0 ∨ s = 1 ∨ s = 2 ∨ s = 3 ∨ s = 4 by omega) with rfl | rfl | rfl | rfl | rfl <;> simp <;> omega
          refine M.o_t (by simp; omega) (M.o_grd (by simp; omega) ?_)
          generalize ([lo, hi, lo + (c : Int) % (hi - lo + 1), lo - 1, hi + 1 + (c : Int) % 50] : List Int).getD s 0 = x at *
          generalize (a : Int) % n = f at *
          generalize (b : Int) % n = g at *
          refine M.o_bindE (copy_net (by omega) n) ?_
          dsimp only
          have mem : ∀ l, l ∈ ls ++ [(⟨f, g, 0, x, 0⟩ : Line)] → l ∈ ls ∨ l = ⟨f, g, 0, x, 0⟩ := fun l hl => by simpa using hl
          have oJ : NetOk n (ls ++ [(⟨f, g, 0, x, 0⟩ : Line)]) := by
            refine ⟨oA.marks, by simp; omega, fun l hl => ?_, fun l hl => ?_, fun l hl => ?_, fun l hl => ?_, fun l hl => ?_⟩ <;> rcases mem l hl with hl | rfl
            · exact oA.rng l hl
            · exact ⟨⟨a0, a1⟩, ⟨b0, b1⟩⟩
            · exact oA.ne l hl
            · exact hne
            · exact oA.day l hl
            · dsimp only; omega
            · exact oA.rise l hl
            · dsimp only; omega
            · exact oA.err l hl
            · dsimp only; omega
          have gJ : Agr (ls ++ [(⟨f, g, 0, x, 0⟩ : Line)]) ↔ lo ≤ x ∧ x ≤ hi := by
            constructor
            · rintro ⟨h, hF⟩
              have h1 := hF ⟨f, g, 0, x, 0⟩ (List.mem_append_right _ (List.mem_cons_self ..))
              have hF' : Feas ls h := fun l hl => hF l (List.mem_append_left _ hl)
              have e1 := d1.feas hF'
              have e2 := d2.feas hF'
              dsimp only at h1
              omega
            · rintro ⟨h0, h1⟩
              obtain ⟨h, hF, e⟩ := mid_ex gA d1 d2 h0 h1
              refine ⟨h, fun l hl => ?_⟩
              rcases mem l hl with hl | rfl
              · exact hF l hl
              · dsimp only; omega
          refine M.o_grdD (by simp only [List.length_cons, List.length_nil]; omega) (M.o_bind (agrees_out oJ) ?_)
          rintro ⟨r02, r15⟩ ⟨e15, h02⟩
          dsimp only at e15 h02 ⊢
          subst e15
          have hr : r02 = (decide (lo ≤ x) && decide (x ≤ hi)) := by
            rw [Bool.eq_iff_iff, h02, gJ, Bool.and_eq_true, decide_eq_true_eq, decide_eq_true_eq]
          refine M.o_f (by rw [← hr]; simp) (M.o_bind (heights_out oJ) ?_)
          rintro ⟨r03, r16⟩ ⟨hn, hy⟩
          dsimp only at hn hy ⊢
          by_cases hAg : Agr (ls ++ [(⟨f, g, 0, x, 0⟩ : Line)])
          · obtain ⟨rfl, ht⟩ := hy hAg
            have := h02.2 hAg
            subst this
            have h1 := ht.feas ⟨f, g, 0, x, 0⟩ (List.mem_append_right _ (List.mem_cons_self ..))
            have h2 := ht.bnd f a0 a1
            have h3 := ht.bnd g b0 b1
            have h4 := ht.len
            unfold hOf at h1 h2 h3
            dsimp only at h1
            refine M.o_bindE (a := true) (M.i_opt (fun _ => tied_ends oJ ht) (fun h => by simp at h)) ?_
            refine M.o_grd (gOr (by omega)) (M.o_grd (gOr2 (by omega) (by omega)) (M.o_grd (gOr2 (by omega) (by omega)) (M.o_grd (gOr2 (by omega) (by omega)) (M.o_f ?_ (M.o_pure rfl)))))
            rw [ht.zero, show r03.getD g.toNat 0 - r03.getD f.toNat 0 = x by omega]
            simp
          · have := hn hAg
            simp only [Prod.mk.injEq] at this
            obtain ⟨rfl, rfl⟩ := this
            have : r02 = false := by
              cases r02 with
              | false => rfl
              | true => exact absurd (h02.1 rfl) hAg
            subst this
            refine M.o_bindE (a := false) (M.i_opt (fun h => by simp at h) (fun _ => rfl)) ?_
            exact M.o_grd rfl (M.o_grd rfl (M.o_grd rfl (M.o_grd rfl (M.o_f rfl (M.o_pure rfl)))))
        · rintro s rfl
          simp only [m_nilometerlaw01_LevelReached_b0]
          exact M.o_f (by simp) (M.o_pure rfl)
  obtain ⟨r, h, rfl⟩ := out
  exact h
end Go.Proofs.Ytclhljenjphofaa
