/- Part 6 of the texts on which the proof rests. Conditions: none. -/
import Derived.Test.YtndobgodeicloaaZ5
set_option linter.unusedVariables false
set_option linter.unusedSimpArgs false
set_option linter.unusedSectionVars false
namespace Go.Nm
structure SOk (c u x : Int) : Prop where
  u0 : 0 ≤ u
  u1 : u ≤ c
  x0 : 0 ≤ x
  x1 : x < 251
theorem SOk.mono {c d u x : Int} (h : SOk c u x) (hd : c ≤ d) : SOk d u x := ⟨h.u0, Int.le_trans h.u1 hd, h.x0, h.x1⟩
/-- What a stream gives: a number below n. -/
structure Nx (c n : Int) (y : Int × Int × Int) : Prop where
  ok : SOk c y.2.1 y.2.2
  lt : 1 ≤ n → 0 ≤ y.1 ∧ y.1 < n
  no : n < 1 → y.1 = 0
end Go.Nm
namespace Go.Proofs.Ytndobgodeicloaa
open Go Go.Nm
theorem next_out {b : List UInt8} {c u x n : Int} (h : SOk c u x) (hc : c ≤ 1000000000000) (hn : n ≤ 1000000) : (m_nilometerkit_Stream_Next b u x n).Out (Nx (c + 1) n) := by
  obtain ⟨u0, u1, x0, x1⟩ := h
  unfold m_nilometerkit_Stream_Next
  refine M.o_if (fun hb => ?_) (fun hb => ?_)
  · simp only [Bool.or_eq_true, decide_eq_true_eq, beq_iff_eq] at hb
    refine M.o_pure ⟨⟨u0, by dsimp only; omega, x0, x1⟩, fun h1 => ⟨Int.le_refl _, ?_⟩, fun _ => rfl⟩
    dsimp only
    omega
  · simp only [Bool.or_eq_false_iff, decide_eq_false_iff_not, beq_eq_false_iff_ne, ne_eq] at hb
    have hl : (0 : Int) < (b.length : Int) := by omega
    have m0 := Int.emod_nonneg u (show (b.length : Int) ≠ 0 by omega)
    have m1 := Int.emod_lt_of_pos u hl
    have d0 := Int.ediv_nonneg u0 (show (0 : Int) ≤ (b.length : Int) by omega)
    have d1 : u / (b.length : Int) ≤ u := Int.ediv_le_self _ u0
    have y1 : ((b.getD (Int.toNat (u % (b.length : Int))) 0).toNat : Int) < 256 := by
      have := UInt8.toNat_lt (b.getD (Int.toNat (u % (b.length : Int))) 0)
      omega
    have y0 : (0 : Int) ≤ ((b.getD (Int.toNat (u % (b.length : Int))) 0).toNat : Int) := Int.natCast_nonneg _
    generalize ((b.getD (Int.toNat (u % (b.length : Int))) 0).toNat : Int) = y at *
    generalize u % (b.length : Int) = m at *
    generalize u / (b.length : Int) = d at *
    have hn0 : 0 < n := by omega
    have fin : ∀ z : Int, 0 ≤ z → 0 ≤ z % n ∧ z % n < n := fun z hz => ⟨Int.emod_nonneg _ (by omega), Int.emod_lt_of_pos _ hn0⟩
    have pr : ∀ z w : Int, 0 ≤ z → Nx (c + 1) n (z % n, u + 1, w % 251) := fun z w hz => ⟨⟨by dsimp only; omega, by dsimp only; omega, by dsimp only; omega, by dsimp only; omega⟩, fun _ => fin z hz, fun h => by omega⟩
    refine M.o_grd (by simp only [Bool.and_eq_true, decide_eq_true_eq]; omega) (M.o_grd (by simp only [Bool.and_eq_true, decide_eq_true_eq]; omega) (M.o_grd (by simp only [Bool.and_eq_true, decide_eq_true_eq]; omega) ?_))
    refine M.o_if (fun h1 => ?_) (fun h1 => ?_)
    · refine M.o_grd (by simp only [Bool.and_eq_true, decide_eq_true_eq]; omega) (M.o_grd (by simp only [Bool.and_eq_true, decide_eq_true_eq]; omega) (M.o_grd (by simp only [Bool.and_eq_true, decide_eq_true_eq]; omega) (M.o_grd (by simp only [Bool.and_eq_true, decide_eq_true_eq]; omega) (M.o_grd (by simp only [Bool.and_eq_true, decide_eq_true_eq]; omega) ?_))))
      refine M.o_grd (by simp only [Bool.and_eq_true, decide_eq_true_eq]; omega) (M.o_grd (by simp only [Bool.and_eq_true, decide_eq_true_eq]; omega) (M.o_grd (by simp only [Bool.and_eq_true, decide_eq_true_eq]; omega) (M.o_grd (by simp only [Bool.and_eq_true, decide_eq_true_eq]; omega) ?_)))
      refine M.o_if (fun h2 => ?_) (fun h2 => ?_)
      · refine M.o_grd (by simp only [Bool.and_eq_true, decide_eq_true_eq]; omega) (M.o_grd (by simp only [Bool.and_eq_true, decide_eq_true_eq]; omega) (M.o_grd (by simp only [Bool.and_eq_true, decide_eq_true_eq]; omega) (M.o_pure (pr _ _ (by omega)))))
      · refine M.o_grd (by simp only [Bool.and_eq_true, decide_eq_true_eq]; omega) (M.o_pure (pr _ _ (by omega)))
    · refine M.o_grd (by simp only [Bool.and_eq_true, decide_eq_true_eq]; omega) (M.o_grd (by simp only [Bool.and_eq_true, decide_eq_true_eq]; omega) (M.o_grd (by simp only [Bool.and_eq_true, decide_eq_true_eq]; omega) (M.o_grd (by simp only [Bool.and_eq_true, decide_eq_true_eq]; omega) (M.o_grd (by simp only [Bool.and_eq_true, decide_eq_true_eq]; omega) ?_))))
      refine M.o_if (fun h2 => ?_) (fun h2 => ?_)
      · refine M.o_grd (by simp only [Bool.and_eq_true, decide_eq_true_eq]; omega) (M.o_grd (by simp only [Bool.and_eq_true, decide_eq_true_eq]; omega) (M.o_grd (by simp only [Bool.and_eq_true, decide_eq_true_eq]; omega) (M.o_pure (pr _ _ (by omega)))))
      · refine M.o_grd (by simp only [Bool.and_eq_true, decide_eq_true_eq]; omega) (M.o_pure (pr _ _ (by omega)))
theorem within_out {b : List UInt8} {c u x lo hi : Int} (h : SOk c u x) (hc : c ≤ 1000000000000) (h0 : -1000 ≤ lo) (h1 : lo ≤ hi) (h2 : hi ≤ 10000) : (m_nilometerkit_Stream_Within b u x lo hi).Out (fun y => SOk (c + 1) y.2.1 y.2.2 ∧ lo ≤ y.1 ∧ y.1 ≤ hi) := by
  unfold m_nilometerkit_Stream_Within
  refine M.o_grd (gA2 (by omega) (by omega)) (M.o_grd (gA2 (by omega) (by omega)) (M.o_bind (next_out h hc (by omega)) ?_))
  rintro ⟨r, u', x'⟩ ⟨k, hl, _⟩
  have := hl (by omega)
  dsimp only at this k ⊢
  exact M.o_grd (gA2 (by omega) (by omega)) (M.o_pure ⟨k, by dsimp only; omega, by dsimp only; omega⟩)
/-! ### Works -/
structure OfOk (i : Nat) (l : List Int) : Prop where
  few : l.length ≤ 5
  ahead : ∀ k ∈ l, 0 ≤ k ∧ k < (i : Int)
  once : l.Nodup
  early : i ≤ 2 → l = []
theorem made_of {b : List UInt8} {c u x : Int} (h : SOk c u x) (hc : c ≤ 1000000000) {i : Nat} (hi : i ≤ 1000) :
    (M.iter (m_nilometerlaw13_Made_b2 b i) (u, x, (i : Int) - 1, [])).Out (fun y => SOk (c + i) y.1 y.2.1 ∧ OfOk i y.2.2.2) := by
  refine M.o_iter (fun (m : Nat) (s : Int × Int × Int × List Int) => m = (s.2.2.1 + 1).toNat ∧ -1 ≤ s.2.2.1 ∧ s.2.2.1 < i ∧ SOk (c + (i : Int) - (s.2.2.1 + 1)) s.1 s.2.1 ∧ s.2.2.2.length ≤ 5 ∧ (∀ k ∈ s.2.2.2, s.2.2.1 < k ∧ k < (i : Int)) ∧ s.2.2.2.Nodup ∧ (i ≤ 2 → s.2.2.2 = [])) ?_ _ (u, x, (i : Int) - 1, []) ⟨rfl, by dsimp only; omega, by dsimp only; omega, h.mono (by dsimp only; omega), by simp, by simp, by simp, fun _ => rfl⟩
  rintro m ⟨u, x, k, l⟩ ⟨rfl, k0, k1, hs, h5, hk, hn, he⟩
  dsimp only at k0 k1 hs h5 hk hn he ⊢
  simp only [m_nilometerlaw13_Made_b2]
  refine M.o_if (fun hb => ?_) (fun hb => ?_)
  · simp only [Bool.and_eq_true, decide_eq_true_eq] at hb
    refine M.o_bind (next_out hs (by omega) (by omega)) ?_
    rintro ⟨r, u', x'⟩ ⟨ok, _, _⟩
    dsimp only at ok ⊢
    refine M.o_if (fun hr => ?_) (fun hr => ?_)
    · refine M.o_grdD (by simp only [List.length_cons, List.length_nil]; omega) (M.o_grd (gA2 (by omega) (by omega)) (M.o_pure ⟨k.toNat, by omega, ?_⟩))
      refine ⟨by dsimp only; omega, by dsimp only; omega, by dsimp only; omega, ok.mono (by dsimp only; omega), ?_, ?_, ?_, ?_⟩
      · simp only [List.length_append, List.length_cons, List.length_nil]; omega
      · intro y hy
        simp only [List.mem_append, List.mem_cons, List.not_mem_nil, or_false] at hy
        rcases hy with hy | hy
        · have := hk y hy; dsimp only; omega
        · subst hy; dsimp only; omega
      · dsimp only
        rw [List.nodup_append]
        refine ⟨hn, by simp, fun a ha b hb e => ?_⟩
        simp only [List.mem_cons, List.not_mem_nil, or_false] at hb
        have := hk a ha
        omega
      · intro h2; omega
    · refine M.o_grd (gA2 (by omega) (by omega)) (M.o_pure ⟨k.toNat, by omega, ?_⟩)
      exact ⟨by dsimp only; omega, by dsimp only; omega, by dsimp only; omega, ok.mono (by dsimp only; omega), h5, fun y hy => by have := hk y hy; dsimp only; omega, hn, he⟩
  · refine M.o_pure ⟨hs.mono (by omega), h5, fun y hy => ?_, hn, he⟩
    have := hk y hy
    omega
/-- What works of numbers are like. -/
structure MadeW (most : Int) (ws : List Work) : Prop where
  built : Built ws
  two : 2 ≤ ws.length
  most : (ws.length : Int) ≤ most
  small : ∀ i, i < ws.length → (ws.getD i default).base < 2000 ∧ (ws.getD i default).minutes < 60
  src : ∀ i, i < ws.length → i ≤ 2 → (ws.getD i default).of = []
theorem made_out {b : List UInt8} {c u x most : Int} (h : SOk c u x) (hc : c ≤ 100000000) (h2 : 2 ≤ most) (h30 : most ≤ 30) : (m_nilometerlaw13_Made b u x most).Out (fun y => MadeW most y.1 ∧ SOk (c + 2000) y.2.1 y.2.2) := by
  unfold m_nilometerlaw13_Made
  refine M.o_bind (within_out h (by omega) (by omega) h2 (by omega)) ?_
  rintro ⟨r, u1, x1⟩ ⟨hs, r0, r1⟩
  dsimp only at hs r0 r1 ⊢
  refine M.o_bind (P := fun y => MadeW most y.2.1 ∧ SOk (c + 2000) y.2.2.1 y.2.2.2) ?_ (fun y hy => M.o_pure hy)
  refine M.o_for r.toNat (fun i s => s.2.2.1 = i ∧ SOk (c + 1 + 40 * i) s.1 s.2.1 ∧ s.2.2.2.length = i ∧ (∀ j, j < i → BuiltAt j (s.2.2.2.getD j default) ∧ (s.2.2.2.getD j default).base < 2000 ∧ (s.2.2.2.getD j default).minutes < 60 ∧ (j ≤ 2 → (s.2.2.2.getD j default).of = []))) ?_ ?_ (s := (u1, x1, 0, [])) ⟨rfl, hs.mono (by omega), rfl, fun j hj => by omega⟩
  · rintro i ⟨u, x, j, l⟩ hi ⟨rfl, ok, hl, hj⟩
    dsimp only at hi ok hl hj ⊢
    simp only [m_nilometerlaw13_Made_b3]
    refine M.o_t (by simp; omega) (M.o_bind (next_out ok (by omega) (by omega)) ?_)
    rintro ⟨r3, u3, x3⟩ ⟨ok3, l3, _⟩
    dsimp only at ok3 l3 ⊢
    have l3 := l3 (by omega)
    refine M.o_bind (next_out ok3 (by omega) (by omega)) ?_
    rintro ⟨r4, u4, x4⟩ ⟨ok4, l4, _⟩
    dsimp only at ok4 l4 ⊢
    have l4 := l4 (by omega)
    refine M.o_grd (gA2 (by omega) (by omega)) (M.o_bind (made_of ok4 (by omega) (i := j) (by omega)) ?_)
    rintro ⟨u5, x5, la, lo⟩ ⟨ok5, hof⟩
    dsimp only at ok5 hof ⊢
    refine M.o_grdD (by simp only [List.length_cons, List.length_nil]; omega) (M.o_grd (gA2 (by omega) (by omega)) (M.o_pure ?_))
    refine ⟨rfl, ok5.mono (by omega), by simp [hl], fun k hk => ?_⟩
    dsimp only
    by_cases e : k < l.length
    · rw [getD_app_left _ _ e]
      exact hj k (by omega)
    · obtain rfl : k = l.length := by omega
      rw [getD_app_mid]
      refine ⟨⟨hof.few, ⟨l3.1, by dsimp only; omega⟩, ⟨l4.1, by dsimp only; omega⟩, ?_, hof.once⟩, l3.2, l4.2, ?_⟩
      · rw [hl]; exact hof.ahead
      · rw [hl]; exact hof.early
  · rintro ⟨u, x, j, l⟩ ⟨rfl, ok, hl, hj⟩
    dsimp only at ok hl hj ⊢
    simp only [m_nilometerlaw13_Made_b3]
    refine M.o_f (by simp; omega) (M.o_pure ⟨⟨⟨by dsimp only; omega, fun i hi => (hj i (Nat.lt_of_lt_of_eq hi hl)).1⟩, by dsimp only; omega, by dsimp only; omega, fun i hi => ⟨(hj i (Nat.lt_of_lt_of_eq hi hl)).2.1, (hj i (Nat.lt_of_lt_of_eq hi hl)).2.2.1⟩, fun i hi => (hj i (Nat.lt_of_lt_of_eq hi hl)).2.2.2⟩, ok.mono (by omega)⟩)
end Go.Proofs.Ytndobgodeicloaa
namespace Go.Nm
theorem noteV_other {f : Int → Option Note} {out : List Int} {i x : Int} (h0 : 0 ≤ i) (h1 : 0 ≤ x) (hne : i ≠ x) (d : Int) : (noteV f out i).getD x.toNat d = out.getD x.toNat d := by
  unfold noteV
  split
  · simp only [List.getD_eq_getElem?_getD, List.getElem?_set]
    rw [if_neg (by omega)]
  · rfl
theorem valStep_other {ws : List Work} {f : Int → Option Note} {out : List Int} {i x : Int} (h0 : 0 ≤ i) (h1 : 0 ≤ x) (hne : i ≠ x) (d : Int) : (valStep ws f out i).getD x.toNat d = out.getD x.toNat d := by
  unfold valStep
  split
  · exact noteV_other h0 h1 hne d
  · rw [← noteV_other (f := f) (out := out) h0 h1 hne d]
    simp only [List.getD_eq_getElem?_getD, List.getElem?_set]
    rw [if_neg (by omega)]
theorem valF_other {ws : List Work} {f : Int → Option Note} {x : Int} (h1 : 0 ≤ x) (d : Int) : ∀ (l out : List Int), (∀ y ∈ l, 0 ≤ y) → x ∉ l → (valF ws f l out).getD x.toNat d = out.getD x.toNat d
  | [], _, _, _ => rfl
  | i :: l, out, h0, hx => by
    rw [List.mem_cons, not_or] at hx
    show (valF ws f l (valStep ws f out i)).getD x.toNat d = _
    rw [valF_other h1 d l _ (fun y hy => h0 y (List.mem_cons_of_mem _ hy)) hx.2]
    exact valStep_other (h0 i (List.mem_cons_self ..)) h1 (fun e => hx.1 e.symm) d
theorem sumV_congr {a b : List Int} {base : Int} {of : List Int} (h : ∀ x ∈ of, a.getD x.toNat 0 = b.getD x.toNat 0) : ∀ j, j ≤ of.length → sumV a base of j = sumV b base of j
  | 0, _ => rfl
  | j + 1, hj => by
    simp only [sumV]
    rw [sumV_congr h j (by omega), h _ (getD_memN of (by omega) 0)]
theorem prod_bb {a b : Int} (h1 : 1 ≤ a) (h2 : a ≤ 5) (h3 : -1 ≤ b) (h4 : b ≤ 1000002) : -5 ≤ a * b ∧ a * b ≤ 5000010 := by
  have : a = 1 ∨ a = 2 ∨ a = 3 ∨ a = 4 ∨ a = 5 := by omega
  rcases this with rfl | rfl | rfl | rfl | rfl <;> omega
theorem sumV_bb {out : List Int} {base : Int} {of : List Int} (hb : 0 ≤ base ∧ base ≤ 1000002) (h5 : of.length ≤ 5) (hof : ∀ k ∈ of, -1 ≤ out.getD k.toNat 0 ∧ out.getD k.toNat 0 ≤ 1000002) : ∀ j : Nat, j ≤ of.length → -5 * (j : Int) ≤ sumV out base of j ∧ sumV out base of j ≤ 1000002 + 5000010 * (j : Int)
  | 0, _ => by simp only [sumV]; omega
  | j + 1, hj => by
    have ih := sumV_bb hb h5 hof j (by omega)
    have hm := hof _ (getD_memN of (i := j) (by omega) 0)
    have := prod_bb (a := (j : Int) + 1) (by omega) (by omega) hm.1 hm.2
    simp only [sumV]
    omega
/-- What a note says, or none. -/
def nv (o : Option Note) : Int := match o with | some n => n.value | none => -1
def nq (o : Option Note) : Int := match o with | some n => n.version | none => -1
theorem newF_at {l : List Note} (hr : rngB l = true) (i : Int) {k : Nat} (hk : k < l.length) :
    newF (l.take (k + 1)) i = if ((l.getD k default).work == i) && decide (nq (newF (l.take k) i) < (l.getD k default).version) then some (l.getD k default) else newF (l.take k) i := by
  rw [newF_next l (by omega)]
  have hv : 0 ≤ (l.getD k default).version := by
    have := List.all_eq_true.1 hr _ (getD_memN l (by omega : (k : Int) < _) default)
    simp only [inB, Bool.and_eq_true, decide_eq_true_eq] at this
    exact this.1.1
  generalize newF (l.take k) = f
  generalize l.getD k default = n at hv
  unfold newStep
  by_cases e : n.work = i
  · subst e
    rw [beq_self_eq_true, Bool.true_and]
    cases hf : f n.work with
    | none =>
      have : nq none < n.version := by simp only [nq]; omega
      rw [if_pos (by simp), if_pos (by simpa using this)]
      simp [updF]
    | some m =>
      have hq : nq (some m) = m.version := rfl
      rw [hq]
      have hg : ((some m).getD default : Note) = m := rfl
      have hs : (some m).isSome = true := rfl
      rw [hg, hs, Bool.not_true, Bool.false_or]
      cases decide (m.version < n.version) with
      | true => simp [updF]
      | false => simpa using hf
  · have e' : (n.work == i) = false := by simpa using e
    rw [e', Bool.false_and]
    cases (!(f n.work).isSome || decide (((f n.work).getD default).version < n.version)) with
    | true =>
      rw [if_pos rfl, if_neg (by decide)]
      unfold updF
      rw [if_neg (fun h => e h.symm)]
    | false => rw [if_neg (by decide), if_neg (by decide)]
theorem noteV_at {f : Int → Option Note} {out : List Int} {i : Int} (h0 : 0 ≤ i) (h1 : i < out.length) (hn : out.getD i.toNat 0 = -1) : (noteV f out i).getD i.toNat 0 = nv (f i) := by
  unfold noteV nv
  cases hf : f i with
  | none => simpa using hn
  | some n =>
    rw [if_pos (by simp), gset _ _ _ _ _ (by omega), if_pos rfl]
    simp
end Go.Nm
namespace Go.Nm
theorem work_num {ws : List Work} (h : rightE ws = 0) {i : Nat} (hi : i < ws.length) : (0 ≤ (ws.getD i default).base ∧ (ws.getD i default).base ≤ 1000002) ∧ (0 ≤ (ws.getD i default).minutes ∧ (ws.getD i default).minutes ≤ 10000) ∧ (ws.getD i default).of.length ≤ 5 := by
  unfold rightE at h
  split at h
  · omega
  · rename_i h0
    split at h
    · omega
    · rename_i h1
      have h3 : badAt ws i = false := by
        cases hb : badAt ws i with
        | false => rfl
        | true => exact absurd (List.any_eq_true.2 ⟨i, List.mem_range.2 hi, hb⟩) (by simpa using h1)
      unfold badAt badW at h3
      simp only [Bool.or_eq_false_iff, Bool.not_eq_false'] at h3
      have ha := h3.1.1
      have hb := h3.1.2
      simp only [inB, Bool.and_eq_true, decide_eq_true_eq] at ha hb
      simp only [Bool.or_eq_true, not_or, Bool.not_eq_true', Bool.not_eq_false] at h0
      have hc := List.all_eq_true.1 h0.2 _ (getD_memN ws (by omega : (i : Int) < _) default)
      simp only [decide_eq_true_eq] at hc
      exact ⟨ha, hb, by omega⟩
theorem newF_nv {l : List Note} (hr : rngB l = true) : ∀ k, (newF l k).isSome = true → 0 ≤ ((newF l k).getD default).value ∧ ((newF l k).getD default).value ≤ 1000002 := by
  intro k h
  have := newF_val (l := l) (by rw [hr]; rfl) l.length k
  rw [List.take_length] at this
  exact this h
end Go.Nm
namespace Go.Nm
variable {ws : List Work} {l e : List Note}
/-! ### Notes -/
def Uniq (l : List Note) : Prop := ∀ a ∈ l, ∀ b ∈ l, a.work = b.work → a.version = b.version → a = b
theorem Uniq.add {l l' : List Note} {n : Note} (h : Uniq l) (hm : ∀ a ∈ l', a ∈ l ∨ a = n) (hn : ∀ a ∈ l, ¬ (a.work = n.work ∧ a.version = n.version)) : Uniq l' := by
  intro a ha b hb h1 h2
  rcases hm a ha with ha | rfl <;> rcases hm b hb with hb | rfl
  · exact h a ha b hb h1 h2
  · exact absurd ⟨h1, h2⟩ (hn a ha)
  · exact absurd ⟨h1.symm, h2.symm⟩ (hn b hb)
  · rfl
structure NG (ws : List Work) (l : List Note) : Prop where
  few : l.length ≤ 200
  src : ∀ n ∈ l, 0 ≤ n.work ∧ n.work < (ws.length : Int) ∧ (ws.getD n.work.toNat default).of = []
  rng : ∀ n ∈ l, 0 ≤ n.version ∧ n.version ≤ 1000000 ∧ 0 ≤ n.value ∧ n.value ≤ 1000002
  uniq : Uniq l
theorem NG.arg (h : NG ws l) : argB ws l = true := by
  unfold argB
  rw [List.all_eq_true]
  intro n hn
  obtain ⟨h1, h2, h3⟩ := h.src n hn
  rw [h3]
  unfold inB
  simp only [Bool.and_eq_true, decide_eq_true_eq, List.length_nil]
  exact ⟨⟨h1, by omega⟩, rfl⟩
theorem NG.rg (h : NG ws l) : rngB l = true := by
  unfold rngB
  rw [List.all_eq_true]
  intro n hn
  obtain ⟨h1, h2, h3, h4⟩ := h.rng n hn
  unfold inB
  simp only [Bool.and_eq_true, decide_eq_true_eq]
  exact ⟨⟨h1, h2⟩, h3, h4⟩
theorem NG.tw (h : NG ws l) : (List.range l.length).any (twAt l) = false := by
  rw [List.any_eq_false]
  intro i hi ht
  have hi := List.mem_range.1 hi
  unfold twAt at ht
  obtain ⟨m, hm, hp⟩ := List.any_eq_true.1 ht
  have hb := getD_memN l (by omega : (i : Int) < _) default
  have ha := List.mem_of_mem_take hm
  unfold twP at hp
  simp only [Bool.and_eq_true, beq_iff_eq, Bool.not_eq_true', decide_eq_false_iff_not] at hp
  exact hp.2 (h.uniq m ha _ hb hp.1.1 hp.1.2)
theorem NG.err (h : NG ws l) (hO : openedE ws = 0) : valuesE ws l = 0 := by
  have := h.few
  unfold valuesE
  rw [if_neg (by simp [hO]), if_neg (by omega), h.arg, h.rg, h.tw]
  rfl
theorem NG.vals (h : NG ws l) (hO : openedE ws = 0) : valuesR ws l = valL ws l := by
  unfold valuesR
  rw [if_pos (h.err hO)]
theorem newF_some : ∀ (l : List Note) (f : Int → Option Note) (i : Int), ((f i).isSome = true ∨ ∃ n ∈ l, n.work = i) → (l.foldl newStep f i).isSome = true
  | [], f, i, h => by
    rcases h with h | ⟨n, hn, _⟩
    · exact h
    · simp at hn
  | m :: l, f, i, h => by
    refine newF_some l (newStep f m) i ?_
    have keep : (f i).isSome = true → (newStep f m i).isSome = true := by
      intro h
      unfold newStep
      split
      · unfold updF
        split
        · rfl
        · exact h
      · exact h
    rcases h with h | ⟨n, hn, rfl⟩
    · exact .inl (keep h)
    · rcases List.mem_cons.1 hn with rfl | hn
      · left
        unfold newStep
        cases hf : (f n.work).isSome with
        | true =>
          split
          · simp [updF]
          · exact hf
        | false => simp [updF]
      · exact .inr ⟨n, hn, rfl⟩
theorem newF_foldl : ∀ (e : List Note) (f : Int → Option Note) (i : Int), (∀ n ∈ e, n.work ≠ i) → e.foldl newStep f i = f i
  | [], _, _, _ => rfl
  | m :: e, f, i, h => by
    simp only [List.foldl_cons]
    rw [newF_foldl e _ i (fun n hn => h n (by simp [hn]))]
    have hm := h m (by simp)
    unfold newStep
    split
    · unfold updF
      rw [if_neg (fun h => hm h.symm)]
    · rfl
theorem newF_app {i : Int} (h : ∀ n ∈ e, n.work ≠ i) : newF (l ++ e) i = newF l i := by
  unfold newF
  rw [List.foldl_append]
  exact newF_foldl e _ i h
/-! ### Values -/
theorem val_eq (hO : openedE ws = 0) (f : Int → Option Note) {i : Int} (h0 : 0 ≤ i) (h1 : i < ws.length) :
    (valF ws f (orderP ws) (List.replicate ws.length (-1))).getD i.toNat 0 =
      if (((ws.getD i.toNat default).of.length : Int) == 0) || !((ws.getD i.toNat default).of.all fun k => (valF ws f (orderP ws) (List.replicate ws.length (-1))).getD k.toNat 0 != -1) then nv (f i)
      else sumV (valF ws f (orderP ws) (List.replicate ws.length (-1))) (ws.getD i.toNat default).base (ws.getD i.toNat default).of (ws.getD i.toNat default).of.length % 1000003 := by
  have hm := order_all hO h0 h1
  obtain ⟨l1, l2, hs⟩ := List.append_of_mem hm
  have hg := order_good ws
  have hof : ∀ k ∈ (ws.getD i.toNat default).of, k ∈ l1 := by
    have := hg.2.2 l1.length (by rw [hs]; simp)
    rw [hs] at this
    rw [show (l1 ++ i :: l2).getD l1.length 0 = i from by rw [List.getD_eq_getElem?_getD, List.getElem?_append_right (Nat.le_refl _), Nat.sub_self]; rfl, List.take_left] at this
    exact this
  have hnd := hg.1
  rw [hs, List.nodup_append] at hnd
  have hi2 : i ∉ l2 := (List.nodup_cons.1 hnd.2.1).1
  have hi1 : i ∉ l1 := fun hm => hnd.2.2 i hm i (by simp) rfl
  have hpos : ∀ y ∈ orderP ws, 0 ≤ y := fun y hy => (hg.2.1 y hy).1
  have hp1 : ∀ y ∈ l1, 0 ≤ y := fun y hy => hpos y (by rw [hs]; simp [hy])
  have hp2 : ∀ y ∈ l2, 0 ≤ y := fun y hy => hpos y (by rw [hs]; simp [hy])
  have hl : (valF ws f l1 (List.replicate ws.length (-1))).length = ws.length := by rw [valF_len]; simp
  have hsplit : valF ws f (orderP ws) (List.replicate ws.length (-1)) = valF ws f l2 (valStep ws f (valF ws f l1 (List.replicate ws.length (-1))) i) := by
    unfold valF
    rw [hs, List.foldl_append]
    rfl
  have hz : (valF ws f l1 (List.replicate ws.length (-1))).getD i.toNat 0 = -1 := by
    rw [valF_other h0 0 l1 _ hp1 hi1, getD_el _ (by rw [List.length_replicate]; omega)]
    simp
  have hk : ∀ k ∈ (ws.getD i.toNat default).of, (noteV f (valF ws f l1 (List.replicate ws.length (-1))) i).getD k.toNat 0 = (valF ws f (orderP ws) (List.replicate ws.length (-1))).getD k.toNat 0 := by
    intro k hk
    have hk1 := hof k hk
    have hk0 := hp1 k hk1
    have hne : i ≠ k := fun e => hi1 (e ▸ hk1)
    have hk2 : k ∉ l2 := fun hm => hnd.2.2 k hk1 k (by simp [hm]) rfl
    rw [hsplit, valF_other hk0 0 l2 _ hp2 hk2, valStep_other h0 hk0 hne, noteV_other h0 hk0 hne]
  have hall : ((ws.getD i.toNat default).of.all fun k => (noteV f (valF ws f l1 (List.replicate ws.length (-1))) i).getD k.toNat 0 != -1) = ((ws.getD i.toNat default).of.all fun k => (valF ws f (orderP ws) (List.replicate ws.length (-1))).getD k.toNat 0 != -1) := by
    rw [Bool.eq_iff_iff, List.all_eq_true, List.all_eq_true]
    exact ⟨fun hh x hx => by rw [← hk x hx]; exact hh x hx, fun hh x hx => by rw [hk x hx]; exact hh x hx⟩
  have hsv := sumV_congr (base := (ws.getD i.toNat default).base) hk (ws.getD i.toNat default).of.length (Nat.le_refl _)
  rw [← hall, ← hsv]
  rw [hsplit, valF_other h0 0 l2 _ hp2 hi2]
  unfold valStep
  split
  · exact noteV_at h0 (by omega) hz
  · rw [gset _ _ _ _ _ (by rw [noteV_len]; omega), if_pos rfl]
theorem valL_len (ws : List Work) (l : List Note) : (valL ws l).length = ws.length := by unfold valL; rw [valF_len]; simp
/-- Each source has a note. -/
def Full (ws : List Work) (l : List Note) : Prop := ∀ i, i < ws.length → (ws.getD i default).of = [] → ∃ n ∈ l, n.work = (i : Int)
theorem val_known (hB : Built ws) (hN : NG ws l) (hF : Full ws l) : ∀ i, i < ws.length → 0 ≤ (valL ws l).getD i 0 ∧ (valL ws l).getD i 0 ≤ 1000002 := by
  intro i
  induction i using Nat.strongRecOn with
  | _ i ih =>
    intro hi
    have he := val_eq hB.opened (newF l) (i := (i : Int)) (by omega) (by omega)
    rw [Int.toNat_natCast] at he
    have he : (valL ws l).getD i 0 = _ := he
    rw [he]
    by_cases h0 : (ws.getD i default).of = []
    · rw [if_pos (by rw [h0]; rfl)]
      have hs := newF_some l (fun _ => none) (i : Int) (.inr (hF i hi h0))
      have hv := newF_nv hN.rg (i : Int) hs
      have hs : (newF l (i : Int)).isSome = true := hs
      revert hs hv
      cases newF l (i : Int) with
      | none => intro _ h; simp at h
      | some n => intro hv _; exact hv
    · have hk : ((ws.getD i default).of.all fun k => (valF ws (newF l) (orderP ws) (List.replicate ws.length (-1))).getD k.toNat 0 != -1) = true := by
        rw [List.all_eq_true]
        intro k hk
        have ha := (hB.at_ i hi).ahead k hk
        have := ih k.toNat (by omega) (by omega)
        have h2 : 0 ≤ (valF ws (newF l) (orderP ws) (List.replicate ws.length (-1))).getD k.toNat 0 := this.1
        simp only [bne_iff_ne, ne_eq]
        omega
      have hz : (((ws.getD i default).of.length : Int) == 0) = false := by
        cases hc : (ws.getD i default).of with
        | nil => exact absurd hc h0
        | cons a b => simp; omega
      rw [if_neg (by rw [hk, hz]; decide)]
      omega
/-- What is not stale keeps its value. -/
theorem val_same (hB : Built ws) {rev : List Int} (he : ∀ n ∈ e, n.work ∈ rev) : ∀ i, i < ws.length → (staleL ws rev).getD i false = false → (valL ws (l ++ e)).getD i 0 = (valL ws l).getD i 0 := by
  intro i
  induction i using Nat.strongRecOn with
  | _ i ih =>
    intro hi hs
    have h1 := val_eq hB.opened (newF (l ++ e)) (i := (i : Int)) (by omega) (by omega)
    have h2 := val_eq hB.opened (newF l) (i := (i : Int)) (by omega) (by omega)
    rw [Int.toNat_natCast] at h1 h2
    have h1 : (valL ws (l ++ e)).getD i 0 = _ := h1
    have h2 : (valL ws l).getD i 0 = _ := h2
    have hst := stale_eq hB.opened rev (i := (i : Int)) (by omega) (by omega)
    rw [Int.toNat_natCast, hs] at hst
    have hst := hst.symm
    rw [Bool.or_eq_false_iff] at hst
    have hir : (i : Int) ∉ rev := by simpa using hst.1
    have hno := List.any_eq_false.1 hst.2
    have hof : ∀ k ∈ (ws.getD i default).of, (valF ws (newF (l ++ e)) (orderP ws) (List.replicate ws.length (-1))).getD k.toNat 0 = (valF ws (newF l) (orderP ws) (List.replicate ws.length (-1))).getD k.toNat 0 := by
      intro k hk
      have ha := (hB.at_ i hi).ahead k hk
      exact ih k.toNat (by omega) (by omega) (by simpa using hno k hk)
    have hall : ((ws.getD i default).of.all fun k => (valF ws (newF (l ++ e)) (orderP ws) (List.replicate ws.length (-1))).getD k.toNat 0 != -1) = ((ws.getD i default).of.all fun k => (valF ws (newF l) (orderP ws) (List.replicate ws.length (-1))).getD k.toNat 0 != -1) := by
      rw [Bool.eq_iff_iff, List.all_eq_true, List.all_eq_true]
      exact ⟨fun hh x hx => by rw [← hof x hx]; exact hh x hx, fun hh x hx => by rw [hof x hx]; exact hh x hx⟩
    rw [h1, h2, hall, sumV_congr hof _ (Nat.le_refl _), newF_app (l := l) (e := e) (i := (i : Int)) (fun n hn e => hir (e ▸ he n hn))]
/-! ### Lists in order -/
theorem asc_of {l : List Int} (h : l.Pairwise (· < ·)) : AscTo l l.length := by
  intro j h1 h2
  rw [getD_el l (by omega) 0, getD_el l h2 0]
  exact List.pairwise_iff_getElem.1 h (j - 1) j (by omega) h2 (by omega)
theorem listed_of {n : Nat} {l : List Int} (h : ∀ x ∈ l, 0 ≤ x ∧ x < (n : Int)) (ha : l.Pairwise (· < ·)) : listedE n l = 0 := by
  unfold listedE
  rw [if_neg, if_pos (asc_of ha)]
  rw [Bool.not_eq_true, Bool.not_eq_false', List.all_eq_true]
  intro x hx
  have := h x hx
  unfold inB
  simp only [Bool.and_eq_true, decide_eq_true_eq]
  omega
theorem pair_snoc {l : List Int} {x : Int} (h : l.Pairwise (· < ·)) (hx : ∀ y ∈ l, y < x) : (l ++ [x]).Pairwise (· < ·) := by
  rw [List.pairwise_append]
  exact ⟨h, by simp, fun a ha b hb => by rw [List.mem_singleton.1 hb]; exact hx a ha⟩
/-! ### Publications -/
theorem wdT_app (v : List Int) (p : List Pub) (x : Pub) : wdT v (p ++ [x]) p.length = wdT v p p.length := by
  unfold wdT
  congr 1
  refine List.filter_congr fun j hj => ?_
  rw [getD_app_left _ _ (List.mem_range.1 hj)]
theorem wdT_snoc (v : List Int) (p : List Pub) (x : Pub) : wdT v (p ++ [x]) (p.length + 1) = if wdAt v x = true then wdT v p p.length ++ [(p.length : Int)] else wdT v p p.length := by
  rw [wdT_next, getD_app_mid, wdT_app]
theorem wdT_mem {v : List Int} {p : List Pub} {n : Nat} {x : Int} : x ∈ wdT v p n ↔ 0 ≤ x ∧ x < n ∧ wdAt v (p.getD x.toNat default) = true := by
  unfold wdT
  simp only [List.mem_map, List.mem_filter, List.mem_range]
  constructor
  · rintro ⟨a, ⟨h1, h2⟩, rfl⟩
    exact ⟨by omega, by omega, by simpa using h2⟩
  · rintro ⟨h1, h2, h3⟩
    exact ⟨x.toNat, ⟨by omega, h3⟩, by omega⟩
theorem range_map_getD {α : Type} (l : List α) (d : α) : (List.range l.length).map (fun j => l.getD j d) = l := by
  refine List.ext_getElem (by simp) fun i h1 h2 => ?_
  simp only [List.getElem_map, List.getElem_range]
  exact getD_el l h2 d
theorem wdT_count (v : List Int) (p : List Pub) : (wdT v p p.length).length = p.countP (wdAt v) := by
  unfold wdT
  rw [List.length_map, ← List.countP_eq_length_filter]
  have h := congrArg (List.countP (wdAt v)) (range_map_getD p default)
  rw [List.countP_map] at h
  exact h
theorem withdrawn_ok {p : List Pub} (hv : valuesE ws l = 0) (hp : p.length ≤ 200) (hr : ∀ x ∈ p, 0 ≤ x.work ∧ x.work < (ws.length : Int)) : withdrawnE ws l p = 0 ∧ withdrawnR ws l p = wdT (valuesR ws l) p p.length := by
  have : pubB ws p = true := by
    unfold pubB
    rw [List.all_eq_true]
    intro x hx
    have := hr x hx
    unfold inB
    simp only [Bool.and_eq_true, decide_eq_true_eq]
    omega
  have hE : withdrawnE ws l p = 0 := by
    unfold withdrawnE
    rw [if_neg (by simp [hv]), if_neg (by omega), this]
    rfl
  exact ⟨hE, by unfold withdrawnR; rw [if_pos hE]⟩
end Go.Nm
namespace Go.Nm
structure NtOk (ws : List Work) (s : Nat) (l6 l7 : List Note) : Prop where
  src : ∀ n ∈ l6 ++ l7, 0 ≤ n.work ∧ n.work < (s : Int) ∧ (ws.getD n.work.toNat default).of = []
  rng : ∀ n ∈ l6 ++ l7, 0 ≤ n.version ∧ n.version ≤ 8 ∧ 0 ≤ n.value ∧ n.value < 2000
  uniq : Uniq (l6 ++ l7)
  all : ∀ i, i < s → (ws.getD i default).of = [] → ∃ n ∈ l6, n.work = (i : Int)
  len6 : l6.length ≤ s
  len7 : l7.length ≤ 8 * s
theorem NtOk.next {ws : List Work} {s : Nat} {l6 l7 : List Note} (h : NtOk ws s l6 l7) (hs : (ws.getD s default).of ≠ []) : NtOk ws (s + 1) l6 l7 :=
  ⟨fun n hn => by have := h.src n hn; exact ⟨this.1, by omega, this.2.2⟩, h.rng, h.uniq, fun i hi he => by
    by_cases e : i = s
    · subst e; exact absurd he hs
    · exact h.all i (by omega) he, by have := h.len6; omega, by have := h.len7; omega⟩
/-- Old notes of one source, up to a version. -/
structure OldOk (ws : List Work) (s v : Nat) (n0 : Note) (l6 l7 l : List Note) : Prop where
  src : ∀ b ∈ l, b ∈ l7 ∨ (b.work = (s : Int) ∧ 0 ≤ b.version ∧ b.version < (v : Int) ∧ 0 ≤ b.value ∧ b.value < 2000)
  uniq : Uniq ((l6 ++ [n0]) ++ l)
  len : l.length ≤ l7.length + v
theorem NtOk.start {ws : List Work} {s : Nat} {l6 l7 : List Note} (h : NtOk ws s l6 l7) {n0 : Note} (hw : n0.work = (s : Int)) : OldOk ws s 0 n0 l6 l7 l7 := by
  refine ⟨fun b hb => .inl hb, ?_, Nat.le_refl _⟩
  refine h.uniq.add (n := n0) (fun a ha => ?_) (fun a ha hh => ?_)
  · simp only [List.mem_append, List.mem_cons, List.not_mem_nil, or_false] at ha ⊢
    rcases ha with (ha | ha) | ha
    · exact .inl (.inl ha)
    · exact .inr ha
    · exact .inl (.inr ha)
  · have := h.src a ha
    rw [hw] at hh
    omega
theorem OldOk.skip {ws : List Work} {s v : Nat} {n0 : Note} {l6 l7 l : List Note} (h : OldOk ws s v n0 l6 l7 l) : OldOk ws s (v + 1) n0 l6 l7 l :=
  ⟨fun b hb => (h.src b hb).imp id fun x => ⟨x.1, x.2.1, by omega, x.2.2.2⟩, h.uniq, by have := h.len; omega⟩
theorem OldOk.put {ws : List Work} {s v : Nat} {n0 : Note} {l6 l7 l : List Note} (hN : NtOk ws s l6 l7) (h : OldOk ws s v n0 l6 l7 l) (hv : (v : Int) < n0.version) {z : Int} (z0 : 0 ≤ z) (z1 : z < 2000) :
    OldOk ws s (v + 1) n0 l6 l7 (l ++ [⟨(s : Int), (v : Int), z⟩]) := by
  refine ⟨fun b hb => ?_, ?_, by have := h.len; simp only [List.length_append, List.length_cons, List.length_nil]; omega⟩
  · rcases List.mem_append.1 hb with hb | hb
    · exact h.skip.src b hb
    · rw [List.mem_singleton] at hb
      subst hb
      exact .inr ⟨rfl, by dsimp only; omega, by dsimp only; omega, z0, z1⟩
  · refine h.uniq.add (n := ⟨(s : Int), (v : Int), z⟩) (fun a ha => ?_) (fun a ha hh => ?_)
    · rw [← List.append_assoc, List.mem_append, List.mem_singleton] at ha
      exact ha
    · dsimp only at hh
      simp only [List.mem_append, List.mem_cons, List.not_mem_nil, or_false] at ha
      rcases ha with (ha | ha) | ha
      · have := hN.src a (List.mem_append_left _ ha); omega
      · subst ha; omega
      · rcases h.src a ha with ha | ha
        · have := hN.src a (List.mem_append_right _ ha); omega
        · omega
theorem OldOk.done {ws : List Work} {s v : Nat} {n0 : Note} {l6 l7 l : List Note} (hN : NtOk ws s l6 l7) (h : OldOk ws s v n0 l6 l7 l) (hw : n0.work = (s : Int)) (hs : (ws.getD s default).of = [])
    (hv : 0 ≤ n0.version ∧ n0.version ≤ 8 ∧ 0 ≤ n0.value ∧ n0.value < 2000) (hv8 : (v : Int) ≤ 8) : NtOk ws (s + 1) (l6 ++ [n0]) l := by
  have hm : ∀ n ∈ (l6 ++ [n0]) ++ l, n ∈ l6 ++ l7 ∨ n = n0 ∨ (n.work = (s : Int) ∧ 0 ≤ n.version ∧ n.version < (v : Int) ∧ 0 ≤ n.value ∧ n.value < 2000) := by
    intro n hn
    simp only [List.mem_append, List.mem_cons, List.not_mem_nil, or_false] at hn ⊢
    rcases hn with (hn | hn) | hn
    · exact .inl (.inl hn)
    · exact .inr (.inl hn)
    · rcases h.src n hn with h1 | h1
      · exact .inl (.inr h1)
      · exact .inr (.inr h1)
  refine ⟨fun n hn => ?_, fun n hn => ?_, h.uniq, fun i hi he => ?_, ?_, ?_⟩
  · rcases hm n hn with h1 | h1 | h1
    · have := hN.src n h1; exact ⟨this.1, by omega, this.2.2⟩
    · subst h1; rw [hw]; exact ⟨by omega, by omega, by rw [Int.toNat_natCast]; exact hs⟩
    · rw [h1.1]; exact ⟨by omega, by omega, by rw [Int.toNat_natCast]; exact hs⟩
  · rcases hm n hn with h1 | h1 | h1
    · exact hN.rng n h1
    · subst h1; exact hv
    · omega
  · by_cases e : i = s
    · exact ⟨n0, by simp, by rw [hw, e]⟩
    · obtain ⟨n, h1, h2⟩ := hN.all i (by omega) he
      exact ⟨n, List.mem_append_left _ h1, h2⟩
  · have := hN.len6; simp only [List.length_append, List.length_cons, List.length_nil]; omega
  · have := hN.len7; have := h.len; omega
theorem NtOk.ng {ws : List Work} {l6 l7 : List Note} (h : NtOk ws ws.length l6 l7) (hl : ws.length ≤ 20) : NG ws (l6 ++ l7) :=
  ⟨by have := h.len6; have := h.len7; rw [List.length_append]; omega, h.src, fun n hn => by have := h.rng n hn; omega, h.uniq⟩
theorem NtOk.full {ws : List Work} {l6 l7 : List Note} (h : NtOk ws ws.length l6 l7) : Full ws (l6 ++ l7) := fun i hi he => by
  obtain ⟨n, h1, h2⟩ := h.all i hi he
  exact ⟨n, List.mem_append_left _ h1, h2⟩
theorem set_perm (l : List Int) {i j : Nat} (hi : i < l.length) (hj : j < l.length) : ((l.set i (l.getD j 0)).set j (l.getD i 0)).Perm l := by
  rw [getD_el l hi 0, getD_el l hj 0]
  exact List.set_set_perm hi hj
/-- The numbers from 0 to n - 1. -/
def upto (n : Nat) : List Int := (List.range n).map fun j : Nat => (j : Int)
theorem upto_succ (n : Nat) : upto (n + 1) = upto n ++ [(n : Int)] := by
  unfold upto
  rw [List.range_succ, List.map_append]
  rfl
theorem perm_rng {l : List Int} {n : Nat} (h : l.Perm (upto n)) : l.length = n ∧ ∀ x ∈ l, 0 ≤ x ∧ x < (n : Int) := by
  refine ⟨by rw [h.length_eq]; simp [upto], fun x hx => ?_⟩
  have := h.mem_iff.1 hx
  unfold upto at this
  obtain ⟨j, hj, rfl⟩ := List.mem_map.1 this
  have := List.mem_range.1 hj
  omega
end Go.Nm
namespace Go.Proofs.Ytndobgodeicloaa
open Go Go.Nm
variable {ws : List Work}
theorem noted_old {b : List UInt8} {c u x : Int} (h : SOk c u x) (hc : c ≤ 1000000000) {s : Nat} {r z : Int} {l6 l7 : List Note} (hN : NtOk ws s l6 l7) (hl : s ≤ 100) (hr : 0 ≤ r ∧ r ≤ 8) :
    (M.iter (m_nilometerlaw13_Noted_b2 b s r) (u, x, 0, l7)).Out (fun y => SOk (c + 20) y.1 y.2.1 ∧ OldOk ws s r.toNat ⟨(s : Int), r, z⟩ l6 l7 y.2.2.2) := by
  refine M.o_for r.toNat (fun i st => st.2.2.1 = i ∧ SOk (c + 2 * (i : Int)) st.1 st.2.1 ∧ OldOk ws s i ⟨(s : Int), r, z⟩ l6 l7 st.2.2.2) ?_ ?_ (s := (u, x, 0, l7)) ⟨rfl, h.mono (by omega), hN.start rfl⟩
  · rintro i ⟨u, x, j, l⟩ hi ⟨rfl, ok, ho⟩
    dsimp only at hi ok ho ⊢
    have h7 := hN.len7
    have ho7 := ho.len
    simp only [m_nilometerlaw13_Noted_b2]
    refine M.o_t (by simp; omega) (M.o_bind (next_out ok (by omega) (by omega)) ?_)
    rintro ⟨r4, u4, x4⟩ ⟨ok4, _, _⟩
    dsimp only at ok4 ⊢
    refine M.o_if (fun hb => ?_) (fun hb => ?_)
    · refine M.o_bind (next_out ok4 (by omega) (by omega)) ?_
      rintro ⟨r5, u5, x5⟩ ⟨ok5, l5, _⟩
      dsimp only at ok5 l5 ⊢
      have l5 := l5 (by omega)
      exact M.o_grdD (by simp only [List.length_cons, List.length_nil]; omega) (M.o_grd (gA2 (by omega) (by omega)) (M.o_pure ⟨rfl, ok5.mono (by omega), ho.put hN (by dsimp only; omega) l5.1 l5.2⟩))
    · exact M.o_grd (gA2 (by omega) (by omega)) (M.o_pure ⟨rfl, ok4.mono (by omega), ho.skip⟩)
  · rintro ⟨u, x, j, l⟩ ⟨rfl, ok, ho⟩
    dsimp only at ok ho ⊢
    simp only [m_nilometerlaw13_Noted_b2]
    exact M.o_f (by simp; omega) (M.o_pure ⟨ok.mono (by omega), ho⟩)
theorem noted_out {b : List UInt8} {c u x : Int} (h : SOk c u x) (hc : c ≤ 100000000) (hw : ws.length ≤ 30) :
    (m_nilometerlaw13_Noted b u x ws).Out (fun y => (∃ l6 l7, y.1 = l6 ++ l7 ∧ NtOk ws ws.length l6 l7) ∧ SOk (c + 1000) y.2.1 y.2.2) := by
  unfold m_nilometerlaw13_Noted
  refine M.o_bind (P := fun y => NtOk ws ws.length y.2.2.2.1 y.2.2.1 ∧ SOk (c + 1000) y.2.2.2.2.1 y.2.2.2.2.2) ?_ ?_
  · refine M.o_for ws.length (fun i st => st.1 = i ∧ SOk (c + 30 * (i : Int)) st.2.1 st.2.2.1 ∧ NtOk ws i st.2.2.2.1 st.2.2.2.2) ?_ ?_ (s := (0, u, x, [], [])) ⟨rfl, h.mono (by omega), ⟨by simp, by simp, fun a ha => by simp at ha, fun i hi => by omega, by simp, by simp⟩⟩
    · rintro i ⟨j, u, x, l6, l7⟩ hi ⟨rfl, ok, hN⟩
      dsimp only at hi ok hN ⊢
      simp only [m_nilometerlaw13_Noted_b3]
      refine M.o_t (by simpa using hi) (M.o_grdD (by omega) (M.o_if (fun hb => ?_) (fun hb => ?_)))
      · exact M.o_pure ⟨rfl, ok.mono (by omega), hN.next (fun e => by rw [e] at hb; simp at hb)⟩
      · have he : (ws.getD j default).of = [] := by
          simp only [decide_eq_false_iff_not] at hb
          exact List.eq_nil_of_length_eq_zero (by omega)
        refine M.o_bind (next_out ok (by omega) (by omega)) ?_
        rintro ⟨r2, u2, x2⟩ ⟨ok2, l2, _⟩
        dsimp only at ok2 l2 ⊢
        have l2 := l2 (by omega)
        refine M.o_bind (next_out ok2 (by omega) (by omega)) ?_
        rintro ⟨r3, u3, x3⟩ ⟨ok3, l3, _⟩
        dsimp only at ok3 l3 ⊢
        have l3 := l3 (by omega)
        have h6 := hN.len6
        refine M.o_grdD (by simp only [List.length_cons, List.length_nil]; omega) (M.o_bind (noted_old (z := r3) ok3 (by omega) hN (by omega) (by omega)) ?_)
        rintro ⟨u5, x5, la, lo⟩ ⟨ok5, ho⟩
        dsimp only at ok5 ho ⊢
        exact M.o_pure ⟨rfl, ok5.mono (by omega), ho.done hN rfl he ⟨l2.1, by dsimp only; omega, l3.1, l3.2⟩ (by omega)⟩
    · rintro ⟨j, u, x, l6, l7⟩ ⟨rfl, ok, hN⟩
      dsimp only at ok hN ⊢
      simp only [m_nilometerlaw13_Noted_b3]
      exact M.o_f (by simp) (M.o_pure ⟨hN, ok.mono (by omega)⟩)
  · rintro ⟨l8, l9, l10, l11, u, x⟩ ⟨hN, ok⟩
    dsimp only at hN ok ⊢
    have := hN.len6
    have := hN.len7
    exact M.o_grdD (by omega) (M.o_pure ⟨⟨l11, l10, rfl, hN⟩, ok⟩)
theorem mixed_out {b : List UInt8} {c u x : Int} (h : SOk c u x) (hc : c ≤ 100000000) {n : Nat} (hn : n ≤ 10000) :
    (m_nilometerkit_Mixed b u x (n : Int)).Out (fun y => y.1.Perm (upto n) ∧ SOk (c + n) y.2.1 y.2.2) := by
  unfold m_nilometerkit_Mixed
  refine M.o_bind (P := fun y => y.2.1.Perm (upto n) ∧ SOk (c + n) y.2.2.1 y.2.2.2) ?_ (fun y hy => M.o_pure hy)
  refine M.o_for n (fun i st => st.2.2.1 = i ∧ SOk (c + (i : Int)) st.1 st.2.1 ∧ st.2.2.2.Perm (upto i)) ?_ ?_ (s := (u, x, 0, [])) ⟨rfl, h.mono (by omega), List.Perm.refl _⟩
  · rintro i ⟨u, x, j, l⟩ hi ⟨rfl, ok, hp⟩
    dsimp only at hi ok hp ⊢
    have hl := (perm_rng hp).1
    simp only [m_nilometerkit_Mixed_b0]
    refine M.o_t (by simpa using hi) (M.o_grd (gA2 (by omega) (by omega)) (M.o_bind (next_out ok (by omega) (by omega)) ?_))
    rintro ⟨r, u', x'⟩ ⟨ok', lt, _⟩
    dsimp only at ok' lt ⊢
    have lt := lt (by omega)
    have hl2 : (l ++ [(j : Int)]).length = j + 1 := by simp [hl]
    refine M.o_grdD (by simp only [List.length_cons, List.length_nil]; omega) (M.o_grd (gA2 lt.1 (by omega)) (M.o_grdD (by omega) (M.o_grd (gA2 lt.1 (by rw [List.length_set]; omega)) (M.o_pure ⟨rfl, ok'.mono (by omega), ?_⟩))))
    dsimp only
    rw [upto_succ]
    exact (set_perm _ (by omega) (by omega)).trans (List.Perm.append_right _ hp)
  · rintro ⟨u, x, j, l⟩ ⟨rfl, ok, hp⟩
    dsimp only at ok hp ⊢
    simp only [m_nilometerkit_Mixed_b0]
    exact M.o_f (by simp) (M.o_pure ⟨hp, ok⟩)
end Go.Proofs.Ytndobgodeicloaa
namespace Go.Proofs.Ytndobgodeicloaa
open Go Go.Nm
theorem awake_ends : m_nilometerlaw13_awake.Ends true := ⟨40, by kernel_rfl⟩
end Go.Proofs.Ytndobgodeicloaa
section
set_option maxRecDepth 100000
set_option maxHeartbeats 16000000
namespace Go.Proofs.Ytndobgodeicloaa
open Go Go.Nm
def m_nilometerlaw13_NotesHeld_b0 (published : List UInt8) (r3 : List Work) (l : List Int) (r5 : Int) : (Int × Int × Nat × (List Pub) × (List Int)) → M ((Int × Int × Nat × (List Pub) × (List Int)) ⊕ ((List Pub) × (List Int) × (List Int) × (List Pub) × Int × Int)) := fun (s, s2, s3, l2, l3) =>
  bif decide ((s3 : Int) < r5) then (
  M.bind (m_nilometerkit_Stream_Next published s s2 (r3.length : Int)) fun (r6, q14, q24) =>
  M.grd (decide ((0 : Int) ≤ r6) && decide (r6 < (l.length : Int))) <|
  M.bind (m_nilometerkit_Stream_Next published q14 q24 5) fun (r7, q15, q25) =>
  bif r7 == 0 then (
  M.grd (decide ((-9223372036854775808 : Int) ≤ ((l.getD (Int.toNat r6) 0) + 1)) && decide (((l.getD (Int.toNat r6) 0) + 1) ≤ (9223372036854775807 : Int))) <|
  M.grd (decide ((l3.length + ([(s3 : Int)]).length) * 8 ≤ 140737488355328)) <|
  M.grd (decide ((l2.length + ([(⟨(r6 : Int), ((l.getD (Int.toNat r6) 0) + 1 : Int)⟩ : Pub)]).length) * 16 ≤ 140737488355328)) <|
  M.grd (decide ((-9223372036854775808 : Int) ≤ ((s3 : Int) + 1)) && decide (((s3 : Int) + 1) ≤ (9223372036854775807 : Int))) <|
  M.pure (.inl (q15, q25, s3 + 1, l2 ++ ([(⟨(r6 : Int), ((l.getD (Int.toNat r6) 0) + 1 : Int)⟩ : Pub)]), l3 ++ ([(s3 : Int)]))))
  else (
  M.grd (decide ((l2.length + ([(⟨(r6 : Int), (l.getD (Int.toNat r6) 0 : Int)⟩ : Pub)]).length) * 16 ≤ 140737488355328)) <|
  M.grd (decide ((-9223372036854775808 : Int) ≤ ((s3 : Int) + 1)) && decide (((s3 : Int) + 1) ≤ (9223372036854775807 : Int))) <|
  M.pure (.inl (q15, q25, s3 + 1, l2 ++ ([(⟨(r6 : Int), (l.getD (Int.toNat r6) 0 : Int)⟩ : Pub)]), l3))))
  else (
  M.pure (.inr (l2, l3, l3, l2, s, s2)))
def m_nilometerlaw13_NotesHeld_b1 (newer : List UInt8) (r3 : List Work) : (Int × Int × (List Note) × Nat × (List Int)) → M ((Int × Int × (List Note) × Nat × (List Int)) ⊕ (Int × Int × (List Int) × (List Note) × (List Int) × (List Note))) := fun (s6, s7, l10, s8, l9) =>
  bif decide ((s8 : Int) < (r3.length : Int)) then (
  M.grd (decide ((s8 : Int) < (r3.length : Int))) <|
  bif (((r3.getD s8 default).of).length : Int) == 0 then (
  M.bind (m_nilometerkit_Stream_Next newer s6 s7 2) fun (r25, q118, q218) =>
  bif (((((r3.getD s8 default).of).length : Int) == 0) && (r25 == 0)) then (
  M.grd (decide ((l9.length + ([(s8 : Int)]).length) * 8 ≤ 140737488355328)) <|
  M.bind (m_nilometerkit_Stream_Next newer q118 q218 2000) fun (r9, q17, q27) =>
  M.grd (decide ((l10.length + ([(⟨(s8 : Int), (20 : Int), (r9 : Int)⟩ : Note)]).length) * 24 ≤ 140737488355328)) <|
  M.pure (.inl (q17, q27, l10 ++ ([(⟨(s8 : Int), (20 : Int), (r9 : Int)⟩ : Note)]), s8 + 1, l9 ++ ([(s8 : Int)]))))
  else (
  M.pure (.inl (q118, q218, l10, s8 + 1, l9))))
  else (
  bif (((((r3.getD s8 default).of).length : Int) == 0) && ((0 : Int) == 0)) then (
  M.grd (decide ((l9.length + ([(s8 : Int)]).length) * 8 ≤ 140737488355328)) <|
  M.bind (m_nilometerkit_Stream_Next newer s6 s7 2000) fun (r9, q17, q27) =>
  M.grd (decide ((l10.length + ([(⟨(s8 : Int), (20 : Int), (r9 : Int)⟩ : Note)]).length) * 24 ≤ 140737488355328)) <|
  M.pure (.inl (q17, q27, l10 ++ ([(⟨(s8 : Int), (20 : Int), (r9 : Int)⟩ : Note)]), s8 + 1, l9 ++ ([(s8 : Int)]))))
  else (
  M.pure (.inl (s6, s7, l10, s8 + 1, l9)))))
  else (
  M.pure (.inr (s6, s7, l9, l10, l9, l10)))
def m_nilometerlaw13_NotesHeld_b2 (l6 : List Int) (l7 : List Pub) (l15 : List Int) (l16 : List Int) (l17 : List Int) : Nat → M (Nat ⊕ (Unit ⊕ Unit)) := fun s11 =>
  bif decide ((s11 : Int) < (l7.length : Int)) then (
  M.grd (decide ((s11 : Int) < (l7.length : Int))) <|
  M.grd (decide ((0 : Int) ≤ ((l7.getD s11 default).work)) && decide (((l7.getD s11 default).work) < (l16.length : Int))) <|
  bif (((l17.contains (s11 : Int)) != ((l16.getD (Int.toNat ((l7.getD s11 default).work)) 0) != ((l7.getD s11 default).value))) || (((l17.contains (s11 : Int)) && (!(l6.contains (s11 : Int)))) && (!(l15.contains ((l7.getD s11 default).work))))) then (
  M.pure (.inr (.inl ())))
  else (
  M.pure (.inl (s11 + 1))))
  else (
  M.pure (.inr (.inr ())))
def m_nilometerlaw13_NotesHeld_b3 (l7 : List Pub) (r16 : List Int) : ((List Pub) × Nat) → M (((List Pub) × Nat) ⊕ ((List Pub) × (List Pub))) := fun (l18, s12) =>
  bif decide ((s12 : Int) < (r16.length : Int)) then (
  M.grd (decide ((s12 : Int) < (r16.length : Int))) <|
  M.grd (decide ((0 : Int) ≤ (r16.getD s12 0)) && decide ((r16.getD s12 0) < (l7.length : Int))) <|
  M.grd (decide ((s12 : Int) < (l18.length : Int))) <|
  M.pure (.inl (l18.set s12 (l7.getD (Int.toNat (r16.getD s12 0)) default), s12 + 1)))
  else (
  M.pure (.inr (l18, l18)))
def m_nilometerlaw13_NotesHeld_b4 (l17 : List Int) (r16 : List Int) (l21 : List Int) : Nat → M (Nat ⊕ (Unit ⊕ Unit)) := fun s13 =>
  bif decide ((s13 : Int) < (l21.length : Int)) then (
  M.grd (decide ((s13 : Int) < (l21.length : Int))) <|
  M.grd ((!(!((decide ((l21.getD s13 0) < 0)) || (decide ((r16.length : Int) ≤ (l21.getD s13 0))))) || (decide ((0 : Int) ≤ (l21.getD s13 0)) && decide ((l21.getD s13 0) < (r16.length : Int))))) <|
  bif (((decide ((l21.getD s13 0) < 0)) || (decide ((r16.length : Int) ≤ (l21.getD s13 0)))) || (!(l17.contains (r16.getD (Int.toNat (l21.getD s13 0)) 0)))) then (
  M.pure (.inr (.inl ())))
  else (
  M.pure (.inl (s13 + 1))))
  else (
  M.pure (.inr (.inr ())))
def m_nilometerlaw13_NotesHeld (numbers : List UInt8) (newer : List UInt8) (published : List UInt8) : M Bool :=
  M.bind (m_nilometerkit_New numbers) fun (r1, r2) =>
  M.bind (m_nilometerkit_New newer) fun (r12, r22) =>
  M.bind (m_nilometerkit_New published) fun (r13, r23) =>
  M.bind (m_nilometerlaw13_Made numbers r1 r2 14) fun (r3, q1, q2) =>
  M.bind (m_nilometerlaw13_Noted numbers q1 q2 r3) fun (r4, q12, q22) =>
  M.bind (M.pure (valuesR r3 r4, valuesE r3 r4)) fun (l, e) =>
  bif ((e != 0) || ((l.length : Int) != (r3.length : Int))) then (
  M.pure false)
  else (
  M.bind (m_nilometerkit_Stream_Within published r13 r23 1 12) fun (r5, q13, q23) =>
  M.bind (M.iter (m_nilometerlaw13_NotesHeld_b0 published r3 l r5) (q13, q23, 0, [], [])) fun (l4, l5, l6, l7, s4, s5) =>
  M.bind (M.pure (withdrawnR r3 r4 l7, withdrawnE r3 r4 l7)) fun (l8, e2) =>
  bif ((e2 != 0) || (!(decide (l8 = l6)))) then (
  M.pure false)
  else (
  M.grd (decide (r4.length ≤ 1000000)) <|
  M.bind (M.iter (m_nilometerlaw13_NotesHeld_b1 newer r3) (r12, r22, r4, 0, [])) fun (s9, s10, l11, l12, l13, l14) =>
  M.bind (M.pure (staleR r3 l13, askedE r3 l13)) fun (l15, e3) =>
  M.bind (M.pure (valuesR r3 l14, valuesE r3 l14)) fun (l16, e4) =>
  M.bind (M.pure (withdrawnR r3 l14 l7, withdrawnE r3 l14 l7)) fun (l17, e5) =>
  bif ((((e3 != 0) || (e4 != 0)) || (e5 != 0)) || ((l16.length : Int) != (r3.length : Int))) then (
  M.pure false)
  else (
  M.bind (M.iter (m_nilometerlaw13_NotesHeld_b2 l6 l7 l15 l16 l17) 0) fun x_ => match x_ with
  | (.inl (_ : Unit)) => (
  M.pure false)
  | (.inr (_ : Unit)) => (
  M.bind (m_nilometerkit_Mixed newer s9 s10 (l7.length : Int)) fun (r16, q112, q212) =>
  M.grd (decide ((0 : Int) ≤ (l7.length : Int)) && decide ((16 : Int) * (l7.length : Int) ≤ 281474976710656) && decide ((l7.length : Int) ≤ (9223372036854775807 : Int))) <|
  M.bind (M.iter (m_nilometerlaw13_NotesHeld_b3 l7 r16) (List.replicate (l7.length) (default : Pub), 0)) fun (l19, l20) =>
  M.bind (M.pure (withdrawnR r3 l14 l20, withdrawnE r3 l14 l20)) fun (l21, e6) =>
  bif ((e6 != 0) || ((l21.length : Int) != (l17.length : Int))) then (
  M.pure false)
  else (
  M.bind (M.iter (m_nilometerlaw13_NotesHeld_b4 l17 r16 l21) 0) fun x_ => match x_ with
  | (.inl (_ : Unit)) => (
  M.pure false)
  | (.inr (_ : Unit)) => (
  M.bind (m_nilometerlaw13_awake) fun r17 =>
  M.pure r17))))))
theorem nilometerlaw13_NotesHeld_ok {R : List Chunk} {C_numbers : Cells} {v_numbers : Value} {C_newer : Cells} {v_newer : Value} {C_published : Cells} {v_published : Value} (numbers : List UInt8) (newer : List UInt8) (published : List UInt8) (hC_numbers : Reads R C_numbers) (hs_numbers : Sl C_numbers v_numbers numbers) (hC_newer : Reads R C_newer) (hs_newer : Sl C_newer v_newer newer) (hC_published : Reads R C_published) (hs_published : Sl C_published v_published published) {r : Bool} (hM : (m_nilometerlaw13_NotesHeld numbers newer published).Ends r) (w : World) (H : St w w [] R) : Ret Try.prog 5 #[v_numbers, v_newer, v_published] w fun v w' => ∃ (y0 : Bool), y0 = r ∧ v = B y0 ∧ St w w' [] R := by
 refine ret_of_W Try.func5 rfl rfl rfl ?_
 refine W.seq <| W.region rfl <| sA (B false) rfl <| s_nil <| W.seq <| W.region rfl <| sM v_numbers rfl ?_
 obtain ⟨r2z, hx1z, hM⟩ := M.e_bind hM
 refine s_call cf40 [v_numbers] rfl (nilometerkit_New_ok numbers (hC_numbers.app _) hs_numbers hx1z _ (St.give (T := []) H rfl)) ?_
 rintro vq w3z ⟨r1, r2, nb0_1, hr4z, hvq, H2_⟩
 subst hr4z
 subst vq
 try dsimp only at hM
 replace H : St w w3z [cBlk nb0_1 [v_numbers, I r1, I r2] 158] R := H.back H2_ rfl
 clear H2_
 refine sM v_newer rfl ?_
 obtain ⟨r6z, hx5z, hM⟩ := M.e_bind hM
 refine s_call cf40 [v_newer] rfl (nilometerkit_New_ok newer (hC_newer.app _) hs_newer hx5z _ (St.give (T := [cBlk nb0_1 [v_numbers, I r1, I r2] 158]) H rfl)) ?_
 rintro vq w7z ⟨r12, r22, nb0_2, hr8z, hvq, H2_⟩
 subst hr8z
 subst vq
 try dsimp only at hM
 replace H : St w w7z [cBlk nb0_2 [v_newer, I r12, I r22] 158, cBlk nb0_1 [v_numbers, I r1, I r2] 158] R := H.back H2_ rfl
 clear H2_
 refine sM v_published rfl ?_
 obtain ⟨r10z, hx9z, hM⟩ := M.e_bind hM
 refine s_call cf40 [v_published] rfl (nilometerkit_New_ok published (hC_published.app _) hs_published hx9z _ (St.give (T := [cBlk nb0_2 [v_newer, I r12, I r22] 158, cBlk nb0_1 [v_numbers, I r1, I r2] 158]) H rfl)) ?_
 rintro vq w11z ⟨r13, r23, nb0_3, hr12z, hvq, H2_⟩
 subst hr12z
 subst vq
 try dsimp only at hM
 replace H : St w w11z [cBlk nb0_3 [v_published, I r13, I r23] 158, cBlk nb0_2 [v_newer, I r12, I r22] 158, cBlk nb0_1 [v_numbers, I r1, I r2] 158] R := H.back H2_ rfl
 clear H2_
 refine sA (Pz nb0_1) rfl <| sA (Pz nb0_2) rfl <| sA (Pz nb0_3) rfl <| s_nil <| W.seq <| W.region rfl <| sM (Pz nb0_1) rfl ?_
 obtain ⟨r14z, hx13z, hM⟩ := M.e_bind hM
 refine s_call cf41 [Pz nb0_1, I 14] rfl (nilometerlaw13_Made_ok numbers r1 r2 14 (hC_numbers.app _) hs_numbers hx13z _ (St.give (L := [cBlk nb0_1 [v_numbers, I r1, I r2] 158, cBlk nb0_3 [v_published, I r13, I r23] 158, cBlk nb0_2 [v_newer, I r12, I r22] 158]) (A := [cBlk nb0_1 [v_numbers, I r1, I r2] 158]) (T := [cBlk nb0_3 [v_published, I r13, I r23] 158, cBlk nb0_2 [v_newer, I r12, I r22] 158]) (H.pick [2, 0, 1] (by decide) rfl) rfl)) ?_
 rintro vq w15z ⟨r3, q1, q2, u0_4, rr1_5, Bs2_6, hr16z, hvq, H2_, hf17z⟩
 subst hr16z
 subst vq
 try dsimp only at hM
 replace H : St w w15z [cOwn (α := Raw 2) 60 u0_4 rr1_5, cRo Bs2_6, cBlk nb0_1 [v_numbers, I q1, I q2] 158, cBlk nb0_3 [v_published, I r13, I r23] 158, cBlk nb0_2 [v_newer, I r12, I r22] 158] R := H.pick [2, 0, 1] (by decide) rfl |>.back H2_ rfl
 clear H2_
 refine sA u0_4 rfl <| s_nil <| W.seq <| W.region rfl <| sM (Pz nb0_1) rfl <| sM u0_4 rfl ?_
 obtain ⟨r19z, hx18z, hM⟩ := M.e_bind hM
 refine s_call cf42 [Pz nb0_1, u0_4] rfl (nilometerlaw13_Noted_ok numbers q1 q2 r3 (hC_numbers.app _) hs_numbers (Reads.sup (Reads.of (k := 0) rfl ownLe) (Reads.of (k := 1) rfl roLe)) (rowSl rfl (H.get (k := 0) rfl) (roLe _ (H.get (k := 1) rfl)) hf17z) hx18z _ (St.give (L := [cBlk nb0_1 [v_numbers, I q1, I q2] 158, cOwn (α := Raw 2) 60 u0_4 rr1_5, cRo Bs2_6, cBlk nb0_3 [v_published, I r13, I r23] 158, cBlk nb0_2 [v_newer, I r12, I r22] 158]) (A := [cBlk nb0_1 [v_numbers, I q1, I q2] 158]) (T := [cOwn (α := Raw 2) 60 u0_4 rr1_5, cRo Bs2_6, cBlk nb0_3 [v_published, I r13, I r23] 158, cBlk nb0_2 [v_newer, I r12, I r22] 158]) (H.pick [2, 0, 1, 3, 4] (by decide) rfl) rfl)) ?_
 rintro vq w20z ⟨r4, q12, q22, u0_7, hr21z, hvq, H2_⟩
 subst hr21z
 subst vq
 try dsimp only at hM
 replace H : St w w20z [cOwn (α := Note) 30 u0_7 r4, cBlk nb0_1 [v_numbers, I q12, I q22] 158, cOwn (α := Raw 2) 60 u0_4 rr1_5, cRo Bs2_6, cBlk nb0_3 [v_published, I r13, I r23] 158, cBlk nb0_2 [v_newer, I r12, I r22] 158] R := H.pick [2, 0, 1, 3, 4] (by decide) rfl |>.back H2_ rfl
 clear H2_
 refine sA u0_7 rfl <| s_nil <| W.seq <| W.region rfl <| sM u0_4 rfl <| sM u0_7 rfl ?_
 obtain ⟨⟨l, e⟩, hx25z, hM⟩ := M.e_bind hM
 obtain ⟨hq26z, hq27z⟩ := Prod.mk.inj (M.e_pure hx25z)
 try dsimp only at hM
 refine s_call cf21 [u0_4, u0_7] rfl (by have hc_ := (Values_any _ ((rowSl rfl (H.get (k := 2) rfl) (roLe _ (H.get (k := 3) rfl)) hf17z).mono (Cells.sup_le (ownLe _ (H.get (k := 2) rfl)) (roLe _ (H.get (k := 3) rfl)))) ((ownSl (H.get (k := 0) rfl)).mono (ownLe _ (H.get (k := 0) rfl)))); rw [hq26z, hq27z] at hc_; exact hc_) ?_
 rintro _ w22z ⟨u23z, rfl, hs24z, hx_⟩
 obtain ⟨Bs_8, H, hs24z⟩ := H.fresh hx_ hs24z
 clear hx_
 have hl_hs24z := hs24z.len_le
 refine sM (.tuple #[u23z, I e]) rfl <| s_val (x_ext (vs := [u23z, I e]) (v := u23z) rfl rfl) <| s_val (x_ext (vs := [u23z, I e]) (v := I e) rfl rfl) <| sA u23z rfl <| sA (I e) rfl <| s_nil <| W.seq <| W.seq <| W.region rfl <| sM (I e) rfl <| sC e 0 (e != 0) rfl rfl rfl <| sM (B (e != 0)) rfl ?_
 refine g_val (!(e != 0)) (gy_f rfl) (fun hg => x_mv (v := u23z) rfl) <| g_val (!(e != 0)) (gy_f rfl) (fun hg => x_lenS T34.und (gd_of (c := !(e != 0)) hg (u23z)) hs24z) <| g_val (!(e != 0)) (gy_f rfl) (fun hg => x_mv (v := u0_4) rfl) <| g_val (!(e != 0)) (gy_f rfl) (fun hg => x_lenS T22.und (gd_of (c := !(e != 0)) hg (u0_4)) (rowSl rfl (H.get (k := 3) rfl) (roLe _ (H.get (k := 4) rfl)) hf17z)) <| g_val (!(e != 0)) (gy_f rfl) (fun hg => x_cmp (kd := .i64) (a := (l.length : Int)) (b := (r3.length : Int)) (r := (l.length : Int) != (r3.length : Int)) (gd_of (c := !(e != 0)) hg (I (l.length : Int))) (gd_of (c := !(e != 0)) hg (I (r3.length : Int))) rfl) <| s_val (x_por (b := e != 0) (r := (l.length : Int) != (r3.length : Int)) rfl rfl (fun hb => gd_of (c := !(e != 0)) (by simp_all) (B ((l.length : Int) != (r3.length : Int))))) <| s_nil ?_
 refine W.cond ((e != 0) || ((l.length : Int) != (r3.length : Int))) rfl (fun c30z => ?_) (fun c30z => ?_)
 ·replace hM := M.e_t hM c30z
  refine W.seq <| W.region rfl <| sA (B false) rfl <| s_nil ?_
  refine W.ret ?_
  have hr_ := M.e_pure hM
  exact ⟨_, resE_tmp rfl, ⟨false, hr_, rfl, (H.pick [] (by decide) rfl)⟩⟩
 replace hM := M.e_f hM c30z
 refine W.skip <| W.seq <| W.region rfl <| sA (.slice none 0 0) rfl <| s_nil <| W.seq <| W.region rfl <| sA (.slice none 0 0) rfl <| s_nil <| W.seq <| W.seq <| W.region rfl ?_
 refine sM (Pz nb0_3) rfl ?_
 obtain ⟨r32z, hx31z, hM⟩ := M.e_bind hM
 refine s_call cf43 [Pz nb0_3, I 1, I 12] rfl (nilometerkit_Stream_Within_ok published r13 r23 1 12 (hC_published.app _) hs_published hx31z _ (St.give (L := [cBlk nb0_3 [v_published, I r13, I r23] 158, cRo Bs_8, cOwn (α := Note) 30 u0_7 r4, cBlk nb0_1 [v_numbers, I q12, I q22] 158, cOwn (α := Raw 2) 60 u0_4 rr1_5, cRo Bs2_6, cBlk nb0_2 [v_newer, I r12, I r22] 158]) (A := [cBlk nb0_3 [v_published, I r13, I r23] 158]) (T := [cRo Bs_8, cOwn (α := Note) 30 u0_7 r4, cBlk nb0_1 [v_numbers, I q12, I q22] 158, cOwn (α := Raw 2) 60 u0_4 rr1_5, cRo Bs2_6, cBlk nb0_2 [v_newer, I r12, I r22] 158]) (H.pick [5, 0, 1, 2, 3, 4, 6] (by decide) rfl) rfl)) ?_
 rintro vq w33z ⟨r5, q13, q23, hr34z, hvq, H2_⟩
 subst hr34z
 subst vq
 try dsimp only at hM
 replace H : St w w33z [cBlk nb0_3 [v_published, I q13, I q23] 158, cRo Bs_8, cOwn (α := Note) 30 u0_7 r4, cBlk nb0_1 [v_numbers, I q12, I q22] 158, cOwn (α := Raw 2) 60 u0_4 rr1_5, cRo Bs2_6, cBlk nb0_2 [v_newer, I r12, I r22] 158] R := H.pick [5, 0, 1, 2, 3, 4, 6] (by decide) rfl |>.back H2_ rfl
 clear H2_
 refine sM (I 0) rfl <| s_nil <| W.block ?_
 replace H : St w w33z [cOwn (α := Pub) 33 (.slice none 0 0) ([]), cBlk nb0_3 [v_published, I q13, I q23] 158, cRo Bs_8, cOwn (α := Note) 30 u0_7 r4, cBlk nb0_1 [v_numbers, I q12, I q22] 158, cOwn (α := Raw 2) 60 u0_4 rr1_5, cRo Bs2_6, cBlk nb0_2 [v_newer, I r12, I r22] 158] R := H.nilOwn (α := Pub) 33
 replace H : St w w33z [cOwn (α := Int) 3 (.slice none 0 0) ([]), cOwn (α := Pub) 33 (.slice none 0 0) ([]), cBlk nb0_3 [v_published, I q13, I q23] 158, cRo Bs_8, cOwn (α := Note) 30 u0_7 r4, cBlk nb0_1 [v_numbers, I q12, I q22] 158, cOwn (α := Raw 2) 60 u0_4 rr1_5, cRo Bs2_6, cBlk nb0_2 [v_newer, I r12, I r22] 158] R := H.nilOwn (α := Int) 3
 obtain ⟨ex35z, hi36z, hk37z⟩ := M.e_bind hM
 obtain ⟨m0_, hi36z⟩ := M.e_iter hi36z
 refine W.loop (fun m σ W => ∃ (s : Int) (s2 : Int) (s3 : Nat) (l2 : List Pub) (l3 : List Int) (v_l2 : Value) (v_l3 : Value) (ρ : Env), σ = upds ρ [(8, Pz nb0_2), (9, Pz nb0_3), (10, u0_4), (11, u0_7), (12, u23z), (14, v_l2), (15, v_l3), (65, I r5), (66, I (s3 : Int))] ∧ M.iterN (m_nilometerlaw13_NotesHeld_b0 published r3 l r5) m (s, s2, s3, l2, l3) = some ex35z ∧ St w W [cOwn (α := Int) 3 v_l3 l3, cOwn (α := Pub) 33 v_l2 l2, cBlk nb0_3 [v_published, I s, I s2] 158, cRo Bs_8, cOwn (α := Note) 30 u0_7 r4, cBlk nb0_1 [v_numbers, I q12, I q22] 158, cOwn (α := Raw 2) 60 u0_4 rr1_5, cRo Bs2_6, cBlk nb0_2 [v_newer, I r12, I r22] 158] R) ?_ ?_
 ·exact ⟨_, q13, q23, 0, [], [], (.slice none 0 0), (.slice none 0 0), _, upds_of _ _ ⟨rfl, rfl, rfl, rfl, rfl, rfl, rfl, rfl, rfl, trivial⟩, hi36z, H⟩
 rintro m40z σ w38z ⟨s, s2, s3, l2, l3, v_l2, v_l3, ρ, rfl, hI39z, H⟩
 obtain ⟨m41z, lt42z, x43z, hM, hN44z⟩ := M.e_iterN hI39z
 simp only [m_nilometerlaw13_NotesHeld_b0] at hM
 clear hI39z
 refine W.seq <| W.region rfl <| sC (s3 : Int) r5 (decide ((s3 : Int) < r5)) rfl rfl rfl <| s_nil <| W.seq ?_
 refine W.cond (decide ((s3 : Int) < r5)) rfl (fun c45z => ?_) (fun c45z => ?_)
 ·replace hM := M.e_t hM c45z
  simp only [qz1, qz2, qz3, qz4, qz5, qz6, ne_eq, qz7] at c45z
  refine W.skip <| W.seq <| W.block <| W.seq <| W.region rfl <| sM (I (s3 : Int)) rfl <| sA (I (s3 : Int)) rfl <| s_nil <| W.seq <| W.region rfl <| sM (Pz nb0_3) rfl <| sM u0_4 rfl ?_
  have hl46z := ((rowSl rfl (H.get (k := 6) rfl) (roLe _ (H.get (k := 7) rfl)) hf17z)).len_le
  refine s_val (x_lenS T22.und rfl (rowSl rfl (H.get (k := 6) rfl) (roLe _ (H.get (k := 7) rfl)) hf17z)) ?_
  obtain ⟨r48z, hx47z, hM⟩ := M.e_bind hM
  refine s_call cf44 [Pz nb0_3, I (r3.length : Int)] rfl (nilometerkit_Stream_Next_ok published s s2 (r3.length : Int) (hC_published.app _) hs_published hx47z _ (St.give (L := [cBlk nb0_3 [v_published, I s, I s2] 158, cOwn (α := Int) 3 v_l3 l3, cOwn (α := Pub) 33 v_l2 l2, cRo Bs_8, cOwn (α := Note) 30 u0_7 r4, cBlk nb0_1 [v_numbers, I q12, I q22] 158, cOwn (α := Raw 2) 60 u0_4 rr1_5, cRo Bs2_6, cBlk nb0_2 [v_newer, I r12, I r22] 158]) (A := [cBlk nb0_3 [v_published, I s, I s2] 158]) (T := [cOwn (α := Int) 3 v_l3 l3, cOwn (α := Pub) 33 v_l2 l2, cRo Bs_8, cOwn (α := Note) 30 u0_7 r4, cBlk nb0_1 [v_numbers, I q12, I q22] 158, cOwn (α := Raw 2) 60 u0_4 rr1_5, cRo Bs2_6, cBlk nb0_2 [v_newer, I r12, I r22] 158]) (H.pick [2, 0, 1, 3, 4, 5, 6, 7, 8] (by decide) rfl) rfl)) ?_
  rintro vq w49z ⟨r6, q14, q24, hr50z, hvq, H2_⟩
  subst hr50z
  subst vq
  try dsimp only at hM
  replace H : St w w49z [cBlk nb0_3 [v_published, I q14, I q24] 158, cOwn (α := Int) 3 v_l3 l3, cOwn (α := Pub) 33 v_l2 l2, cRo Bs_8, cOwn (α := Note) 30 u0_7 r4, cBlk nb0_1 [v_numbers, I q12, I q22] 158, cOwn (α := Raw 2) 60 u0_4 rr1_5, cRo Bs2_6, cBlk nb0_2 [v_newer, I r12, I r22] 158] R := H.pick [2, 0, 1, 3, 4, 5, 6, 7, 8] (by decide) rfl |>.back H2_ rfl
  clear H2_
  refine s_val (x_bld (ps := [(0, I r6)]) (zs := [I 0, I 0]) (L' := [I r6, I 0]) rfl Try.underlying33 Al33 rfl (Bd33 Try.underlying33) (.cons (cs := [I r6]) rfl rfl rfl rfl rfl <| .nil)) ?_
  refine t_alloc (cs := [I 0, I 0]) H Al33 rfl ?_
  intro b_9 w51z H
  refine t_st (k := 0) (b := b_9) (off := 0) (cs := [I 0, I 0]) (vs := [I r6, I 0]) (cs' := [I r6, I 0]) (v := .agg #[I r6, I 0]) (L' := [cBlk b_9 [I r6, I 0] 33, cBlk nb0_3 [v_published, I q14, I q24] 158, cOwn (α := Int) 3 v_l3 l3, cOwn (α := Pub) 33 v_l2 l2, cRo Bs_8, cOwn (α := Note) 30 u0_7 r4, cBlk nb0_1 [v_numbers, I q12, I q22] 158, cOwn (α := Raw 2) 60 u0_4 rr1_5, cRo Bs2_6, cBlk nb0_2 [v_newer, I r12, I r22] 158]) H rfl rfl rfl Sz33 rfl rfl rfl rfl rfl rfl ?_
  intro w52z H
  refine s_nil <| W.seq <| W.region rfl <| sM u23z rfl <| s_val (x_fa (a := Pz b_9) (v := Pz b_9) rfl (fa_blk (o := 0) Fd33_0 Sz3)) <| s_val (x_ld (p := Pz b_9) (v := I r6) rfl (ldb_sc Sc3 (H.blk (k := 0) rfl) rfl)) ?_
  obtain ⟨sd53z, hM⟩ := M.e_grd hM
  simp only [Bool.and_eq_true, decide_eq_true_eq] at sd53z
  refine s_val (x_ix (a := u23z) (b := I r6) (v := vat u23z 1 (Int.toNat r6)) rfl rfl (Sl.ix (α := Int) T34.und T34.size hs24z (by omega) (by omega))) <| s_val (x_ld (p := vat u23z 1 (Int.toNat r6)) (v := I (l.getD (Int.toNat r6) 0)) rfl (ld_sc Sc3 (At.mono (Int_at hs24z (i := r6) (by omega) (by omega)) (roLe _ (H.get (k := 4) rfl))))) <| s_val (x_fa (a := Pz b_9) (v := Oz b_9 1) rfl (fa_blk (o := 0) Fd33_1 Sz3)) ?_
  refine t_st (k := 0) (b := b_9) (off := 1) (cs := [I r6, I 0]) (vs := [I (l.getD (Int.toNat r6) 0)]) (cs' := [I r6, I (l.getD (Int.toNat r6) 0)]) (v := I (l.getD (Int.toNat r6) 0)) (L' := [cBlk b_9 [I r6, I (l.getD (Int.toNat r6) 0)] 33, cBlk nb0_3 [v_published, I q14, I q24] 158, cOwn (α := Int) 3 v_l3 l3, cOwn (α := Pub) 33 v_l2 l2, cRo Bs_8, cOwn (α := Note) 30 u0_7 r4, cBlk nb0_1 [v_numbers, I q12, I q22] 158, cOwn (α := Raw 2) 60 u0_4 rr1_5, cRo Bs2_6, cBlk nb0_2 [v_newer, I r12, I r22] 158]) H rfl rfl rfl Sz3 rfl rfl rfl rfl rfl rfl ?_
  intro w54z H
  refine s_nil <| W.seq <| W.seq <| W.region rfl <| sM (Pz nb0_3) rfl ?_
  obtain ⟨r56z, hx55z, hM⟩ := M.e_bind hM
  refine s_call cf44 [Pz nb0_3, I 5] rfl (nilometerkit_Stream_Next_ok published q14 q24 5 (hC_published.app _) hs_published hx55z _ (St.give (L := [cBlk nb0_3 [v_published, I q14, I q24] 158, cBlk b_9 [I r6, I (l.getD (Int.toNat r6) 0)] 33, cOwn (α := Int) 3 v_l3 l3, cOwn (α := Pub) 33 v_l2 l2, cRo Bs_8, cOwn (α := Note) 30 u0_7 r4, cBlk nb0_1 [v_numbers, I q12, I q22] 158, cOwn (α := Raw 2) 60 u0_4 rr1_5, cRo Bs2_6, cBlk nb0_2 [v_newer, I r12, I r22] 158]) (A := [cBlk nb0_3 [v_published, I q14, I q24] 158]) (T := [cBlk b_9 [I r6, I (l.getD (Int.toNat r6) 0)] 33, cOwn (α := Int) 3 v_l3 l3, cOwn (α := Pub) 33 v_l2 l2, cRo Bs_8, cOwn (α := Note) 30 u0_7 r4, cBlk nb0_1 [v_numbers, I q12, I q22] 158, cOwn (α := Raw 2) 60 u0_4 rr1_5, cRo Bs2_6, cBlk nb0_2 [v_newer, I r12, I r22] 158]) (H.pick [1, 0, 2, 3, 4, 5, 6, 7, 8, 9] (by decide) rfl) rfl)) ?_
  rintro vq w57z ⟨r7, q15, q25, hr58z, hvq, H2_⟩
  subst hr58z
  subst vq
  try dsimp only at hM
  replace H : St w w57z [cBlk nb0_3 [v_published, I q15, I q25] 158, cBlk b_9 [I r6, I (l.getD (Int.toNat r6) 0)] 33, cOwn (α := Int) 3 v_l3 l3, cOwn (α := Pub) 33 v_l2 l2, cRo Bs_8, cOwn (α := Note) 30 u0_7 r4, cBlk nb0_1 [v_numbers, I q12, I q22] 158, cOwn (α := Raw 2) 60 u0_4 rr1_5, cRo Bs2_6, cBlk nb0_2 [v_newer, I r12, I r22] 158] R := H.pick [1, 0, 2, 3, 4, 5, 6, 7, 8, 9] (by decide) rfl |>.back H2_ rfl
  clear H2_
  refine sC r7 0 (r7 == 0) rfl rfl rfl <| s_nil ?_
  refine W.cond (r7 == 0) rfl (fun c59z => ?_) (fun c59z => ?_)
  ·replace hM := M.e_t hM c59z
   simp only [qz1, qz2, qz3, qz4, qz5, qz6, ne_eq, qz7] at c59z
   refine W.seq <| W.region rfl <| s_val (x_fa (a := Pz b_9) (v := Oz b_9 1) rfl (fa_blk (o := 0) Fd33_1 Sz3)) <| s_val (x_ld (p := Oz b_9 1) (v := I (l.getD (Int.toNat r6) 0)) rfl (ldb_sc Sc3 (H.blk (k := 1) rfl) rfl)) ?_
   obtain ⟨sd60z, hM⟩ := M.e_grd hM
   simp only [Bool.and_eq_true, decide_eq_true_eq] at sd60z
   refine s_val (x_ari (a := l.getD (Int.toNat r6) 0) (b := 1) (r := (l.getD (Int.toNat r6) 0) + 1) rfl rfl rfl (by omega)) <| s_val (x_fa (a := Pz b_9) (v := Oz b_9 1) rfl (fa_blk (o := 0) Fd33_1 Sz3)) ?_
   refine t_st (k := 1) (b := b_9) (off := 1) (cs := [I r6, I (l.getD (Int.toNat r6) 0)]) (vs := [I ((l.getD (Int.toNat r6) 0) + 1)]) (cs' := [I r6, I ((l.getD (Int.toNat r6) 0) + 1)]) (v := I ((l.getD (Int.toNat r6) 0) + 1)) (L' := [cBlk nb0_3 [v_published, I q15, I q25] 158, cBlk b_9 [I r6, I ((l.getD (Int.toNat r6) 0) + 1)] 33, cOwn (α := Int) 3 v_l3 l3, cOwn (α := Pub) 33 v_l2 l2, cRo Bs_8, cOwn (α := Note) 30 u0_7 r4, cBlk nb0_1 [v_numbers, I q12, I q22] 158, cOwn (α := Raw 2) 60 u0_4 rr1_5, cRo Bs2_6, cBlk nb0_2 [v_newer, I r12, I r22] 158]) H rfl rfl rfl Sz3 rfl rfl rfl rfl rfl rfl ?_
   intro w61z H
   refine s_nil <| W.region rfl <| sM v_l3 rfl <| sM (I (s3 : Int)) rfl ?_
   refine t_bs (α := Int) T34 [I (s3 : Int)] [(s3 : Int)] H rfl (.cons rfl (Flat.rep_enc _ (s3 : Int)) <| .nil) rfl rfl rfl ?_
   intro v62z w63z H
   obtain ⟨sd64z, hM⟩ := M.e_grd hM
   simp only [Bool.and_eq_true, decide_eq_true_eq] at sd64z
   refine t_app (α := Int) (k := 3) (l := l3) (l2 := [(s3 : Int)]) (l' := l3 ++ ([(s3 : Int)])) (vy := v62z) T34 rfl H rfl rfl rfl (ownSl (H.get (k := 0) rfl)) (ownLe _ (H.get (k := 0) rfl)) (rfl) (by first | omega | (simp only [List.length_nil] at *; omega)) ?_
   intro v65z w66z H
   replace H : St w w66z [cOwn (α := Int) 3 v62z ([(s3 : Int)]), cBlk nb0_3 [v_published, I q15, I q25] 158, cBlk b_9 [I r6, I ((l.getD (Int.toNat r6) 0) + 1)] 33, cOwn (α := Int) 3 v65z (l3 ++ ([(s3 : Int)])), cOwn (α := Pub) 33 v_l2 l2, cRo Bs_8, cOwn (α := Note) 30 u0_7 r4, cBlk nb0_1 [v_numbers, I q12, I q22] 158, cOwn (α := Raw 2) 60 u0_4 rr1_5, cRo Bs2_6, cBlk nb0_2 [v_newer, I r12, I r22] 158] R := H
   refine sA v65z rfl <| s_nil <| W.region rfl <| sM v_l2 rfl <| s_val (x_ld (p := Pz b_9) (v := .agg #[I r6, I ((l.getD (Int.toNat r6) 0) + 1)]) rfl (ldb_ag (ds := [I r6, I ((l.getD (Int.toNat r6) 0) + 1)]) Ag33 Sz33 (H.blk (k := 2) rfl) rfl rfl)) ?_
   refine t_bs (α := Pub) T24 [.agg #[I r6, I ((l.getD (Int.toNat r6) 0) + 1)]] [(⟨(r6 : Int), ((l.getD (Int.toNat r6) 0) + 1 : Int)⟩ : Pub)] H rfl (.cons rfl (Flat.rep_enc _ (⟨(r6 : Int), ((l.getD (Int.toNat r6) 0) + 1 : Int)⟩ : Pub)) <| .nil) rfl rfl rfl ?_
   intro v67z w68z H
   obtain ⟨sd69z, hM⟩ := M.e_grd hM
   simp only [Bool.and_eq_true, decide_eq_true_eq] at sd69z
   refine t_app (α := Pub) (k := 5) (l := l2) (l2 := [(⟨(r6 : Int), ((l.getD (Int.toNat r6) 0) + 1 : Int)⟩ : Pub)]) (l' := l2 ++ ([(⟨(r6 : Int), ((l.getD (Int.toNat r6) 0) + 1 : Int)⟩ : Pub)])) (vy := v67z) T24 rfl H rfl rfl rfl (ownSl (H.get (k := 0) rfl)) (ownLe _ (H.get (k := 0) rfl)) (rfl) (by first | omega | (simp only [List.length_nil] at *; omega)) ?_
   intro v70z w71z H
   replace H : St w w71z [cOwn (α := Pub) 33 v67z ([(⟨(r6 : Int), ((l.getD (Int.toNat r6) 0) + 1 : Int)⟩ : Pub)]), cOwn (α := Int) 3 v62z ([(s3 : Int)]), cBlk nb0_3 [v_published, I q15, I q25] 158, cBlk b_9 [I r6, I ((l.getD (Int.toNat r6) 0) + 1)] 33, cOwn (α := Int) 3 v65z (l3 ++ ([(s3 : Int)])), cOwn (α := Pub) 33 v70z (l2 ++ ([(⟨(r6 : Int), ((l.getD (Int.toNat r6) 0) + 1 : Int)⟩ : Pub)])), cRo Bs_8, cOwn (α := Note) 30 u0_7 r4, cBlk nb0_1 [v_numbers, I q12, I q22] 158, cOwn (α := Raw 2) 60 u0_4 rr1_5, cRo Bs2_6, cBlk nb0_2 [v_newer, I r12, I r22] 158] R := H
   refine sA v70z rfl <| s_nil <| W.region rfl ?_
   obtain ⟨sd72z, hM⟩ := M.e_grd hM
   simp only [Bool.and_eq_true, decide_eq_true_eq] at sd72z
   refine s_val (x_ari (a := (s3 : Int)) (b := 1) (r := (s3 : Int) + 1) rfl rfl rfl (by omega)) <| sM (I ((s3 : Int) + 1)) rfl <| s_nil ?_
   exact ⟨m41z, lt42z, q15, q25, s3 + 1, l2 ++ ([(⟨(r6 : Int), ((l.getD (Int.toNat r6) 0) + 1 : Int)⟩ : Pub)]), l3 ++ ([(s3 : Int)]), v70z, v65z, _, upds_of _ _ ⟨rfl, rfl, rfl, rfl, rfl, rfl, rfl, rfl, rfl, trivial⟩, M.e_inl hM hN44z, (H.pick [4, 5, 2, 6, 7, 8, 9, 10, 11] (by decide) rfl)⟩
  replace hM := M.e_f hM c59z
  simp only [qz1, qz2, qz3, qz4, qz5, qz6, ne_eq, qz7] at c59z
  refine W.skip <| W.region rfl <| sM v_l2 rfl <| s_val (x_ld (p := Pz b_9) (v := .agg #[I r6, I (l.getD (Int.toNat r6) 0)]) rfl (ldb_ag (ds := [I r6, I (l.getD (Int.toNat r6) 0)]) Ag33 Sz33 (H.blk (k := 1) rfl) rfl rfl)) ?_
  refine t_bs (α := Pub) T24 [.agg #[I r6, I (l.getD (Int.toNat r6) 0)]] [(⟨(r6 : Int), (l.getD (Int.toNat r6) 0 : Int)⟩ : Pub)] H rfl (.cons rfl (Flat.rep_enc _ (⟨(r6 : Int), (l.getD (Int.toNat r6) 0 : Int)⟩ : Pub)) <| .nil) rfl rfl rfl ?_
  intro v73z w74z H
  obtain ⟨sd75z, hM⟩ := M.e_grd hM
  simp only [Bool.and_eq_true, decide_eq_true_eq] at sd75z
  refine t_app (α := Pub) (k := 4) (l := l2) (l2 := [(⟨(r6 : Int), (l.getD (Int.toNat r6) 0 : Int)⟩ : Pub)]) (l' := l2 ++ ([(⟨(r6 : Int), (l.getD (Int.toNat r6) 0 : Int)⟩ : Pub)])) (vy := v73z) T24 rfl H rfl rfl rfl (ownSl (H.get (k := 0) rfl)) (ownLe _ (H.get (k := 0) rfl)) (rfl) (by first | omega | (simp only [List.length_nil] at *; omega)) ?_
  intro v76z w77z H
  replace H : St w w77z [cOwn (α := Pub) 33 v73z ([(⟨(r6 : Int), (l.getD (Int.toNat r6) 0 : Int)⟩ : Pub)]), cBlk nb0_3 [v_published, I q15, I q25] 158, cBlk b_9 [I r6, I (l.getD (Int.toNat r6) 0)] 33, cOwn (α := Int) 3 v_l3 l3, cOwn (α := Pub) 33 v76z (l2 ++ ([(⟨(r6 : Int), (l.getD (Int.toNat r6) 0 : Int)⟩ : Pub)])), cRo Bs_8, cOwn (α := Note) 30 u0_7 r4, cBlk nb0_1 [v_numbers, I q12, I q22] 158, cOwn (α := Raw 2) 60 u0_4 rr1_5, cRo Bs2_6, cBlk nb0_2 [v_newer, I r12, I r22] 158] R := H
  refine sA v76z rfl <| s_nil <| W.region rfl ?_
  obtain ⟨sd78z, hM⟩ := M.e_grd hM
  simp only [Bool.and_eq_true, decide_eq_true_eq] at sd78z
  refine s_val (x_ari (a := (s3 : Int)) (b := 1) (r := (s3 : Int) + 1) rfl rfl rfl (by omega)) <| sM (I ((s3 : Int) + 1)) rfl <| s_nil ?_
  exact ⟨m41z, lt42z, q15, q25, s3 + 1, l2 ++ ([(⟨(r6 : Int), (l.getD (Int.toNat r6) 0 : Int)⟩ : Pub)]), l3, v76z, v_l3, _, upds_of _ _ ⟨rfl, rfl, rfl, rfl, rfl, rfl, rfl, rfl, rfl, trivial⟩, M.e_inl hM hN44z, (H.pick [3, 4, 1, 5, 6, 7, 8, 9, 10] (by decide) rfl)⟩
 replace hM := M.e_f hM c45z
 simp only [qz1, qz2, qz3, qz4, qz5, qz6, ne_eq, qz7] at c45z
 refine W.exit ?_
 have hX79z := M.e_inr hM hN44z
 subst hX79z
 replace hM := hk37z
 try dsimp only at hM
 refine W.seq <| W.region rfl <| sM u0_4 rfl <| sM u0_7 rfl <| sM v_l2 rfl ?_
 obtain ⟨⟨l8, e2⟩, hx83z, hM⟩ := M.e_bind hM
 obtain ⟨hq84z, hq85z⟩ := Prod.mk.inj (M.e_pure hx83z)
 try dsimp only at hM
 refine s_call cf26 [u0_4, u0_7, v_l2] rfl (by have hc_ := (Withdrawn_any _ ((rowSl rfl (H.get (k := 6) rfl) (roLe _ (H.get (k := 7) rfl)) hf17z).mono (Cells.sup_le (ownLe _ (H.get (k := 6) rfl)) (roLe _ (H.get (k := 7) rfl)))) ((ownSl (H.get (k := 4) rfl)).mono (ownLe _ (H.get (k := 4) rfl))) ((ownSl (H.get (k := 1) rfl)).mono (ownLe _ (H.get (k := 1) rfl)))); rw [hq84z, hq85z] at hc_; exact hc_) ?_
 rintro _ w80z ⟨u81z, rfl, hs82z, hx_⟩
 obtain ⟨Bs_16, H, hs82z⟩ := H.fresh hx_ hs82z
 clear hx_
 have hl_hs82z := hs82z.len_le
 refine sM (.tuple #[u81z, I e2]) rfl <| s_val (x_ext (vs := [u81z, I e2]) (v := u81z) rfl rfl) <| s_val (x_ext (vs := [u81z, I e2]) (v := I e2) rfl rfl) <| sA u81z rfl <| sA (I e2) rfl <| s_nil <| W.seq <| W.seq <| W.region rfl <| sM (I e2) rfl <| sC e2 0 (e2 != 0) rfl rfl rfl <| sM (B (e2 != 0)) rfl ?_
 refine g_val (!(e2 != 0)) (gy_f rfl) (fun hg => x_mv (v := u81z) rfl) <| g_val (!(e2 != 0)) (gy_f rfl) (fun hg => x_mv (v := v_l3) rfl) ?_
 refine t_gcall (!(e2 != 0)) (gy_f rfl) cf25 (B (decide (l8 = l3))) (fun _ => [u81z, v_l3]) (fun hg => lst2 (gd_of (c := !(e2 != 0)) hg (u81z)) (gd_of (c := !(e2 != 0)) hg (v_l3))) H (fun hg => Ret.mono (same_int _ (hs82z.mono (roLe _ (H.get (k := 0) rfl))) ((ownSl (H.get (k := 1) rfl)).mono (ownLe _ (H.get (k := 1) rfl)))) fun v_ w_ ⟨hv_, hx_⟩ => ⟨hv_, H.ext hx_⟩) ?_
 intro w86z H
 refine g_val (!(e2 != 0)) (gy_f rfl) (fun hg => x_not (b := decide (l8 = l3)) (gd_of (c := !(e2 != 0)) hg (B (decide (l8 = l3))))) <| s_val (x_por (b := e2 != 0) (r := !(decide (l8 = l3))) rfl rfl (fun hb => gd_of (c := !(e2 != 0)) (by simp_all) (B (!(decide (l8 = l3)))))) <| s_nil ?_
 refine W.cond ((e2 != 0) || (!(decide (l8 = l3)))) rfl (fun c87z => ?_) (fun c87z => ?_)
 ·replace hM := M.e_t hM c87z
  refine W.seq <| W.region rfl <| sA (B false) rfl <| s_nil ?_
  refine W.ret ?_
  have hr_ := M.e_pure hM
  exact ⟨_, resE_tmp rfl, ⟨false, hr_, rfl, (H.pick [] (by decide) rfl)⟩⟩
 replace hM := M.e_f hM c87z
 refine W.skip <| W.seq <| W.region rfl <| sA (.slice none 0 0) rfl <| s_nil <| W.seq <| W.region rfl <| sM u0_7 rfl ?_
 obtain ⟨sd88z, hM⟩ := M.e_grd hM
 simp only [Bool.and_eq_true, decide_eq_true_eq] at sd88z
 refine s_call cf19 [u0_7] rfl (copy_note _ ((ownSl (H.get (k := 5) rfl)).mono (ownLe _ (H.get (k := 5) rfl))) (by omega)) ?_
 rintro v90z w89z ⟨ho_, hx_⟩
 replace H : St w w89z [cOwn (α := Note) 30 v90z r4, cRo Bs_16, cOwn (α := Int) 3 v_l3 l3, cOwn (α := Pub) 33 v_l2 l2, cBlk nb0_3 [v_published, I s, I s2] 158, cRo Bs_8, cOwn (α := Note) 30 u0_7 r4, cBlk nb0_1 [v_numbers, I q12, I q22] 158, cOwn (α := Raw 2) 60 u0_4 rr1_5, cRo Bs2_6, cBlk nb0_2 [v_newer, I r12, I r22] 158] R := H.ownOf hx_ ho_
 clear hx_ ho_
 refine sA v90z rfl <| s_nil <| W.seq <| W.seq <| W.region rfl <| sM u0_4 rfl ?_
 have hl91z := ((rowSl rfl (H.get (k := 8) rfl) (roLe _ (H.get (k := 9) rfl)) hf17z)).len_le
 refine s_val (x_lenS T22.und rfl (rowSl rfl (H.get (k := 8) rfl) (roLe _ (H.get (k := 9) rfl)) hf17z)) <| sM (I 0) rfl <| s_nil <| W.block ?_
 replace H : St w w89z [cOwn (α := Int) 3 (.slice none 0 0) ([]), cOwn (α := Note) 30 v90z r4, cRo Bs_16, cOwn (α := Int) 3 v_l3 l3, cOwn (α := Pub) 33 v_l2 l2, cBlk nb0_3 [v_published, I s, I s2] 158, cRo Bs_8, cOwn (α := Note) 30 u0_7 r4, cBlk nb0_1 [v_numbers, I q12, I q22] 158, cOwn (α := Raw 2) 60 u0_4 rr1_5, cRo Bs2_6, cBlk nb0_2 [v_newer, I r12, I r22] 158] R := H.nilOwn (α := Int) 3
 obtain ⟨ex92z, hi93z, hk94z⟩ := M.e_bind hM
 obtain ⟨m0_, hi93z⟩ := M.e_iter hi93z
 refine W.loop (fun m σ W => ∃ (s6 : Int) (s7 : Int) (l10 : List Note) (s8 : Nat) (l9 : List Int) (v_l10 : Value) (v_l9 : Value) (ρ : Env), σ = upds ρ [(8, Pz nb0_2), (10, u0_4), (14, v_l2), (15, v_l3), (19, v_l9), (20, v_l10), (113, u0_4), (114, I (r3.length : Int)), (115, I (s8 : Int))] ∧ M.iterN (m_nilometerlaw13_NotesHeld_b1 newer r3) m (s6, s7, l10, s8, l9) = some ex92z ∧ St w W [cOwn (α := Int) 3 v_l9 l9, cOwn (α := Note) 30 v_l10 l10, cRo Bs_16, cOwn (α := Int) 3 v_l3 l3, cOwn (α := Pub) 33 v_l2 l2, cBlk nb0_3 [v_published, I s, I s2] 158, cRo Bs_8, cOwn (α := Note) 30 u0_7 r4, cBlk nb0_1 [v_numbers, I q12, I q22] 158, cOwn (α := Raw 2) 60 u0_4 rr1_5, cRo Bs2_6, cBlk nb0_2 [v_newer, I s6, I s7] 158] R) ?_ ?_
 ·exact ⟨_, r12, r22, r4, 0, [], v90z, (.slice none 0 0), _, upds_of _ _ ⟨rfl, rfl, rfl, rfl, rfl, rfl, rfl, rfl, rfl, trivial⟩, hi93z, H⟩
 rintro m97z σ w95z ⟨s6, s7, l10, s8, l9, v_l10, v_l9, ρ, rfl, hI96z, H⟩
 obtain ⟨m98z, lt99z, x100z, hM, hN101z⟩ := M.e_iterN hI96z
 simp only [m_nilometerlaw13_NotesHeld_b1] at hM
 clear hI96z
 refine W.seq <| W.region rfl <| sC (s8 : Int) (r3.length : Int) (decide ((s8 : Int) < (r3.length : Int))) rfl rfl rfl <| s_nil <| W.seq ?_
 refine W.cond (decide ((s8 : Int) < (r3.length : Int))) rfl (fun c102z => ?_) (fun c102z => ?_)
 ·replace hM := M.e_t hM c102z
  simp only [qz1, qz2, qz3, qz4, qz5, qz6, ne_eq, qz7] at c102z
  refine W.skip <| W.seq <| W.block <| W.seq <| W.region rfl <| sM (I (s8 : Int)) rfl ?_
  obtain ⟨sd103z, hM⟩ := M.e_grd hM
  simp only [Bool.and_eq_true, decide_eq_true_eq] at sd103z
  refine s_val (x_ix (a := u0_4) (b := I (s8 : Int)) (v := vat u0_4 3 (Int.toNat (s8 : Int))) rfl rfl (Sl.ix (α := Work) T22.und T22.size (rowSl rfl (H.get (k := 9) rfl) (roLe _ (H.get (k := 10) rfl)) hf17z) (by omega) (by omega))) ?_
  obtain ⟨u104z, ha106z, hs105z⟩ := Work_atA (rowSl rfl (H.get (k := 9) rfl) (roLe _ (H.get (k := 10) rfl)) hf17z) (i := (s8 : Int)) (by omega) (by omega)
  replace hs105z : Sl _ u104z (r3.getD s8 default).of := hs105z
  have hl_hs105z := hs105z.len_le
  refine s_val (x_ld (p := vat u0_4 3 (Int.toNat (s8 : Int))) (v := .agg #[u104z, I ((r3.getD s8 default).base), I ((r3.getD s8 default).minutes)]) rfl (ld_ag Ag60 Sz60 (At.mono ha106z (Cells.sup_le (ownLe _ (H.get (k := 9) rfl)) (roLe _ (H.get (k := 10) rfl)))))) ?_
  refine t_alloc (cs := [.slice none 0 0, I 0, I 0]) H Al60 rfl ?_
  intro b_18 w107z H
  refine sA (I (s8 : Int)) rfl ?_
  refine t_st (k := 0) (b := b_18) (off := 0) (cs := [.slice none 0 0, I 0, I 0]) (vs := [u104z, I ((r3.getD s8 default).base), I ((r3.getD s8 default).minutes)]) (cs' := [u104z, I ((r3.getD s8 default).base), I ((r3.getD s8 default).minutes)]) (v := .agg #[u104z, I ((r3.getD s8 default).base), I ((r3.getD s8 default).minutes)]) (L' := [cBlk b_18 [u104z, I ((r3.getD s8 default).base), I ((r3.getD s8 default).minutes)] 60, cOwn (α := Int) 3 v_l9 l9, cOwn (α := Note) 30 v_l10 l10, cRo Bs_16, cOwn (α := Int) 3 v_l3 l3, cOwn (α := Pub) 33 v_l2 l2, cBlk nb0_3 [v_published, I s, I s2] 158, cRo Bs_8, cOwn (α := Note) 30 u0_7 r4, cBlk nb0_1 [v_numbers, I q12, I q22] 158, cOwn (α := Raw 2) 60 u0_4 rr1_5, cRo Bs2_6, cBlk nb0_2 [v_newer, I s6, I s7] 158]) H rfl rfl rfl Sz60 rfl rfl rfl (by simp only [List.all_cons, List.all_nil, Bool.true_and, Bool.and_true, Sl.oc hs105z]; try rfl) rfl rfl ?_
  intro w108z H
  refine s_nil <| W.seq <| W.region rfl <| s_val (x_fa (a := Pz b_18) (v := Pz b_18) rfl (fa_blk (o := 0) Fd60_0 Sz34)) <| s_val (x_ld (p := Pz b_18) (v := u104z) rfl (ldb_sc Sc34 (H.blk (k := 0) rfl) rfl)) ?_
  have hl109z := (hs105z).len_le
  refine s_val (x_lenS T34.und rfl hs105z) <| sC (((r3.getD s8 default).of).length : Int) 0 ((((r3.getD s8 default).of).length : Int) == 0) rfl rfl rfl <| sM (B ((((r3.getD s8 default).of).length : Int) == 0)) rfl <| g_val ((((r3.getD s8 default).of).length : Int) == 0) (gy_t rfl) (fun hg => x_mv (v := Pz nb0_2) rfl) ?_
  refine g_splitV ((((r3.getD s8 default).of).length : Int) == 0) (I 0) (gy_t rfl) (fun hg_ => ?_) (fun hg_ => ?_)
  ·replace hM := M.e_t hM hg_
   obtain ⟨r111z, hx110z, hM⟩ := M.e_bind hM
   refine s_call cf44 [Pz nb0_2, I 2] (lst2 (gd_of (c := (((r3.getD s8 default).of).length : Int) == 0) hg_ (Pz nb0_2)) rfl) (nilometerkit_Stream_Next_ok newer s6 s7 2 (hC_newer.app _) hs_newer hx110z _ (St.give (L := [cBlk nb0_2 [v_newer, I s6, I s7] 158, cBlk b_18 [u104z, I ((r3.getD s8 default).base), I ((r3.getD s8 default).minutes)] 60, cOwn (α := Int) 3 v_l9 l9, cOwn (α := Note) 30 v_l10 l10, cRo Bs_16, cOwn (α := Int) 3 v_l3 l3, cOwn (α := Pub) 33 v_l2 l2, cBlk nb0_3 [v_published, I s, I s2] 158, cRo Bs_8, cOwn (α := Note) 30 u0_7 r4, cBlk nb0_1 [v_numbers, I q12, I q22] 158, cOwn (α := Raw 2) 60 u0_4 rr1_5, cRo Bs2_6]) (A := [cBlk nb0_2 [v_newer, I s6, I s7] 158]) (T := [cBlk b_18 [u104z, I ((r3.getD s8 default).base), I ((r3.getD s8 default).minutes)] 60, cOwn (α := Int) 3 v_l9 l9, cOwn (α := Note) 30 v_l10 l10, cRo Bs_16, cOwn (α := Int) 3 v_l3 l3, cOwn (α := Pub) 33 v_l2 l2, cBlk nb0_3 [v_published, I s, I s2] 158, cRo Bs_8, cOwn (α := Note) 30 u0_7 r4, cBlk nb0_1 [v_numbers, I q12, I q22] 158, cOwn (α := Raw 2) 60 u0_4 rr1_5, cRo Bs2_6]) (H.pick [12, 0, 1, 2, 3, 4, 5, 6, 7, 8, 9, 10, 11] (by decide) rfl) rfl)) ?_
   rintro vq w112z ⟨r26, q119, q219, hr113z, hvq, H2_⟩
   subst hr113z
   subst vq
   try dsimp only at hM
   replace H : St w w112z [cBlk nb0_2 [v_newer, I q119, I q219] 158, cBlk b_18 [u104z, I ((r3.getD s8 default).base), I ((r3.getD s8 default).minutes)] 60, cOwn (α := Int) 3 v_l9 l9, cOwn (α := Note) 30 v_l10 l10, cRo Bs_16, cOwn (α := Int) 3 v_l3 l3, cOwn (α := Pub) 33 v_l2 l2, cBlk nb0_3 [v_published, I s, I s2] 158, cRo Bs_8, cOwn (α := Note) 30 u0_7 r4, cBlk nb0_1 [v_numbers, I q12, I q22] 158, cOwn (α := Raw 2) 60 u0_4 rr1_5, cRo Bs2_6] R := H.pick [12, 0, 1, 2, 3, 4, 5, 6, 7, 8, 9, 10, 11] (by decide) rfl |>.back H2_ rfl
   clear H2_
   refine g_val ((((r3.getD s8 default).of).length : Int) == 0) (gy_t rfl) (fun hg => x_cmp (kd := .i64) (a := r26) (b := 0) (r := r26 == 0) rfl rfl rfl) <| s_val (x_pand (b := (((r3.getD s8 default).of).length : Int) == 0) (r := r26 == 0) rfl (fun hb => gd_of (c := (((r3.getD s8 default).of).length : Int) == 0) (by simp_all) (B (r26 == 0))) rfl) <| s_nil ?_
   refine W.cond (((((r3.getD s8 default).of).length : Int) == 0) && (r26 == 0)) rfl (fun c114z => ?_) (fun c114z => ?_)
   ·replace hM := M.e_t hM c114z
    refine W.seq <| W.region rfl <| sM v_l9 rfl <| sM (I (s8 : Int)) rfl ?_
    refine t_bs (α := Int) T34 [I (s8 : Int)] [(s8 : Int)] H rfl (.cons rfl (Flat.rep_enc _ (s8 : Int)) <| .nil) rfl rfl rfl ?_
    intro v115z w116z H
    obtain ⟨sd117z, hM⟩ := M.e_grd hM
    simp only [Bool.and_eq_true, decide_eq_true_eq] at sd117z
    refine t_app (α := Int) (k := 3) (l := l9) (l2 := [(s8 : Int)]) (l' := l9 ++ ([(s8 : Int)])) (vy := v115z) T34 rfl H rfl rfl rfl (ownSl (H.get (k := 0) rfl)) (ownLe _ (H.get (k := 0) rfl)) (rfl) (by first | omega | (simp only [List.length_nil] at *; omega)) ?_
    intro v118z w119z H
    replace H : St w w119z [cOwn (α := Int) 3 v115z ([(s8 : Int)]), cBlk nb0_2 [v_newer, I q119, I q219] 158, cBlk b_18 [u104z, I ((r3.getD s8 default).base), I ((r3.getD s8 default).minutes)] 60, cOwn (α := Int) 3 v118z (l9 ++ ([(s8 : Int)])), cOwn (α := Note) 30 v_l10 l10, cRo Bs_16, cOwn (α := Int) 3 v_l3 l3, cOwn (α := Pub) 33 v_l2 l2, cBlk nb0_3 [v_published, I s, I s2] 158, cRo Bs_8, cOwn (α := Note) 30 u0_7 r4, cBlk nb0_1 [v_numbers, I q12, I q22] 158, cOwn (α := Raw 2) 60 u0_4 rr1_5, cRo Bs2_6] R := H
    refine sA v118z rfl <| s_nil <| W.region rfl <| sM v_l10 rfl <| sM (I (s8 : Int)) rfl <| sM (Pz nb0_2) rfl ?_
    obtain ⟨r121z, hx120z, hM⟩ := M.e_bind hM
    refine s_call cf44 [Pz nb0_2, I 2000] rfl (nilometerkit_Stream_Next_ok newer q119 q219 2000 (hC_newer.app _) hs_newer hx120z _ (St.give (L := [cBlk nb0_2 [v_newer, I q119, I q219] 158, cOwn (α := Int) 3 v115z ([(s8 : Int)]), cBlk b_18 [u104z, I ((r3.getD s8 default).base), I ((r3.getD s8 default).minutes)] 60, cOwn (α := Int) 3 v118z (l9 ++ ([(s8 : Int)])), cOwn (α := Note) 30 v_l10 l10, cRo Bs_16, cOwn (α := Int) 3 v_l3 l3, cOwn (α := Pub) 33 v_l2 l2, cBlk nb0_3 [v_published, I s, I s2] 158, cRo Bs_8, cOwn (α := Note) 30 u0_7 r4, cBlk nb0_1 [v_numbers, I q12, I q22] 158, cOwn (α := Raw 2) 60 u0_4 rr1_5, cRo Bs2_6]) (A := [cBlk nb0_2 [v_newer, I q119, I q219] 158]) (T := [cOwn (α := Int) 3 v115z ([(s8 : Int)]), cBlk b_18 [u104z, I ((r3.getD s8 default).base), I ((r3.getD s8 default).minutes)] 60, cOwn (α := Int) 3 v118z (l9 ++ ([(s8 : Int)])), cOwn (α := Note) 30 v_l10 l10, cRo Bs_16, cOwn (α := Int) 3 v_l3 l3, cOwn (α := Pub) 33 v_l2 l2, cBlk nb0_3 [v_published, I s, I s2] 158, cRo Bs_8, cOwn (α := Note) 30 u0_7 r4, cBlk nb0_1 [v_numbers, I q12, I q22] 158, cOwn (α := Raw 2) 60 u0_4 rr1_5, cRo Bs2_6]) (H.pick [1, 0, 2, 3, 4, 5, 6, 7, 8, 9, 10, 11, 12, 13] (by decide) rfl) rfl)) ?_
    rintro vq w122z ⟨r9, q17, q27, hr123z, hvq, H2_⟩
    subst hr123z
    subst vq
    try dsimp only at hM
    replace H : St w w122z [cBlk nb0_2 [v_newer, I q17, I q27] 158, cOwn (α := Int) 3 v115z ([(s8 : Int)]), cBlk b_18 [u104z, I ((r3.getD s8 default).base), I ((r3.getD s8 default).minutes)] 60, cOwn (α := Int) 3 v118z (l9 ++ ([(s8 : Int)])), cOwn (α := Note) 30 v_l10 l10, cRo Bs_16, cOwn (α := Int) 3 v_l3 l3, cOwn (α := Pub) 33 v_l2 l2, cBlk nb0_3 [v_published, I s, I s2] 158, cRo Bs_8, cOwn (α := Note) 30 u0_7 r4, cBlk nb0_1 [v_numbers, I q12, I q22] 158, cOwn (α := Raw 2) 60 u0_4 rr1_5, cRo Bs2_6] R := H.pick [1, 0, 2, 3, 4, 5, 6, 7, 8, 9, 10, 11, 12, 13] (by decide) rfl |>.back H2_ rfl
    clear H2_
    refine s_val (x_bld (ps := [(0, I (s8 : Int)), (1, I 20), (2, I r9)]) (zs := [I 0, I 0, I 0]) (L' := [I (s8 : Int), I 20, I r9]) rfl Try.underlying30 Al30 rfl (Bd30 Try.underlying30) (.cons (cs := [I (s8 : Int)]) rfl rfl rfl rfl rfl <| .cons (cs := [I 20]) rfl rfl rfl rfl rfl <| .cons (cs := [I r9]) rfl rfl rfl rfl rfl <| .nil)) ?_
    refine t_bs (α := Note) T23 [.agg #[I (s8 : Int), I 20, I r9]] [(⟨(s8 : Int), (20 : Int), (r9 : Int)⟩ : Note)] H rfl (.cons rfl (Flat.rep_enc _ (⟨(s8 : Int), (20 : Int), (r9 : Int)⟩ : Note)) <| .nil) rfl rfl rfl ?_
    intro v124z w125z H
    obtain ⟨sd126z, hM⟩ := M.e_grd hM
    simp only [Bool.and_eq_true, decide_eq_true_eq] at sd126z
    refine t_app (α := Note) (k := 5) (l := l10) (l2 := [(⟨(s8 : Int), (20 : Int), (r9 : Int)⟩ : Note)]) (l' := l10 ++ ([(⟨(s8 : Int), (20 : Int), (r9 : Int)⟩ : Note)])) (vy := v124z) T23 rfl H rfl rfl rfl (ownSl (H.get (k := 0) rfl)) (ownLe _ (H.get (k := 0) rfl)) (rfl) (by first | omega | (simp only [List.length_nil] at *; omega)) ?_
    intro v127z w128z H
    replace H : St w w128z [cOwn (α := Note) 30 v124z ([(⟨(s8 : Int), (20 : Int), (r9 : Int)⟩ : Note)]), cBlk nb0_2 [v_newer, I q17, I q27] 158, cOwn (α := Int) 3 v115z ([(s8 : Int)]), cBlk b_18 [u104z, I ((r3.getD s8 default).base), I ((r3.getD s8 default).minutes)] 60, cOwn (α := Int) 3 v118z (l9 ++ ([(s8 : Int)])), cOwn (α := Note) 30 v127z (l10 ++ ([(⟨(s8 : Int), (20 : Int), (r9 : Int)⟩ : Note)])), cRo Bs_16, cOwn (α := Int) 3 v_l3 l3, cOwn (α := Pub) 33 v_l2 l2, cBlk nb0_3 [v_published, I s, I s2] 158, cRo Bs_8, cOwn (α := Note) 30 u0_7 r4, cBlk nb0_1 [v_numbers, I q12, I q22] 158, cOwn (α := Raw 2) 60 u0_4 rr1_5, cRo Bs2_6] R := H
    refine sA v127z rfl <| s_nil <| W.region rfl <| s_val (x_ari (a := (s8 : Int)) (b := 1) (r := (s8 : Int) + 1) rfl rfl rfl (by omega)) <| sM (I ((s8 : Int) + 1)) rfl <| s_nil ?_
    exact ⟨m98z, lt99z, q17, q27, l10 ++ ([(⟨(s8 : Int), (20 : Int), (r9 : Int)⟩ : Note)]), s8 + 1, l9 ++ ([(s8 : Int)]), v127z, v118z, _, upds_of _ _ ⟨rfl, rfl, rfl, rfl, rfl, rfl, rfl, rfl, rfl, trivial⟩, M.e_inl hM hN101z, (H.pick [4, 5, 6, 7, 8, 9, 10, 11, 12, 13, 14, 1] (by decide) rfl)⟩
   replace hM := M.e_f hM c114z
   refine W.skip <| W.region rfl <| s_val (x_ari (a := (s8 : Int)) (b := 1) (r := (s8 : Int) + 1) rfl rfl rfl (by omega)) <| sM (I ((s8 : Int) + 1)) rfl <| s_nil ?_
   exact ⟨m98z, lt99z, q119, q219, l10, s8 + 1, l9, v_l10, v_l9, _, upds_of _ _ ⟨rfl, rfl, rfl, rfl, rfl, rfl, rfl, rfl, rfl, trivial⟩, M.e_inl hM hN101z, (H.pick [2, 3, 4, 5, 6, 7, 8, 9, 10, 11, 12, 0] (by decide) rfl)⟩
  replace hM := M.e_f hM hg_
  refine g_val ((((r3.getD s8 default).of).length : Int) == 0) (gy_t rfl) (fun hg => x_cmp (kd := .i64) (a := 0) (b := 0) (r := (0 : Int) == 0) (gd_of (c := (((r3.getD s8 default).of).length : Int) == 0) hg (I 0)) rfl rfl) <| s_val (x_pand (b := (((r3.getD s8 default).of).length : Int) == 0) (r := (0 : Int) == 0) rfl (fun hb => gd_of (c := (((r3.getD s8 default).of).length : Int) == 0) (by simp_all) (B ((0 : Int) == 0))) rfl) <| s_nil ?_
  refine W.cond (((((r3.getD s8 default).of).length : Int) == 0) && ((0 : Int) == 0)) rfl (fun c129z => ?_) (fun c129z => ?_)
  ·replace hM := M.e_t hM c129z
   refine W.seq <| W.region rfl <| sM v_l9 rfl <| sM (I (s8 : Int)) rfl ?_
   refine t_bs (α := Int) T34 [I (s8 : Int)] [(s8 : Int)] H rfl (.cons rfl (Flat.rep_enc _ (s8 : Int)) <| .nil) rfl rfl rfl ?_
   intro v130z w131z H
   obtain ⟨sd132z, hM⟩ := M.e_grd hM
   simp only [Bool.and_eq_true, decide_eq_true_eq] at sd132z
   refine t_app (α := Int) (k := 2) (l := l9) (l2 := [(s8 : Int)]) (l' := l9 ++ ([(s8 : Int)])) (vy := v130z) T34 rfl H rfl rfl rfl (ownSl (H.get (k := 0) rfl)) (ownLe _ (H.get (k := 0) rfl)) (rfl) (by first | omega | (simp only [List.length_nil] at *; omega)) ?_
   intro v133z w134z H
   replace H : St w w134z [cOwn (α := Int) 3 v130z ([(s8 : Int)]), cBlk b_18 [u104z, I ((r3.getD s8 default).base), I ((r3.getD s8 default).minutes)] 60, cOwn (α := Int) 3 v133z (l9 ++ ([(s8 : Int)])), cOwn (α := Note) 30 v_l10 l10, cRo Bs_16, cOwn (α := Int) 3 v_l3 l3, cOwn (α := Pub) 33 v_l2 l2, cBlk nb0_3 [v_published, I s, I s2] 158, cRo Bs_8, cOwn (α := Note) 30 u0_7 r4, cBlk nb0_1 [v_numbers, I q12, I q22] 158, cOwn (α := Raw 2) 60 u0_4 rr1_5, cRo Bs2_6, cBlk nb0_2 [v_newer, I s6, I s7] 158] R := H
   refine sA v133z rfl <| s_nil <| W.region rfl <| sM v_l10 rfl <| sM (I (s8 : Int)) rfl <| sM (Pz nb0_2) rfl ?_
   obtain ⟨r136z, hx135z, hM⟩ := M.e_bind hM
   refine s_call cf44 [Pz nb0_2, I 2000] rfl (nilometerkit_Stream_Next_ok newer s6 s7 2000 (hC_newer.app _) hs_newer hx135z _ (St.give (L := [cBlk nb0_2 [v_newer, I s6, I s7] 158, cOwn (α := Int) 3 v130z ([(s8 : Int)]), cBlk b_18 [u104z, I ((r3.getD s8 default).base), I ((r3.getD s8 default).minutes)] 60, cOwn (α := Int) 3 v133z (l9 ++ ([(s8 : Int)])), cOwn (α := Note) 30 v_l10 l10, cRo Bs_16, cOwn (α := Int) 3 v_l3 l3, cOwn (α := Pub) 33 v_l2 l2, cBlk nb0_3 [v_published, I s, I s2] 158, cRo Bs_8, cOwn (α := Note) 30 u0_7 r4, cBlk nb0_1 [v_numbers, I q12, I q22] 158, cOwn (α := Raw 2) 60 u0_4 rr1_5, cRo Bs2_6]) (A := [cBlk nb0_2 [v_newer, I s6, I s7] 158]) (T := [cOwn (α := Int) 3 v130z ([(s8 : Int)]), cBlk b_18 [u104z, I ((r3.getD s8 default).base), I ((r3.getD s8 default).minutes)] 60, cOwn (α := Int) 3 v133z (l9 ++ ([(s8 : Int)])), cOwn (α := Note) 30 v_l10 l10, cRo Bs_16, cOwn (α := Int) 3 v_l3 l3, cOwn (α := Pub) 33 v_l2 l2, cBlk nb0_3 [v_published, I s, I s2] 158, cRo Bs_8, cOwn (α := Note) 30 u0_7 r4, cBlk nb0_1 [v_numbers, I q12, I q22] 158, cOwn (α := Raw 2) 60 u0_4 rr1_5, cRo Bs2_6]) (H.pick [13, 0, 1, 2, 3, 4, 5, 6, 7, 8, 9, 10, 11, 12] (by decide) rfl) rfl)) ?_
   rintro vq w137z ⟨r9, q17, q27, hr138z, hvq, H2_⟩
   subst hr138z
   subst vq
   try dsimp only at hM
   replace H : St w w137z [cBlk nb0_2 [v_newer, I q17, I q27] 158, cOwn (α := Int) 3 v130z ([(s8 : Int)]), cBlk b_18 [u104z, I ((r3.getD s8 default).base), I ((r3.getD s8 default).minutes)] 60, cOwn (α := Int) 3 v133z (l9 ++ ([(s8 : Int)])), cOwn (α := Note) 30 v_l10 l10, cRo Bs_16, cOwn (α := Int) 3 v_l3 l3, cOwn (α := Pub) 33 v_l2 l2, cBlk nb0_3 [v_published, I s, I s2] 158, cRo Bs_8, cOwn (α := Note) 30 u0_7 r4, cBlk nb0_1 [v_numbers, I q12, I q22] 158, cOwn (α := Raw 2) 60 u0_4 rr1_5, cRo Bs2_6] R := H.pick [13, 0, 1, 2, 3, 4, 5, 6, 7, 8, 9, 10, 11, 12] (by decide) rfl |>.back H2_ rfl
   clear H2_
   refine s_val (x_bld (ps := [(0, I (s8 : Int)), (1, I 20), (2, I r9)]) (zs := [I 0, I 0, I 0]) (L' := [I (s8 : Int), I 20, I r9]) rfl Try.underlying30 Al30 rfl (Bd30 Try.underlying30) (.cons (cs := [I (s8 : Int)]) rfl rfl rfl rfl rfl <| .cons (cs := [I 20]) rfl rfl rfl rfl rfl <| .cons (cs := [I r9]) rfl rfl rfl rfl rfl <| .nil)) ?_
   refine t_bs (α := Note) T23 [.agg #[I (s8 : Int), I 20, I r9]] [(⟨(s8 : Int), (20 : Int), (r9 : Int)⟩ : Note)] H rfl (.cons rfl (Flat.rep_enc _ (⟨(s8 : Int), (20 : Int), (r9 : Int)⟩ : Note)) <| .nil) rfl rfl rfl ?_
   intro v139z w140z H
   obtain ⟨sd141z, hM⟩ := M.e_grd hM
   simp only [Bool.and_eq_true, decide_eq_true_eq] at sd141z
   refine t_app (α := Note) (k := 5) (l := l10) (l2 := [(⟨(s8 : Int), (20 : Int), (r9 : Int)⟩ : Note)]) (l' := l10 ++ ([(⟨(s8 : Int), (20 : Int), (r9 : Int)⟩ : Note)])) (vy := v139z) T23 rfl H rfl rfl rfl (ownSl (H.get (k := 0) rfl)) (ownLe _ (H.get (k := 0) rfl)) (rfl) (by first | omega | (simp only [List.length_nil] at *; omega)) ?_
   intro v142z w143z H
   replace H : St w w143z [cOwn (α := Note) 30 v139z ([(⟨(s8 : Int), (20 : Int), (r9 : Int)⟩ : Note)]), cBlk nb0_2 [v_newer, I q17, I q27] 158, cOwn (α := Int) 3 v130z ([(s8 : Int)]), cBlk b_18 [u104z, I ((r3.getD s8 default).base), I ((r3.getD s8 default).minutes)] 60, cOwn (α := Int) 3 v133z (l9 ++ ([(s8 : Int)])), cOwn (α := Note) 30 v142z (l10 ++ ([(⟨(s8 : Int), (20 : Int), (r9 : Int)⟩ : Note)])), cRo Bs_16, cOwn (α := Int) 3 v_l3 l3, cOwn (α := Pub) 33 v_l2 l2, cBlk nb0_3 [v_published, I s, I s2] 158, cRo Bs_8, cOwn (α := Note) 30 u0_7 r4, cBlk nb0_1 [v_numbers, I q12, I q22] 158, cOwn (α := Raw 2) 60 u0_4 rr1_5, cRo Bs2_6] R := H
   refine sA v142z rfl <| s_nil <| W.region rfl <| s_val (x_ari (a := (s8 : Int)) (b := 1) (r := (s8 : Int) + 1) rfl rfl rfl (by omega)) <| sM (I ((s8 : Int) + 1)) rfl <| s_nil ?_
   exact ⟨m98z, lt99z, q17, q27, l10 ++ ([(⟨(s8 : Int), (20 : Int), (r9 : Int)⟩ : Note)]), s8 + 1, l9 ++ ([(s8 : Int)]), v142z, v133z, _, upds_of _ _ ⟨rfl, rfl, rfl, rfl, rfl, rfl, rfl, rfl, rfl, trivial⟩, M.e_inl hM hN101z, (H.pick [4, 5, 6, 7, 8, 9, 10, 11, 12, 13, 14, 1] (by decide) rfl)⟩
  replace hM := M.e_f hM c129z
  refine W.skip <| W.region rfl <| s_val (x_ari (a := (s8 : Int)) (b := 1) (r := (s8 : Int) + 1) rfl rfl rfl (by omega)) <| sM (I ((s8 : Int) + 1)) rfl <| s_nil ?_
  exact ⟨m98z, lt99z, s6, s7, l10, s8 + 1, l9, v_l10, v_l9, _, upds_of _ _ ⟨rfl, rfl, rfl, rfl, rfl, rfl, rfl, rfl, rfl, trivial⟩, M.e_inl hM hN101z, (H.pick [1, 2, 3, 4, 5, 6, 7, 8, 9, 10, 11, 12] (by decide) rfl)⟩
 replace hM := M.e_f hM c102z
 simp only [qz1, qz2, qz3, qz4, qz5, qz6, ne_eq, qz7] at c102z
 refine W.exit ?_
 have hX144z := M.e_inr hM hN101z
 subst hX144z
 replace hM := hk94z
 try dsimp only at hM
 refine W.seq <| W.region rfl <| sM u0_4 rfl <| sM v_l9 rfl ?_
 obtain ⟨⟨l15, e3⟩, hx148z, hM⟩ := M.e_bind hM
 obtain ⟨hq149z, hq150z⟩ := Prod.mk.inj (M.e_pure hx148z)
 try dsimp only at hM
 refine s_call cf32 [u0_4, v_l9] rfl (by have hc_ := (Stale_any _ ((rowSl rfl (H.get (k := 9) rfl) (roLe _ (H.get (k := 10) rfl)) hf17z).mono (Cells.sup_le (ownLe _ (H.get (k := 9) rfl)) (roLe _ (H.get (k := 10) rfl)))) ((ownSl (H.get (k := 0) rfl)).mono (ownLe _ (H.get (k := 0) rfl)))); rw [hq149z, hq150z] at hc_; exact hc_) ?_
 rintro _ w145z ⟨u146z, rfl, hs147z, hx_⟩
 obtain ⟨Bs_23, H, hs147z⟩ := H.fresh hx_ hs147z
 clear hx_
 have hl_hs147z := hs147z.len_le
 refine sM (.tuple #[u146z, I e3]) rfl <| s_val (x_ext (vs := [u146z, I e3]) (v := u146z) rfl rfl) <| s_val (x_ext (vs := [u146z, I e3]) (v := I e3) rfl rfl) <| sA u146z rfl <| sA (I e3) rfl <| s_nil <| W.seq <| W.region rfl <| sM u0_4 rfl <| sM v_l10 rfl ?_
 obtain ⟨⟨l16, e4⟩, hx154z, hM⟩ := M.e_bind hM
 obtain ⟨hq155z, hq156z⟩ := Prod.mk.inj (M.e_pure hx154z)
 try dsimp only at hM
 refine s_call cf21 [u0_4, v_l10] rfl (by have hc_ := (Values_any _ ((rowSl rfl (H.get (k := 10) rfl) (roLe _ (H.get (k := 11) rfl)) hf17z).mono (Cells.sup_le (ownLe _ (H.get (k := 10) rfl)) (roLe _ (H.get (k := 11) rfl)))) ((ownSl (H.get (k := 2) rfl)).mono (ownLe _ (H.get (k := 2) rfl)))); rw [hq155z, hq156z] at hc_; exact hc_) ?_
 rintro _ w151z ⟨u152z, rfl, hs153z, hx_⟩
 obtain ⟨Bs_24, H, hs153z⟩ := H.fresh hx_ hs153z
 clear hx_
 have hl_hs153z := hs153z.len_le
 refine sM (.tuple #[u152z, I e4]) rfl <| s_val (x_ext (vs := [u152z, I e4]) (v := u152z) rfl rfl) <| s_val (x_ext (vs := [u152z, I e4]) (v := I e4) rfl rfl) <| sA u152z rfl <| sA (I e4) rfl <| s_nil <| W.seq <| W.region rfl <| sM u0_4 rfl <| sM v_l10 rfl <| sM v_l2 rfl ?_
 obtain ⟨⟨l17, e5⟩, hx160z, hM⟩ := M.e_bind hM
 obtain ⟨hq161z, hq162z⟩ := Prod.mk.inj (M.e_pure hx160z)
 try dsimp only at hM
 refine s_call cf26 [u0_4, v_l10, v_l2] rfl (by have hc_ := (Withdrawn_any _ ((rowSl rfl (H.get (k := 11) rfl) (roLe _ (H.get (k := 12) rfl)) hf17z).mono (Cells.sup_le (ownLe _ (H.get (k := 11) rfl)) (roLe _ (H.get (k := 12) rfl)))) ((ownSl (H.get (k := 3) rfl)).mono (ownLe _ (H.get (k := 3) rfl))) ((ownSl (H.get (k := 6) rfl)).mono (ownLe _ (H.get (k := 6) rfl)))); rw [hq161z, hq162z] at hc_; exact hc_) ?_
 rintro _ w157z ⟨u158z, rfl, hs159z, hx_⟩
 obtain ⟨Bs_25, H, hs159z⟩ := H.fresh hx_ hs159z
 clear hx_
 have hl_hs159z := hs159z.len_le
 refine sM (.tuple #[u158z, I e5]) rfl <| s_val (x_ext (vs := [u158z, I e5]) (v := u158z) rfl rfl) <| s_val (x_ext (vs := [u158z, I e5]) (v := I e5) rfl rfl) <| sA u158z rfl <| sA (I e5) rfl <| s_nil <| W.seq <| W.seq <| W.region rfl <| sM (I e3) rfl <| sC e3 0 (e3 != 0) rfl rfl rfl <| sM (B (e3 != 0)) rfl ?_
 refine g_val (!(e3 != 0)) (gy_f rfl) (fun hg => x_mv (v := I e4) rfl) <| g_val (!(e3 != 0)) (gy_f rfl) (fun hg => x_cmp (kd := .i64) (a := e4) (b := 0) (r := e4 != 0) (gd_of (c := !(e3 != 0)) hg (I e4)) rfl rfl) <| s_val (x_por (b := e3 != 0) (r := e4 != 0) rfl rfl (fun hb => gd_of (c := !(e3 != 0)) (by simp_all) (B (e4 != 0)))) <| sM (B ((e3 != 0) || (e4 != 0))) rfl <| g_val (!((e3 != 0) || (e4 != 0))) (gy_f rfl) (fun hg => x_mv (v := I e5) rfl) <| g_val (!((e3 != 0) || (e4 != 0))) (gy_f rfl) (fun hg => x_cmp (kd := .i64) (a := e5) (b := 0) (r := e5 != 0) (gd_of (c := !((e3 != 0) || (e4 != 0))) hg (I e5)) rfl rfl) <| s_val (x_por (b := ((e3 != 0) || (e4 != 0))) (r := e5 != 0) rfl rfl (fun hb => gd_of (c := !((e3 != 0) || (e4 != 0))) (by simp_all) (B (e5 != 0)))) <| sM (B (((e3 != 0) || (e4 != 0)) || (e5 != 0))) rfl <| g_val (!(((e3 != 0) || (e4 != 0)) || (e5 != 0))) (gy_f rfl) (fun hg => x_mv (v := u152z) rfl) <| g_val (!(((e3 != 0) || (e4 != 0)) || (e5 != 0))) (gy_f rfl) (fun hg => x_lenS T34.und (gd_of (c := !(((e3 != 0) || (e4 != 0)) || (e5 != 0))) hg (u152z)) hs153z) <| g_val (!(((e3 != 0) || (e4 != 0)) || (e5 != 0))) (gy_f rfl) (fun hg => x_mv (v := u0_4) rfl) <| g_val (!(((e3 != 0) || (e4 != 0)) || (e5 != 0))) (gy_f rfl) (fun hg => x_lenS T22.und (gd_of (c := !(((e3 != 0) || (e4 != 0)) || (e5 != 0))) hg (u0_4)) (rowSl rfl (H.get (k := 12) rfl) (roLe _ (H.get (k := 13) rfl)) hf17z)) ?_
 refine g_val (!(((e3 != 0) || (e4 != 0)) || (e5 != 0))) (gy_f rfl) (fun hg => x_cmp (kd := .i64) (a := (l16.length : Int)) (b := (r3.length : Int)) (r := (l16.length : Int) != (r3.length : Int)) (gd_of (c := !(((e3 != 0) || (e4 != 0)) || (e5 != 0))) hg (I (l16.length : Int))) (gd_of (c := !(((e3 != 0) || (e4 != 0)) || (e5 != 0))) hg (I (r3.length : Int))) rfl) <| s_val (x_por (b := (((e3 != 0) || (e4 != 0)) || (e5 != 0))) (r := (l16.length : Int) != (r3.length : Int)) rfl rfl (fun hb => gd_of (c := !(((e3 != 0) || (e4 != 0)) || (e5 != 0))) (by simp_all) (B ((l16.length : Int) != (r3.length : Int))))) <| s_nil ?_
 refine W.cond ((((e3 != 0) || (e4 != 0)) || (e5 != 0)) || ((l16.length : Int) != (r3.length : Int))) rfl (fun c165z => ?_) (fun c165z => ?_)
 ·replace hM := M.e_t hM c165z
  refine W.seq <| W.region rfl <| sA (B false) rfl <| s_nil ?_
  refine W.ret ?_
  have hr_ := M.e_pure hM
  exact ⟨_, resE_tmp rfl, ⟨false, hr_, rfl, (H.pick [] (by decide) rfl)⟩⟩
 replace hM := M.e_f hM c165z
 refine W.skip <| W.seq <| W.seq <| W.region rfl <| sM v_l2 rfl ?_
 have hl166z := ((ownSl (H.get (k := 7) rfl))).len_le
 refine s_val (x_lenS T24.und rfl (ownSl (H.get (k := 7) rfl))) <| sM (I 0) rfl <| s_nil <| W.block ?_
 obtain ⟨ex167z, hi168z, hk169z⟩ := M.e_bind hM
 obtain ⟨m0_, hi168z⟩ := M.e_iter hi168z
 refine W.loop (fun m σ W => ∃ (s11 : Nat) (ρ : Env), σ = upds ρ [(8, Pz nb0_2), (10, u0_4), (14, v_l2), (15, v_l3), (20, v_l10), (23, u146z), (24, u152z), (26, u158z), (177, v_l2), (178, I (l2.length : Int)), (179, I (s11 : Int))] ∧ M.iterN (m_nilometerlaw13_NotesHeld_b2 l3 l2 l15 l16 l17) m s11 = some ex167z ∧ St w W [cRo Bs_25, cRo Bs_24, cRo Bs_23, cOwn (α := Int) 3 v_l9 l9, cOwn (α := Note) 30 v_l10 l10, cRo Bs_16, cOwn (α := Int) 3 v_l3 l3, cOwn (α := Pub) 33 v_l2 l2, cBlk nb0_3 [v_published, I s, I s2] 158, cRo Bs_8, cOwn (α := Note) 30 u0_7 r4, cBlk nb0_1 [v_numbers, I q12, I q22] 158, cOwn (α := Raw 2) 60 u0_4 rr1_5, cRo Bs2_6, cBlk nb0_2 [v_newer, I s6, I s7] 158] R) ?_ ?_
 ·exact ⟨_, 0, _, upds_of _ _ ⟨rfl, rfl, rfl, rfl, rfl, rfl, rfl, rfl, rfl, rfl, rfl, trivial⟩, hi168z, H⟩
 rintro m172z σ w170z ⟨s11, ρ, rfl, hI171z, H⟩
 obtain ⟨m173z, lt174z, x175z, hM, hN176z⟩ := M.e_iterN hI171z
 simp only [m_nilometerlaw13_NotesHeld_b2] at hM
 clear hI171z
 refine W.seq <| W.region rfl <| sC (s11 : Int) (l2.length : Int) (decide ((s11 : Int) < (l2.length : Int))) rfl rfl rfl <| s_nil <| W.seq ?_
 refine W.cond (decide ((s11 : Int) < (l2.length : Int))) rfl (fun c177z => ?_) (fun c177z => ?_)
 ·replace hM := M.e_t hM c177z
  simp only [qz1, qz2, qz3, qz4, qz5, qz6, ne_eq, qz7] at c177z
  refine W.skip <| W.seq <| W.block <| W.seq <| W.region rfl <| sM (I (s11 : Int)) rfl ?_
  obtain ⟨sd178z, hM⟩ := M.e_grd hM
  simp only [Bool.and_eq_true, decide_eq_true_eq] at sd178z
  refine s_val (x_ix (a := v_l2) (b := I (s11 : Int)) (v := vat v_l2 2 (Int.toNat (s11 : Int))) rfl rfl (Sl.ix (α := Pub) T24.und T24.size (ownSl (H.get (k := 7) rfl)) (by omega) (by omega))) <| s_val (x_ld (p := vat v_l2 2 (Int.toNat (s11 : Int))) (v := .agg #[I ((l2.getD s11 default).work), I ((l2.getD s11 default).value)]) rfl (ld_ag Ag33 Sz33 (At.mono (Pub_atA (ownSl (H.get (k := 7) rfl)) (i := (s11 : Int)) (by omega) (by omega)) (ownLe _ (H.get (k := 7) rfl))))) ?_
  refine t_alloc (cs := [I 0, I 0]) H Al33 rfl ?_
  intro b_26 w179z H
  refine sA (I (s11 : Int)) rfl ?_
  refine t_st (k := 0) (b := b_26) (off := 0) (cs := [I 0, I 0]) (vs := [I ((l2.getD s11 default).work), I ((l2.getD s11 default).value)]) (cs' := [I ((l2.getD s11 default).work), I ((l2.getD s11 default).value)]) (v := .agg #[I ((l2.getD s11 default).work), I ((l2.getD s11 default).value)]) (L' := [cBlk b_26 [I ((l2.getD s11 default).work), I ((l2.getD s11 default).value)] 33, cRo Bs_25, cRo Bs_24, cRo Bs_23, cOwn (α := Int) 3 v_l9 l9, cOwn (α := Note) 30 v_l10 l10, cRo Bs_16, cOwn (α := Int) 3 v_l3 l3, cOwn (α := Pub) 33 v_l2 l2, cBlk nb0_3 [v_published, I s, I s2] 158, cRo Bs_8, cOwn (α := Note) 30 u0_7 r4, cBlk nb0_1 [v_numbers, I q12, I q22] 158, cOwn (α := Raw 2) 60 u0_4 rr1_5, cRo Bs2_6, cBlk nb0_2 [v_newer, I s6, I s7] 158]) H rfl rfl rfl Sz33 rfl rfl rfl rfl rfl rfl ?_
  intro w180z H
  refine s_nil <| W.seq <| W.region rfl <| sM u158z rfl <| sM (I (s11 : Int)) rfl ?_
  refine s_call cf45 [u158z, I (s11 : Int)] rfl (contains_int (s11 : Int) _ (hs159z.mono (roLe _ (H.get (k := 1) rfl)))) ?_
  rintro _ w181z ⟨rfl, hx_⟩
  replace H : St w w181z [cBlk b_26 [I ((l2.getD s11 default).work), I ((l2.getD s11 default).value)] 33, cRo Bs_25, cRo Bs_24, cRo Bs_23, cOwn (α := Int) 3 v_l9 l9, cOwn (α := Note) 30 v_l10 l10, cRo Bs_16, cOwn (α := Int) 3 v_l3 l3, cOwn (α := Pub) 33 v_l2 l2, cBlk nb0_3 [v_published, I s, I s2] 158, cRo Bs_8, cOwn (α := Note) 30 u0_7 r4, cBlk nb0_1 [v_numbers, I q12, I q22] 158, cOwn (α := Raw 2) 60 u0_4 rr1_5, cRo Bs2_6, cBlk nb0_2 [v_newer, I s6, I s7] 158] R := H.ext hx_
  clear hx_
  refine sA (B (l17.contains (s11 : Int))) rfl <| s_nil <| W.seq ?_
  refine W.draw (fun W => St w W [cBlk b_26 [I ((l2.getD s11 default).work), I ((l2.getD s11 default).value)] 33, cRo Bs_25, cRo Bs_24, cRo Bs_23, cOwn (α := Int) 3 v_l9 l9, cOwn (α := Note) 30 v_l10 l10, cRo Bs_16, cOwn (α := Int) 3 v_l3 l3, cOwn (α := Pub) 33 v_l2 l2, cBlk nb0_3 [v_published, I s, I s2] 158, cRo Bs_8, cOwn (α := Note) 30 u0_7 r4, cBlk nb0_1 [v_numbers, I q12, I q22] 158, cOwn (α := Raw 2) 60 u0_4 rr1_5, cRo Bs2_6, cBlk nb0_2 [v_newer, I s6, I s7] 158] R) [(0, true), (1, true), (2, true), (3, true), (4, true), (5, true), (6, true), (7, true), (8, true), (9, true), (10, true), (11, true), (12, true), (13, true), (14, true), (15, false), (16, true), (17, true), (18, true), (19, true), (20, true), (21, true), (22, false), (23, true), (24, true), (25, true)] mixed (by decide +kernel) rfl ?_
  intro w182z hx_
  replace H : St w w182z [cBlk b_26 [I ((l2.getD s11 default).work), I ((l2.getD s11 default).value)] 33, cRo Bs_25, cRo Bs_24, cRo Bs_23, cOwn (α := Int) 3 v_l9 l9, cOwn (α := Note) 30 v_l10 l10, cRo Bs_16, cOwn (α := Int) 3 v_l3 l3, cOwn (α := Pub) 33 v_l2 l2, cBlk nb0_3 [v_published, I s, I s2] 158, cRo Bs_8, cOwn (α := Note) 30 u0_7 r4, cBlk nb0_1 [v_numbers, I q12, I q22] 158, cOwn (α := Raw 2) 60 u0_4 rr1_5, cRo Bs2_6, cBlk nb0_2 [v_newer, I s6, I s7] 158] R := H.ext hx_
  clear hx_
  refine ⟨(H.pick [0, 1, 2, 3, 4, 5, 6, 7, 8, 9, 10, 11, 12, 13, 14, 15] (by decide) rfl), ?_⟩
  refine d_q rfl (fun w' H => x_mv (v := B (l17.contains (s11 : Int))) rfl) ?_
  refine d_q rfl (fun w' H => x_mv (v := u152z) rfl) ?_
  refine d_q rfl (fun w' H => x_fa (a := Pz b_26) (v := Pz b_26) rfl (fa_blk (o := 0) Fd33_0 Sz3)) ?_
  refine d_q rfl (fun w' H => x_ld (p := Pz b_26) (v := I ((l2.getD s11 default).work)) rfl (ldb_sc Sc3 (H.blk (k := 0) rfl) rfl)) ?_
  obtain ⟨sd183z, hM⟩ := M.e_grd hM
  simp only [Bool.and_eq_true, decide_eq_true_eq] at sd183z
  refine d_q rfl (fun w' H => x_ix (a := u152z) (b := I ((l2.getD s11 default).work)) (v := vat u152z 1 (Int.toNat ((l2.getD s11 default).work))) rfl rfl (Sl.ix (α := Int) T34.und T34.size hs153z (by omega) (by omega))) ?_
  refine d_q rfl (fun w' H => x_ld (p := vat u152z 1 (Int.toNat ((l2.getD s11 default).work))) (v := I (l16.getD (Int.toNat ((l2.getD s11 default).work)) 0)) rfl (ld_sc Sc3 (At.mono (Int_at hs153z (i := (l2.getD s11 default).work) (by omega) (by omega)) (roLe _ (H.get (k := 2) rfl))))) ?_
  refine d_q rfl (fun w' H => x_fa (a := Pz b_26) (v := Oz b_26 1) rfl (fa_blk (o := 0) Fd33_1 Sz3)) ?_
  refine d_q rfl (fun w' H => x_ld (p := Oz b_26 1) (v := I ((l2.getD s11 default).value)) rfl (ldb_sc Sc3 (H.blk (k := 0) rfl) rfl)) ?_
  refine d_q rfl (fun w' H => x_cmp (kd := .i64) (a := l16.getD (Int.toNat ((l2.getD s11 default).work)) 0) (b := (l2.getD s11 default).value) (r := (l16.getD (Int.toNat ((l2.getD s11 default).work)) 0) != ((l2.getD s11 default).value)) rfl rfl rfl) ?_
  refine d_q rfl (fun w' H => x_eqb (a := l17.contains (s11 : Int)) (b := (l16.getD (Int.toNat ((l2.getD s11 default).work)) 0) != ((l2.getD s11 default).value)) (r := ((l17.contains (s11 : Int)) != ((l16.getD (Int.toNat ((l2.getD s11 default).work)) 0) != ((l2.getD s11 default).value)))) rfl rfl Try.underlying4 rfl) ?_
  refine d_q rfl (fun w' H => x_mv (v := B ((l17.contains (s11 : Int)) != ((l16.getD (Int.toNat ((l2.getD s11 default).work)) 0) != ((l2.getD s11 default).value)))) rfl) ?_
  refine d_qg (!((l17.contains (s11 : Int)) != ((l16.getD (Int.toNat ((l2.getD s11 default).work)) 0) != ((l2.getD s11 default).value)))) rfl (gy_f rfl) (fun hg => (fun w' H => x_mv (v := B (l17.contains (s11 : Int))) rfl)) ?_
  refine d_qg (!((l17.contains (s11 : Int)) != ((l16.getD (Int.toNat ((l2.getD s11 default).work)) 0) != ((l2.getD s11 default).value)))) rfl (gy_f rfl) (fun hg => (fun w' H => x_mv (v := B (l17.contains (s11 : Int))) (gd_of (c := !((l17.contains (s11 : Int)) != ((l16.getD (Int.toNat ((l2.getD s11 default).work)) 0) != ((l2.getD s11 default).value)))) hg (B (l17.contains (s11 : Int)))))) ?_
  refine d_qg ((!((l17.contains (s11 : Int)) != ((l16.getD (Int.toNat ((l2.getD s11 default).work)) 0) != ((l2.getD s11 default).value)))) && (l17.contains (s11 : Int))) rfl (gy_gt rfl rfl) (fun hg => (fun w' H => x_mv (v := v_l3) rfl)) ?_
  refine d_qg ((!((l17.contains (s11 : Int)) != ((l16.getD (Int.toNat ((l2.getD s11 default).work)) 0) != ((l2.getD s11 default).value)))) && (l17.contains (s11 : Int))) rfl (gy_gt rfl rfl) (fun hg => (fun w' H => x_mv (v := I (s11 : Int)) rfl)) ?_
  refine d_l rfl ?_
  refine t_gcall ((!((l17.contains (s11 : Int)) != ((l16.getD (Int.toNat ((l2.getD s11 default).work)) 0) != ((l2.getD s11 default).value)))) && (l17.contains (s11 : Int))) (gy_gt rfl rfl) cf45 (B (l3.contains (s11 : Int))) (fun _ => [v_l3, I (s11 : Int)]) (fun hg => lst2 (gd_of (c := ((!((l17.contains (s11 : Int)) != ((l16.getD (Int.toNat ((l2.getD s11 default).work)) 0) != ((l2.getD s11 default).value)))) && (l17.contains (s11 : Int)))) hg (v_l3)) (gd_of (c := ((!((l17.contains (s11 : Int)) != ((l16.getD (Int.toNat ((l2.getD s11 default).work)) 0) != ((l2.getD s11 default).value)))) && (l17.contains (s11 : Int)))) hg (I (s11 : Int)))) H (fun hg => Ret.mono (contains_int (s11 : Int) _ ((ownSl (H.get (k := 7) rfl)).mono (ownLe _ (H.get (k := 7) rfl)))) fun v_ w_ ⟨hv_, hx_⟩ => ⟨hv_, H.ext hx_⟩) ?_
  intro w184z H
  refine s_nil ⟨(H.pick [0, 1, 2, 3, 4, 5, 6, 7, 8, 9, 10, 11, 12, 13, 14, 15] (by decide) rfl), ?_⟩
  refine d_qg ((!((l17.contains (s11 : Int)) != ((l16.getD (Int.toNat ((l2.getD s11 default).work)) 0) != ((l2.getD s11 default).value)))) && (l17.contains (s11 : Int))) rfl (gy_gt rfl rfl) (fun hg => (fun w' H => x_not (b := l3.contains (s11 : Int)) (gd_of (c := ((!((l17.contains (s11 : Int)) != ((l16.getD (Int.toNat ((l2.getD s11 default).work)) 0) != ((l2.getD s11 default).value)))) && (l17.contains (s11 : Int)))) hg (B (l3.contains (s11 : Int)))))) ?_
  refine d_qg (!((l17.contains (s11 : Int)) != ((l16.getD (Int.toNat ((l2.getD s11 default).work)) 0) != ((l2.getD s11 default).value)))) rfl (gy_f rfl) (fun hg => (fun w' H => x_pand (b := l17.contains (s11 : Int)) (r := !(l3.contains (s11 : Int))) (gd_of (c := !((l17.contains (s11 : Int)) != ((l16.getD (Int.toNat ((l2.getD s11 default).work)) 0) != ((l2.getD s11 default).value)))) hg (B (l17.contains (s11 : Int)))) (fun hb => gd_of (c := ((!((l17.contains (s11 : Int)) != ((l16.getD (Int.toNat ((l2.getD s11 default).work)) 0) != ((l2.getD s11 default).value)))) && (l17.contains (s11 : Int)))) (by simp_all) (B (!(l3.contains (s11 : Int))))) rfl)) ?_
  refine d_qg (!((l17.contains (s11 : Int)) != ((l16.getD (Int.toNat ((l2.getD s11 default).work)) 0) != ((l2.getD s11 default).value)))) rfl (gy_f rfl) (fun hg => (fun w' H => x_mv (v := B ((l17.contains (s11 : Int)) && (!(l3.contains (s11 : Int))))) (gd_of (c := !((l17.contains (s11 : Int)) != ((l16.getD (Int.toNat ((l2.getD s11 default).work)) 0) != ((l2.getD s11 default).value)))) hg (B ((l17.contains (s11 : Int)) && (!(l3.contains (s11 : Int)))))))) ?_
  refine d_qg ((!((l17.contains (s11 : Int)) != ((l16.getD (Int.toNat ((l2.getD s11 default).work)) 0) != ((l2.getD s11 default).value)))) && ((l17.contains (s11 : Int)) && (!(l3.contains (s11 : Int))))) rfl (gy_gt rfl rfl) (fun hg => (fun w' H => x_mv (v := u146z) rfl)) ?_
  refine d_qg ((!((l17.contains (s11 : Int)) != ((l16.getD (Int.toNat ((l2.getD s11 default).work)) 0) != ((l2.getD s11 default).value)))) && ((l17.contains (s11 : Int)) && (!(l3.contains (s11 : Int))))) rfl (gy_gt rfl rfl) (fun hg => (fun w' H => x_fa (a := Pz b_26) (v := Pz b_26) rfl (fa_blk (o := 0) Fd33_0 Sz3))) ?_
  refine d_qg ((!((l17.contains (s11 : Int)) != ((l16.getD (Int.toNat ((l2.getD s11 default).work)) 0) != ((l2.getD s11 default).value)))) && ((l17.contains (s11 : Int)) && (!(l3.contains (s11 : Int))))) rfl (gy_gt rfl rfl) (fun hg => (fun w' H => x_ld (p := Pz b_26) (v := I ((l2.getD s11 default).work)) (gd_of (c := ((!((l17.contains (s11 : Int)) != ((l16.getD (Int.toNat ((l2.getD s11 default).work)) 0) != ((l2.getD s11 default).value)))) && ((l17.contains (s11 : Int)) && (!(l3.contains (s11 : Int)))))) hg (Pz b_26)) (ldb_sc Sc3 (H.blk (k := 0) rfl) rfl))) ?_
  refine d_l rfl ?_
  refine t_gcall ((!((l17.contains (s11 : Int)) != ((l16.getD (Int.toNat ((l2.getD s11 default).work)) 0) != ((l2.getD s11 default).value)))) && ((l17.contains (s11 : Int)) && (!(l3.contains (s11 : Int))))) (gy_gt rfl rfl) cf45 (B (l15.contains ((l2.getD s11 default).work))) (fun _ => [u146z, I ((l2.getD s11 default).work)]) (fun hg => lst2 (gd_of (c := ((!((l17.contains (s11 : Int)) != ((l16.getD (Int.toNat ((l2.getD s11 default).work)) 0) != ((l2.getD s11 default).value)))) && ((l17.contains (s11 : Int)) && (!(l3.contains (s11 : Int)))))) hg (u146z)) (gd_of (c := ((!((l17.contains (s11 : Int)) != ((l16.getD (Int.toNat ((l2.getD s11 default).work)) 0) != ((l2.getD s11 default).value)))) && ((l17.contains (s11 : Int)) && (!(l3.contains (s11 : Int)))))) hg (I ((l2.getD s11 default).work)))) H (fun hg => Ret.mono (contains_int ((l2.getD s11 default).work) _ (hs147z.mono (roLe _ (H.get (k := 3) rfl)))) fun v_ w_ ⟨hv_, hx_⟩ => ⟨hv_, H.ext hx_⟩) ?_
  intro w185z H
  refine s_nil ⟨(H.pick [0, 1, 2, 3, 4, 5, 6, 7, 8, 9, 10, 11, 12, 13, 14, 15] (by decide) rfl), ?_⟩
  refine d_qg ((!((l17.contains (s11 : Int)) != ((l16.getD (Int.toNat ((l2.getD s11 default).work)) 0) != ((l2.getD s11 default).value)))) && ((l17.contains (s11 : Int)) && (!(l3.contains (s11 : Int))))) rfl (gy_gt rfl rfl) (fun hg => (fun w' H => x_not (b := l15.contains ((l2.getD s11 default).work)) (gd_of (c := ((!((l17.contains (s11 : Int)) != ((l16.getD (Int.toNat ((l2.getD s11 default).work)) 0) != ((l2.getD s11 default).value)))) && ((l17.contains (s11 : Int)) && (!(l3.contains (s11 : Int)))))) hg (B (l15.contains ((l2.getD s11 default).work)))))) ?_
  refine d_qg (!((l17.contains (s11 : Int)) != ((l16.getD (Int.toNat ((l2.getD s11 default).work)) 0) != ((l2.getD s11 default).value)))) rfl (gy_f rfl) (fun hg => (fun w' H => x_pand (b := ((l17.contains (s11 : Int)) && (!(l3.contains (s11 : Int))))) (r := !(l15.contains ((l2.getD s11 default).work))) (gd_of (c := !((l17.contains (s11 : Int)) != ((l16.getD (Int.toNat ((l2.getD s11 default).work)) 0) != ((l2.getD s11 default).value)))) hg (B ((l17.contains (s11 : Int)) && (!(l3.contains (s11 : Int)))))) (fun hb => gd_of (c := ((!((l17.contains (s11 : Int)) != ((l16.getD (Int.toNat ((l2.getD s11 default).work)) 0) != ((l2.getD s11 default).value)))) && ((l17.contains (s11 : Int)) && (!(l3.contains (s11 : Int)))))) (by simp_all) (B (!(l15.contains ((l2.getD s11 default).work))))) rfl)) ?_
  refine d_q rfl (fun w' H => x_por (b := ((l17.contains (s11 : Int)) != ((l16.getD (Int.toNat ((l2.getD s11 default).work)) 0) != ((l2.getD s11 default).value)))) (r := (((l17.contains (s11 : Int)) && (!(l3.contains (s11 : Int)))) && (!(l15.contains ((l2.getD s11 default).work))))) rfl rfl (fun hb => gd_of (c := !((l17.contains (s11 : Int)) != ((l16.getD (Int.toNat ((l2.getD s11 default).work)) 0) != ((l2.getD s11 default).value)))) (by simp_all) (B (((l17.contains (s11 : Int)) && (!(l3.contains (s11 : Int)))) && (!(l15.contains ((l2.getD s11 default).work))))))) ?_
  refine d_nil ?_
  refine W.cond (((l17.contains (s11 : Int)) != ((l16.getD (Int.toNat ((l2.getD s11 default).work)) 0) != ((l2.getD s11 default).value))) || (((l17.contains (s11 : Int)) && (!(l3.contains (s11 : Int)))) && (!(l15.contains ((l2.getD s11 default).work))))) rfl (fun c186z => ?_) (fun c186z => ?_)
  ·replace hM := M.e_t hM c186z
   refine W.seq <| W.region rfl <| sA (B false) rfl <| s_nil ?_
   refine W.ret ?_
   have hX187z := M.e_inr hM hN176z
   subst hX187z
   replace hM := hk169z
   try dsimp only at hM
   have hr_ := M.e_pure hM
   exact ⟨_, resE_tmp rfl, ⟨false, hr_, rfl, (H.pick [] (by decide) rfl)⟩⟩
  replace hM := M.e_f hM c186z
  refine W.skip <| W.region rfl <| s_val (x_ari (a := (s11 : Int)) (b := 1) (r := (s11 : Int) + 1) rfl rfl rfl (by omega)) <| sM (I ((s11 : Int) + 1)) rfl <| s_nil ?_
  exact ⟨m173z, lt174z, s11 + 1, _, upds_of _ _ ⟨rfl, rfl, rfl, rfl, rfl, rfl, rfl, rfl, rfl, rfl, rfl, trivial⟩, M.e_inl hM hN176z, (H.pick [1, 2, 3, 4, 5, 6, 7, 8, 9, 10, 11, 12, 13, 14, 15] (by decide) rfl)⟩
 replace hM := M.e_f hM c177z
 simp only [qz1, qz2, qz3, qz4, qz5, qz6, ne_eq, qz7] at c177z
 refine W.exit ?_
 have hX188z := M.e_inr hM hN176z
 subst hX188z
 replace hM := hk169z
 try dsimp only at hM
 refine W.seq <| W.region rfl <| sM (Pz nb0_2) rfl <| sM v_l2 rfl ?_
 have hl189z := ((ownSl (H.get (k := 7) rfl))).len_le
 refine s_val (x_lenS T24.und rfl (ownSl (H.get (k := 7) rfl))) ?_
 obtain ⟨r191z, hx190z, hM⟩ := M.e_bind hM
 refine s_call cf46 [Pz nb0_2, I (l2.length : Int)] rfl (nilometerkit_Mixed_ok newer s6 s7 (l2.length : Int) (hC_newer.app _) hs_newer hx190z _ (St.give (L := [cBlk nb0_2 [v_newer, I s6, I s7] 158, cRo Bs_25, cRo Bs_24, cRo Bs_23, cOwn (α := Int) 3 v_l9 l9, cOwn (α := Note) 30 v_l10 l10, cRo Bs_16, cOwn (α := Int) 3 v_l3 l3, cOwn (α := Pub) 33 v_l2 l2, cBlk nb0_3 [v_published, I s, I s2] 158, cRo Bs_8, cOwn (α := Note) 30 u0_7 r4, cBlk nb0_1 [v_numbers, I q12, I q22] 158, cOwn (α := Raw 2) 60 u0_4 rr1_5, cRo Bs2_6]) (A := [cBlk nb0_2 [v_newer, I s6, I s7] 158]) (T := [cRo Bs_25, cRo Bs_24, cRo Bs_23, cOwn (α := Int) 3 v_l9 l9, cOwn (α := Note) 30 v_l10 l10, cRo Bs_16, cOwn (α := Int) 3 v_l3 l3, cOwn (α := Pub) 33 v_l2 l2, cBlk nb0_3 [v_published, I s, I s2] 158, cRo Bs_8, cOwn (α := Note) 30 u0_7 r4, cBlk nb0_1 [v_numbers, I q12, I q22] 158, cOwn (α := Raw 2) 60 u0_4 rr1_5, cRo Bs2_6]) (H.pick [14, 0, 1, 2, 3, 4, 5, 6, 7, 8, 9, 10, 11, 12, 13] (by decide) rfl) rfl)) ?_
 rintro vq w192z ⟨r16, q112, q212, u0_27, hr193z, hvq, H2_⟩
 subst hr193z
 subst vq
 try dsimp only at hM
 replace H : St w w192z [cOwn (α := Int) 3 u0_27 r16, cBlk nb0_2 [v_newer, I q112, I q212] 158, cRo Bs_25, cRo Bs_24, cRo Bs_23, cOwn (α := Int) 3 v_l9 l9, cOwn (α := Note) 30 v_l10 l10, cRo Bs_16, cOwn (α := Int) 3 v_l3 l3, cOwn (α := Pub) 33 v_l2 l2, cBlk nb0_3 [v_published, I s, I s2] 158, cRo Bs_8, cOwn (α := Note) 30 u0_7 r4, cBlk nb0_1 [v_numbers, I q12, I q22] 158, cOwn (α := Raw 2) 60 u0_4 rr1_5, cRo Bs2_6] R := H.pick [14, 0, 1, 2, 3, 4, 5, 6, 7, 8, 9, 10, 11, 12, 13] (by decide) rfl |>.back H2_ rfl
 clear H2_
 refine sA u0_27 rfl <| s_nil <| W.seq <| W.region rfl <| sM v_l2 rfl ?_
 have hl194z := ((ownSl (H.get (k := 9) rfl))).len_le
 refine s_val (x_lenS T24.und rfl (ownSl (H.get (k := 9) rfl))) ?_
 obtain ⟨sd195z, hM⟩ := M.e_grd hM
 simp only [Bool.and_eq_true, decide_eq_true_eq] at sd195z
 refine t_mk (α := Pub) T24 (default : Pub) rfl (n := (l2.length : Int)) H rfl rfl (by omega) (by omega) (by omega) ?_
 intro v196z w197z H
 replace H : St w w197z [cOwn (α := Pub) 33 v196z (List.replicate (l2.length) (default : Pub)), cOwn (α := Int) 3 u0_27 r16, cBlk nb0_2 [v_newer, I q112, I q212] 158, cRo Bs_25, cRo Bs_24, cRo Bs_23, cOwn (α := Int) 3 v_l9 l9, cOwn (α := Note) 30 v_l10 l10, cRo Bs_16, cOwn (α := Int) 3 v_l3 l3, cOwn (α := Pub) 33 v_l2 l2, cBlk nb0_3 [v_published, I s, I s2] 158, cRo Bs_8, cOwn (α := Note) 30 u0_7 r4, cBlk nb0_1 [v_numbers, I q12, I q22] 158, cOwn (α := Raw 2) 60 u0_4 rr1_5, cRo Bs2_6] R := H
 refine sA v196z rfl <| s_nil <| W.seq <| W.seq <| W.region rfl <| sM u0_27 rfl ?_
 have hl198z := ((ownSl (H.get (k := 1) rfl))).len_le
 refine s_val (x_lenS T34.und rfl (ownSl (H.get (k := 1) rfl))) <| sM (I 0) rfl <| s_nil <| W.block ?_
 obtain ⟨ex199z, hi200z, hk201z⟩ := M.e_bind hM
 obtain ⟨m0_, hi200z⟩ := M.e_iter hi200z
 refine W.loop (fun m σ W => ∃ (l18 : List Pub) (s12 : Nat) (v_l18 : Value) (ρ : Env), σ = upds ρ [(10, u0_4), (14, v_l2), (20, v_l10), (26, u158z), (31, u0_27), (32, v_l18), (221, u0_27), (222, I (r16.length : Int)), (223, I (s12 : Int))] ∧ M.iterN (m_nilometerlaw13_NotesHeld_b3 l2 r16) m (l18, s12) = some ex199z ∧ St w W [cOwn (α := Pub) 33 v_l18 l18, cOwn (α := Int) 3 u0_27 r16, cBlk nb0_2 [v_newer, I q112, I q212] 158, cRo Bs_25, cRo Bs_24, cRo Bs_23, cOwn (α := Int) 3 v_l9 l9, cOwn (α := Note) 30 v_l10 l10, cRo Bs_16, cOwn (α := Int) 3 v_l3 l3, cOwn (α := Pub) 33 v_l2 l2, cBlk nb0_3 [v_published, I s, I s2] 158, cRo Bs_8, cOwn (α := Note) 30 u0_7 r4, cBlk nb0_1 [v_numbers, I q12, I q22] 158, cOwn (α := Raw 2) 60 u0_4 rr1_5, cRo Bs2_6] R) ?_ ?_
 ·exact ⟨_, List.replicate (l2.length) (default : Pub), 0, v196z, _, upds_of _ _ ⟨rfl, rfl, rfl, rfl, rfl, rfl, rfl, rfl, rfl, trivial⟩, hi200z, H⟩
 rintro m204z σ w202z ⟨l18, s12, v_l18, ρ, rfl, hI203z, H⟩
 obtain ⟨m205z, lt206z, x207z, hM, hN208z⟩ := M.e_iterN hI203z
 simp only [m_nilometerlaw13_NotesHeld_b3] at hM
 clear hI203z
 refine W.seq <| W.region rfl <| sC (s12 : Int) (r16.length : Int) (decide ((s12 : Int) < (r16.length : Int))) rfl rfl rfl <| s_nil <| W.seq ?_
 refine W.cond (decide ((s12 : Int) < (r16.length : Int))) rfl (fun c209z => ?_) (fun c209z => ?_)
 ·replace hM := M.e_t hM c209z
  simp only [qz1, qz2, qz3, qz4, qz5, qz6, ne_eq, qz7] at c209z
  refine W.skip <| W.seq <| W.block <| W.seq <| W.region rfl <| sM (I (s12 : Int)) rfl ?_
  obtain ⟨sd210z, hM⟩ := M.e_grd hM
  simp only [Bool.and_eq_true, decide_eq_true_eq] at sd210z
  refine s_val (x_ix (a := u0_27) (b := I (s12 : Int)) (v := vat u0_27 1 (Int.toNat (s12 : Int))) rfl rfl (Sl.ix (α := Int) T34.und T34.size (ownSl (H.get (k := 1) rfl)) (by omega) (by omega))) <| s_val (x_ld (p := vat u0_27 1 (Int.toNat (s12 : Int))) (v := I (r16.getD s12 0)) rfl (ld_sc Sc3 (At.mono (Int_at (ownSl (H.get (k := 1) rfl)) (i := (s12 : Int)) (by omega) (by omega)) (ownLe _ (H.get (k := 1) rfl))))) <| sA (I (s12 : Int)) rfl <| sA (I (r16.getD s12 0)) rfl <| s_nil <| W.region rfl <| sM v_l18 rfl <| sM (I (s12 : Int)) rfl <| sM v_l2 rfl <| sM (I (r16.getD s12 0)) rfl ?_
  obtain ⟨sd211z, hM⟩ := M.e_grd hM
  simp only [Bool.and_eq_true, decide_eq_true_eq] at sd211z
  refine s_val (x_ix (a := v_l2) (b := I (r16.getD s12 0)) (v := vat v_l2 2 (Int.toNat (r16.getD s12 0))) rfl rfl (Sl.ix (α := Pub) T24.und T24.size (ownSl (H.get (k := 10) rfl)) (by omega) (by omega))) <| s_val (x_ld (p := vat v_l2 2 (Int.toNat (r16.getD s12 0))) (v := .agg #[I ((l2.getD (Int.toNat (r16.getD s12 0)) default).work), I ((l2.getD (Int.toNat (r16.getD s12 0)) default).value)]) rfl (ld_ag Ag33 Sz33 (At.mono (Pub_atA (ownSl (H.get (k := 10) rfl)) (i := r16.getD s12 0) (by omega) (by omega)) (ownLe _ (H.get (k := 10) rfl))))) ?_
  obtain ⟨sd212z, hM⟩ := M.e_grd hM
  simp only [Bool.and_eq_true, decide_eq_true_eq] at sd212z
  refine s_val (x_ix (a := v_l18) (b := I (s12 : Int)) (v := vat v_l18 2 (Int.toNat (s12 : Int))) rfl rfl (Sl.ix (α := Pub) T24.und T24.size (ownSl (H.get (k := 0) rfl)) (by omega) (by omega))) ?_
  refine t_ost (k := 0) (i := (s12 : Int)) (l := l18) (l' := l18.set s12 (l2.getD (Int.toNat (r16.getD s12 0)) default)) (val := .agg #[I ((l2.getD (Int.toNat (r16.getD s12 0)) default).work), I ((l2.getD (Int.toNat (r16.getD s12 0)) default).value)]) (L' := [cOwn (α := Pub) 33 v_l18 (l18.set s12 (l2.getD (Int.toNat (r16.getD s12 0)) default)), cOwn (α := Int) 3 u0_27 r16, cBlk nb0_2 [v_newer, I q112, I q212] 158, cRo Bs_25, cRo Bs_24, cRo Bs_23, cOwn (α := Int) 3 v_l9 l9, cOwn (α := Note) 30 v_l10 l10, cRo Bs_16, cOwn (α := Int) 3 v_l3 l3, cOwn (α := Pub) 33 v_l2 l2, cBlk nb0_3 [v_published, I s, I s2] 158, cRo Bs_8, cOwn (α := Note) 30 u0_7 r4, cBlk nb0_1 [v_numbers, I q12, I q22] 158, cOwn (α := Raw 2) 60 u0_4 rr1_5, cRo Bs2_6]) H rfl Sz33 (by omega) (by omega) (l2.getD (Int.toNat (r16.getD s12 0)) default) rfl rfl rfl rfl rfl ?_
  intro w213z H
  refine s_nil <| W.region rfl <| s_val (x_ari (a := (s12 : Int)) (b := 1) (r := (s12 : Int) + 1) rfl rfl rfl (by omega)) <| sM (I ((s12 : Int) + 1)) rfl <| s_nil ?_
  exact ⟨m205z, lt206z, l18.set s12 (l2.getD (Int.toNat (r16.getD s12 0)) default), s12 + 1, v_l18, _, upds_of _ _ ⟨rfl, rfl, rfl, rfl, rfl, rfl, rfl, rfl, rfl, trivial⟩, M.e_inl hM hN208z, H⟩
 replace hM := M.e_f hM c209z
 simp only [qz1, qz2, qz3, qz4, qz5, qz6, ne_eq, qz7] at c209z
 refine W.exit ?_
 have hX214z := M.e_inr hM hN208z
 subst hX214z
 replace hM := hk201z
 try dsimp only at hM
 refine W.seq <| W.region rfl <| sM u0_4 rfl <| sM v_l10 rfl <| sM v_l18 rfl ?_
 obtain ⟨⟨l21, e6⟩, hx218z, hM⟩ := M.e_bind hM
 obtain ⟨hq219z, hq220z⟩ := Prod.mk.inj (M.e_pure hx218z)
 try dsimp only at hM
 refine s_call cf26 [u0_4, v_l10, v_l18] rfl (by have hc_ := (Withdrawn_any _ ((rowSl rfl (H.get (k := 15) rfl) (roLe _ (H.get (k := 16) rfl)) hf17z).mono (Cells.sup_le (ownLe _ (H.get (k := 15) rfl)) (roLe _ (H.get (k := 16) rfl)))) ((ownSl (H.get (k := 7) rfl)).mono (ownLe _ (H.get (k := 7) rfl))) ((ownSl (H.get (k := 0) rfl)).mono (ownLe _ (H.get (k := 0) rfl)))); rw [hq219z, hq220z] at hc_; exact hc_) ?_
 rintro _ w215z ⟨u216z, rfl, hs217z, hx_⟩
 obtain ⟨Bs_29, H, hs217z⟩ := H.fresh hx_ hs217z
 clear hx_
 have hl_hs217z := hs217z.len_le
 refine sM (.tuple #[u216z, I e6]) rfl <| s_val (x_ext (vs := [u216z, I e6]) (v := u216z) rfl rfl) <| s_val (x_ext (vs := [u216z, I e6]) (v := I e6) rfl rfl) <| sA u216z rfl <| sA (I e6) rfl <| s_nil <| W.seq <| W.seq <| W.region rfl <| sM (I e6) rfl <| sC e6 0 (e6 != 0) rfl rfl rfl <| sM (B (e6 != 0)) rfl ?_
 refine g_val (!(e6 != 0)) (gy_f rfl) (fun hg => x_mv (v := u216z) rfl) <| g_val (!(e6 != 0)) (gy_f rfl) (fun hg => x_lenS T34.und (gd_of (c := !(e6 != 0)) hg (u216z)) hs217z) <| g_val (!(e6 != 0)) (gy_f rfl) (fun hg => x_mv (v := u158z) rfl) <| g_val (!(e6 != 0)) (gy_f rfl) (fun hg => x_lenS T34.und (gd_of (c := !(e6 != 0)) hg (u158z)) hs159z) <| g_val (!(e6 != 0)) (gy_f rfl) (fun hg => x_cmp (kd := .i64) (a := (l21.length : Int)) (b := (l17.length : Int)) (r := (l21.length : Int) != (l17.length : Int)) (gd_of (c := !(e6 != 0)) hg (I (l21.length : Int))) (gd_of (c := !(e6 != 0)) hg (I (l17.length : Int))) rfl) <| s_val (x_por (b := e6 != 0) (r := (l21.length : Int) != (l17.length : Int)) rfl rfl (fun hb => gd_of (c := !(e6 != 0)) (by simp_all) (B ((l21.length : Int) != (l17.length : Int))))) <| s_nil ?_
 refine W.cond ((e6 != 0) || ((l21.length : Int) != (l17.length : Int))) rfl (fun c223z => ?_) (fun c223z => ?_)
 ·replace hM := M.e_t hM c223z
  refine W.seq <| W.region rfl <| sA (B false) rfl <| s_nil ?_
  refine W.ret ?_
  have hr_ := M.e_pure hM
  exact ⟨_, resE_tmp rfl, ⟨false, hr_, rfl, (H.pick [] (by decide) rfl)⟩⟩
 replace hM := M.e_f hM c223z
 refine W.skip <| W.seq <| W.seq <| W.region rfl <| sM u216z rfl ?_
 have hl224z := (hs217z).len_le
 refine s_val (x_lenS T34.und rfl hs217z) <| sM (I 0) rfl <| s_nil <| W.block ?_
 obtain ⟨ex225z, hi226z, hk227z⟩ := M.e_bind hM
 obtain ⟨m0_, hi226z⟩ := M.e_iter hi226z
 refine W.loop (fun m σ W => ∃ (s13 : Nat) (ρ : Env), σ = upds ρ [(26, u158z), (31, u0_27), (252, u216z), (253, I (l21.length : Int)), (254, I (s13 : Int))] ∧ M.iterN (m_nilometerlaw13_NotesHeld_b4 l17 r16 l21) m s13 = some ex225z ∧ St w W [cRo Bs_29, cOwn (α := Pub) 33 v_l18 l18, cOwn (α := Int) 3 u0_27 r16, cBlk nb0_2 [v_newer, I q112, I q212] 158, cRo Bs_25, cRo Bs_24, cRo Bs_23, cOwn (α := Int) 3 v_l9 l9, cOwn (α := Note) 30 v_l10 l10, cRo Bs_16, cOwn (α := Int) 3 v_l3 l3, cOwn (α := Pub) 33 v_l2 l2, cBlk nb0_3 [v_published, I s, I s2] 158, cRo Bs_8, cOwn (α := Note) 30 u0_7 r4, cBlk nb0_1 [v_numbers, I q12, I q22] 158, cOwn (α := Raw 2) 60 u0_4 rr1_5, cRo Bs2_6] R) ?_ ?_
 ·exact ⟨_, 0, _, upds_of _ _ ⟨rfl, rfl, rfl, rfl, rfl, trivial⟩, hi226z, H⟩
 rintro m230z σ w228z ⟨s13, ρ, rfl, hI229z, H⟩
 obtain ⟨m231z, lt232z, x233z, hM, hN234z⟩ := M.e_iterN hI229z
 simp only [m_nilometerlaw13_NotesHeld_b4] at hM
 clear hI229z
 refine W.seq <| W.region rfl <| sC (s13 : Int) (l21.length : Int) (decide ((s13 : Int) < (l21.length : Int))) rfl rfl rfl <| s_nil <| W.seq ?_
 refine W.cond (decide ((s13 : Int) < (l21.length : Int))) rfl (fun c235z => ?_) (fun c235z => ?_)
 ·replace hM := M.e_t hM c235z
  simp only [qz1, qz2, qz3, qz4, qz5, qz6, ne_eq, qz7] at c235z
  refine W.skip <| W.seq <| W.block <| W.seq <| W.region rfl ?_
  obtain ⟨sd236z, hM⟩ := M.e_grd hM
  simp only [Bool.and_eq_true, decide_eq_true_eq] at sd236z
  refine s_val (x_ix (a := u216z) (b := I (s13 : Int)) (v := vat u216z 1 (Int.toNat (s13 : Int))) rfl rfl (Sl.ix (α := Int) T34.und T34.size hs217z (by omega) (by omega))) <| s_val (x_ld (p := vat u216z 1 (Int.toNat (s13 : Int))) (v := I (l21.getD s13 0)) rfl (ld_sc Sc3 (At.mono (Int_at hs217z (i := (s13 : Int)) (by omega) (by omega)) (roLe _ (H.get (k := 0) rfl))))) <| sA (I (l21.getD s13 0)) rfl <| s_nil <| W.seq <| W.region rfl <| sM (I (l21.getD s13 0)) rfl <| sC (l21.getD s13 0) 0 (decide ((l21.getD s13 0) < 0)) rfl rfl rfl <| sM (B (decide ((l21.getD s13 0) < 0))) rfl <| g_val (!(decide ((l21.getD s13 0) < 0))) (gy_f rfl) (fun hg => x_mv (v := I (l21.getD s13 0)) rfl) <| g_val (!(decide ((l21.getD s13 0) < 0))) (gy_f rfl) (fun hg => x_mv (v := u0_27) rfl) <| g_val (!(decide ((l21.getD s13 0) < 0))) (gy_f rfl) (fun hg => x_lenS T34.und (gd_of (c := !(decide ((l21.getD s13 0) < 0))) hg (u0_27)) (ownSl (H.get (k := 2) rfl))) ?_
  refine g_val (!(decide ((l21.getD s13 0) < 0))) (gy_f rfl) (fun hg => x_cmp (kd := .i64) (a := l21.getD s13 0) (b := (r16.length : Int)) (r := decide ((r16.length : Int) ≤ (l21.getD s13 0))) (gd_of (c := !(decide ((l21.getD s13 0) < 0))) hg (I (l21.getD s13 0))) (gd_of (c := !(decide ((l21.getD s13 0) < 0))) hg (I (r16.length : Int))) rfl) <| s_val (x_por (b := decide ((l21.getD s13 0) < 0)) (r := decide ((r16.length : Int) ≤ (l21.getD s13 0))) rfl rfl (fun hb => gd_of (c := !(decide ((l21.getD s13 0) < 0))) (by simp_all) (B (decide ((r16.length : Int) ≤ (l21.getD s13 0)))))) <| sM (B ((decide ((l21.getD s13 0) < 0)) || (decide ((r16.length : Int) ≤ (l21.getD s13 0))))) rfl <| g_val (!((decide ((l21.getD s13 0) < 0)) || (decide ((r16.length : Int) ≤ (l21.getD s13 0))))) (gy_f rfl) (fun hg => x_mv (v := u158z) rfl) <| g_val (!((decide ((l21.getD s13 0) < 0)) || (decide ((r16.length : Int) ≤ (l21.getD s13 0))))) (gy_f rfl) (fun hg => x_mv (v := u0_27) rfl) <| g_val (!((decide ((l21.getD s13 0) < 0)) || (decide ((r16.length : Int) ≤ (l21.getD s13 0))))) (gy_f rfl) (fun hg => x_mv (v := I (l21.getD s13 0)) rfl) ?_
  obtain ⟨sd238z, hM⟩ := M.e_grd hM
  replace sd238z := M.imp_of sd238z
  simp only [Bool.and_eq_true, decide_eq_true_eq] at sd238z
  refine g_val (!((decide ((l21.getD s13 0) < 0)) || (decide ((r16.length : Int) ≤ (l21.getD s13 0))))) (gy_f rfl) (fun hg => x_ix (a := u0_27) (b := I (l21.getD s13 0)) (v := vat u0_27 1 (Int.toNat (l21.getD s13 0))) (gd_of (c := !((decide ((l21.getD s13 0) < 0)) || (decide ((r16.length : Int) ≤ (l21.getD s13 0))))) hg (u0_27)) (gd_of (c := !((decide ((l21.getD s13 0) < 0)) || (decide ((r16.length : Int) ≤ (l21.getD s13 0))))) hg (I (l21.getD s13 0))) (Sl.ix (α := Int) T34.und T34.size (ownSl (H.get (k := 2) rfl)) (by have h1_ := sd238z.resolve_left (by rw [hg]; decide); first | omega | (have hx_ := hg; simp at hx_; omega)) (by have h1_ := sd238z.resolve_left (by rw [hg]; decide); first | omega | (have hx_ := hg; simp at hx_; omega)))) <| g_val (!((decide ((l21.getD s13 0) < 0)) || (decide ((r16.length : Int) ≤ (l21.getD s13 0))))) (gy_f rfl) (fun hg => x_ld (p := vat u0_27 1 (Int.toNat (l21.getD s13 0))) (v := I (r16.getD (Int.toNat (l21.getD s13 0)) 0)) (gd_of (c := !((decide ((l21.getD s13 0) < 0)) || (decide ((r16.length : Int) ≤ (l21.getD s13 0))))) hg (vat u0_27 1 (Int.toNat (l21.getD s13 0)))) (ld_sc Sc3 (At.mono (Int_at (ownSl (H.get (k := 2) rfl)) (i := l21.getD s13 0) (by have h1_ := sd238z.resolve_left (by rw [hg]; decide); first | omega | (have hx_ := hg; simp at hx_; omega)) (by have h1_ := sd238z.resolve_left (by rw [hg]; decide); first | omega | (have hx_ := hg; simp at hx_; omega))) (ownLe _ (H.get (k := 2) rfl))))) ?_
  refine t_gcall (!((decide ((l21.getD s13 0) < 0)) || (decide ((r16.length : Int) ≤ (l21.getD s13 0))))) (gy_f rfl) cf45 (B (l17.contains (r16.getD (Int.toNat (l21.getD s13 0)) 0))) (fun _ => [u158z, I (r16.getD (Int.toNat (l21.getD s13 0)) 0)]) (fun hg => lst2 (gd_of (c := !((decide ((l21.getD s13 0) < 0)) || (decide ((r16.length : Int) ≤ (l21.getD s13 0))))) hg (u158z)) (gd_of (c := !((decide ((l21.getD s13 0) < 0)) || (decide ((r16.length : Int) ≤ (l21.getD s13 0))))) hg (I (r16.getD (Int.toNat (l21.getD s13 0)) 0)))) H (fun hg => Ret.mono (contains_int (r16.getD (Int.toNat (l21.getD s13 0)) 0) _ (hs159z.mono (roLe _ (H.get (k := 4) rfl)))) fun v_ w_ ⟨hv_, hx_⟩ => ⟨hv_, H.ext hx_⟩) ?_
  intro w239z H
  refine g_val (!((decide ((l21.getD s13 0) < 0)) || (decide ((r16.length : Int) ≤ (l21.getD s13 0))))) (gy_f rfl) (fun hg => x_not (b := l17.contains (r16.getD (Int.toNat (l21.getD s13 0)) 0)) (gd_of (c := !((decide ((l21.getD s13 0) < 0)) || (decide ((r16.length : Int) ≤ (l21.getD s13 0))))) hg (B (l17.contains (r16.getD (Int.toNat (l21.getD s13 0)) 0))))) <| s_val (x_por (b := ((decide ((l21.getD s13 0) < 0)) || (decide ((r16.length : Int) ≤ (l21.getD s13 0))))) (r := !(l17.contains (r16.getD (Int.toNat (l21.getD s13 0)) 0))) rfl rfl (fun hb => gd_of (c := !((decide ((l21.getD s13 0) < 0)) || (decide ((r16.length : Int) ≤ (l21.getD s13 0))))) (by simp_all) (B (!(l17.contains (r16.getD (Int.toNat (l21.getD s13 0)) 0)))))) <| s_nil ?_
  refine W.cond (((decide ((l21.getD s13 0) < 0)) || (decide ((r16.length : Int) ≤ (l21.getD s13 0)))) || (!(l17.contains (r16.getD (Int.toNat (l21.getD s13 0)) 0)))) rfl (fun c240z => ?_) (fun c240z => ?_)
  ·replace hM := M.e_t hM c240z
   refine W.seq <| W.region rfl <| sA (B false) rfl <| s_nil ?_
   refine W.ret ?_
   have hX241z := M.e_inr hM hN234z
   subst hX241z
   replace hM := hk227z
   try dsimp only at hM
   have hr_ := M.e_pure hM
   exact ⟨_, resE_tmp rfl, ⟨false, hr_, rfl, (H.pick [] (by decide) rfl)⟩⟩
  replace hM := M.e_f hM c240z
  refine W.skip <| W.region rfl <| s_val (x_ari (a := (s13 : Int)) (b := 1) (r := (s13 : Int) + 1) rfl rfl rfl (by omega)) <| sM (I ((s13 : Int) + 1)) rfl <| s_nil ?_
  exact ⟨m231z, lt232z, s13 + 1, _, upds_of _ _ ⟨rfl, rfl, rfl, rfl, rfl, trivial⟩, M.e_inl hM hN234z, H⟩
 replace hM := M.e_f hM c235z
 simp only [qz1, qz2, qz3, qz4, qz5, qz6, ne_eq, qz7] at c235z
 refine W.exit ?_
 have hX242z := M.e_inr hM hN234z
 subst hX242z
 replace hM := hk227z
 try dsimp only at hM
 refine W.seq <| W.region rfl ?_
 obtain ⟨r244z, hx243z, hM⟩ := M.e_bind hM
 refine s_call cf17 [] rfl (nilometerlaw13_awake_ok hx243z _ (St.give (T := [cRo Bs_29, cOwn (α := Pub) 33 v_l18 l18, cOwn (α := Int) 3 u0_27 r16, cBlk nb0_2 [v_newer, I q112, I q212] 158, cRo Bs_25, cRo Bs_24, cRo Bs_23, cOwn (α := Int) 3 v_l9 l9, cOwn (α := Note) 30 v_l10 l10, cRo Bs_16, cOwn (α := Int) 3 v_l3 l3, cOwn (α := Pub) 33 v_l2 l2, cBlk nb0_3 [v_published, I s, I s2] 158, cRo Bs_8, cOwn (α := Note) 30 u0_7 r4, cBlk nb0_1 [v_numbers, I q12, I q22] 158, cOwn (α := Raw 2) 60 u0_4 rr1_5, cRo Bs2_6]) H rfl)) ?_
 rintro vq w245z ⟨r17, hr246z, hvq, H2_⟩
 subst hr246z
 subst vq
 try dsimp only at hM
 replace H : St w w245z [cRo Bs_29, cOwn (α := Pub) 33 v_l18 l18, cOwn (α := Int) 3 u0_27 r16, cBlk nb0_2 [v_newer, I q112, I q212] 158, cRo Bs_25, cRo Bs_24, cRo Bs_23, cOwn (α := Int) 3 v_l9 l9, cOwn (α := Note) 30 v_l10 l10, cRo Bs_16, cOwn (α := Int) 3 v_l3 l3, cOwn (α := Pub) 33 v_l2 l2, cBlk nb0_3 [v_published, I s, I s2] 158, cRo Bs_8, cOwn (α := Note) 30 u0_7 r4, cBlk nb0_1 [v_numbers, I q12, I q22] 158, cOwn (α := Raw 2) 60 u0_4 rr1_5, cRo Bs2_6] R := H.back H2_ rfl
 clear H2_
 refine sA (B r17) rfl <| s_nil ?_
 refine W.ret ?_
 have hr_ := M.e_pure hM
 exact ⟨_, resE_tmp rfl, ⟨r17, hr_, rfl, (H.pick [] (by decide) rfl)⟩⟩

end Go.Proofs.Ytndobgodeicloaa
end
namespace Go.Nm
variable {ws : List Work}
/-- Publications of which some are wrong by one. -/
structure PubOk (ws : List Work) (V : List Int) (i : Nat) (p : List Pub) (wr : List Int) : Prop where
  len : p.length = i
  at_ : ∀ x ∈ p, 0 ≤ x.work ∧ x.work < (ws.length : Int)
  wr : wr = wdT V p p.length
theorem PubOk.put {V : List Int} {i : Nat} {p : List Pub} {wr : List Int} (h : PubOk ws V i p wr) {w : Int} (w0 : 0 ≤ w) (w1 : w < (ws.length : Int)) (hV : 0 ≤ V.getD w.toNat 0) : PubOk ws V (i + 1) (p ++ [⟨w, V.getD w.toNat 0⟩]) wr := by
  refine ⟨by simp [h.len], fun x hx => ?_, ?_⟩
  · rcases List.mem_append.1 hx with hx | hx
    · exact h.at_ x hx
    · rw [List.mem_singleton.1 hx]; exact ⟨w0, w1⟩
  · rw [show (p ++ [(⟨w, V.getD w.toNat 0⟩ : Pub)]).length = p.length + 1 from by simp, wdT_snoc, if_neg, h.wr]
    unfold wdAt
    dsimp only
    rw [bne_self_eq_false, Bool.or_false, Bool.not_eq_true, beq_eq_false_iff_ne]
    omega
theorem PubOk.bad {V : List Int} {i : Nat} {p : List Pub} {wr : List Int} (h : PubOk ws V i p wr) {w : Int} (w0 : 0 ≤ w) (w1 : w < (ws.length : Int)) : PubOk ws V (i + 1) (p ++ [⟨w, V.getD w.toNat 0 + 1⟩]) (wr ++ [(i : Int)]) := by
  refine ⟨by simp [h.len], fun x hx => ?_, ?_⟩
  · rcases List.mem_append.1 hx with hx | hx
    · exact h.at_ x hx
    · rw [List.mem_singleton.1 hx]; exact ⟨w0, w1⟩
  · rw [show (p ++ [(⟨w, V.getD w.toNat 0 + 1⟩ : Pub)]).length = p.length + 1 from by simp, wdT_snoc, if_pos, h.wr, h.len]
    unfold wdAt
    dsimp only
    rw [Bool.or_eq_true, bne_iff_ne]
    exact .inr (by omega)
/-- Newer notes of some sources. -/
structure NewOk (ws : List Work) (l : List Note) (i : Nat) (m : List Note) (rv : List Int) : Prop where
  app : ∃ e, m = l ++ e ∧ (∀ n ∈ e, n.work ∈ rv) ∧ e.length ≤ i
  src : ∀ n ∈ m, 0 ≤ n.work ∧ n.work < (ws.length : Int) ∧ (ws.getD n.work.toNat default).of = []
  rng : ∀ n ∈ m, 0 ≤ n.version ∧ n.version ≤ 20 ∧ 0 ≤ n.value ∧ n.value < 2000
  uniq : Uniq m
  new : ∀ n ∈ m, n.version = 20 → n.work < (i : Int)
  asc : rv.Pairwise (· < ·)
  lt : ∀ x ∈ rv, 0 ≤ x ∧ x < (i : Int)
theorem NewOk.skip {l m : List Note} {i : Nat} {rv : List Int} (h : NewOk ws l i m rv) : NewOk ws l (i + 1) m rv := by
  obtain ⟨e, h1, h2, h3⟩ := h.app
  exact ⟨⟨e, h1, h2, by omega⟩, h.src, h.rng, h.uniq, fun n hn hv => by have := h.new n hn hv; omega, h.asc, fun x hx => by have := h.lt x hx; omega⟩
theorem NewOk.put {l m : List Note} {i : Nat} {rv : List Int} (h : NewOk ws l i m rv) (hi : i < ws.length) (ho : (ws.getD i default).of = []) {z : Int} (z0 : 0 ≤ z) (z1 : z < 2000) : NewOk ws l (i + 1) (m ++ [⟨(i : Int), 20, z⟩]) (rv ++ [(i : Int)]) := by
  obtain ⟨e, h1, h2, h3⟩ := h.app
  refine ⟨⟨e ++ [⟨(i : Int), 20, z⟩], by rw [h1, List.append_assoc], fun n hn => ?_, by simp only [List.length_append, List.length_cons, List.length_nil]; omega⟩, fun n hn => ?_, fun n hn => ?_, ?_, fun n hn hv => ?_, pair_snoc h.asc (fun y hy => (h.lt y hy).2), fun x hx => ?_⟩
  · rcases List.mem_append.1 hn with hn | hn
    · exact List.mem_append_left _ (h2 n hn)
    · rw [List.mem_singleton.1 hn]; simp
  · rcases List.mem_append.1 hn with hn | hn
    · exact h.src n hn
    · rw [List.mem_singleton.1 hn]; exact ⟨by dsimp only; omega, by dsimp only; omega, by dsimp only; rw [Int.toNat_natCast]; exact ho⟩
  · rcases List.mem_append.1 hn with hn | hn
    · exact h.rng n hn
    · rw [List.mem_singleton.1 hn]; exact ⟨by dsimp only; omega, by dsimp only; omega, z0, z1⟩
  · refine h.uniq.add (n := ⟨(i : Int), 20, z⟩) (fun a ha => ?_) (fun a ha hh => ?_)
    · rcases List.mem_append.1 ha with ha | ha
      · exact .inl ha
      · exact .inr (List.mem_singleton.1 ha)
    · have := h.new a ha hh.2
      dsimp only at hh
      omega
  · rcases List.mem_append.1 hn with hn | hn
    · have := h.new n hn hv; omega
    · rw [List.mem_singleton.1 hn]; dsimp only; omega
  · rcases List.mem_append.1 hx with hx | hx
    · have := h.lt x hx; omega
    · rw [List.mem_singleton.1 hx]; omega
theorem perm_map {p : List Pub} {r : List Int} (h : r.Perm (upto p.length)) : (r.map fun k => p.getD k.toNat default).Perm p := by
  have h1 := h.map (fun k : Int => p.getD k.toNat default)
  have h2 : (upto p.length).map (fun k : Int => p.getD k.toNat default) = p := by
    unfold upto
    rw [List.map_map]
    exact range_map_getD p default
  rw [h2] at h1
  exact h1
theorem getD_map {r : List Int} (f : Int → Pub) {j : Nat} (hj : j < r.length) (d : Pub) : (r.map f).getD j d = f (r.getD j 0) := by
  rw [getD_el _ (by simpa using hj), List.getElem_map, getD_el r hj 0]
end Go.Nm
namespace Go.Proofs.Ytndobgodeicloaa
open Go Go.Nm
variable {ws : List Work}
theorem held_pub {b : List UInt8} {c u x : Int} (h : SOk c u x) (hc : c ≤ 100000000) {V : List Int} (hV : V.length = ws.length) (hk : ∀ i, i < ws.length → 0 ≤ V.getD i 0 ∧ V.getD i 0 ≤ 1000002) (h2 : 2 ≤ ws.length) (hl : ws.length ≤ 30) {n : Int} (n0 : 0 ≤ n) (n1 : n ≤ 100) :
    (M.iter (m_nilometerlaw13_NotesHeld_b0 b ws V n) (u, x, 0, [], [])).Out (fun y => PubOk ws V n.toNat y.2.2.2.1 y.2.2.1) := by
  refine M.o_for n.toNat (fun i st => st.2.2.1 = i ∧ SOk (c + 2 * (i : Int)) st.1 st.2.1 ∧ PubOk ws V i st.2.2.2.1 st.2.2.2.2) ?_ ?_ (s := (u, x, 0, [], [])) ⟨rfl, h.mono (by omega), ⟨rfl, by simp, rfl⟩⟩
  · rintro i ⟨u, x, j, p, wr⟩ hi ⟨rfl, ok, hp⟩
    dsimp only at hi ok hp ⊢
    have hpl := hp.len
    have hwl := wdT_len V p p.length
    rw [← hp.wr] at hwl
    simp only [m_nilometerlaw13_NotesHeld_b0]
    refine M.o_t (by simp; omega) (M.o_bind (next_out ok (by omega) (by omega)) ?_)
    rintro ⟨r6, u6, x6⟩ ⟨ok6, l6, _⟩
    dsimp only at ok6 l6 ⊢
    have l6 := l6 (by omega)
    have hv := hk r6.toNat (by omega)
    refine M.o_grd (gA2 l6.1 (by omega)) (M.o_bind (next_out ok6 (by omega) (by omega)) ?_)
    rintro ⟨r7, u7, x7⟩ ⟨ok7, _, _⟩
    dsimp only at ok7 ⊢
    refine M.o_if (fun hb => ?_) (fun hb => ?_)
    · exact M.o_grd (gA2 (by omega) (by omega)) (M.o_grdD (by simp only [List.length_cons, List.length_nil]; omega) (M.o_grdD (by simp only [List.length_cons, List.length_nil]; omega) (M.o_grd (gA2 (by omega) (by omega)) (M.o_pure ⟨rfl, ok7.mono (by omega), hp.bad l6.1 l6.2⟩))))
    · exact M.o_grdD (by simp only [List.length_cons, List.length_nil]; omega) (M.o_grd (gA2 (by omega) (by omega)) (M.o_pure ⟨rfl, ok7.mono (by omega), hp.put l6.1 l6.2 hv.1⟩))
  · rintro ⟨u, x, j, p, wr⟩ ⟨rfl, ok, hp⟩
    dsimp only at ok hp ⊢
    simp only [m_nilometerlaw13_NotesHeld_b0]
    exact M.o_f (by simp; omega) (M.o_pure hp)
theorem held_new {b : List UInt8} {c u x : Int} (h : SOk c u x) (hc : c ≤ 100000000) {l : List Note} (hN : NewOk ws l 0 l []) (hl : l.length ≤ 1000) (hw : ws.length ≤ 30) :
    (M.iter (m_nilometerlaw13_NotesHeld_b1 b ws) (u, x, l, 0, [])).Out (fun y => SOk (c + 100) y.1 y.2.1 ∧ NewOk ws l ws.length y.2.2.2.2.2 y.2.2.2.2.1) := by
  refine M.o_for ws.length (fun i st => st.2.2.2.1 = i ∧ SOk (c + 2 * (i : Int)) st.1 st.2.1 ∧ NewOk ws l i st.2.2.1 st.2.2.2.2 ∧ st.2.2.2.2.length ≤ i) ?_ ?_ (s := (u, x, l, 0, [])) ⟨rfl, h.mono (by omega), hN, Nat.le_refl _⟩
  · rintro i ⟨u, x, m, j, rv⟩ hi ⟨rfl, ok, hm, hr⟩
    dsimp only at hi ok hm hr ⊢
    obtain ⟨e, e1, e2, e3⟩ := hm.app
    have hml : m.length ≤ l.length + j := by rw [e1, List.length_append]; omega
    simp only [m_nilometerlaw13_NotesHeld_b1]
    refine M.o_t (by simpa using hi) (M.o_grdD (by omega) (M.o_if (fun hb => ?_) (fun hb => ?_)))
    · have ho : (ws.getD j default).of = [] := List.eq_nil_of_length_eq_zero (by have := eq_of_beq hb; omega)
      refine M.o_bind (next_out ok (by omega) (by omega)) ?_
      rintro ⟨r, u1, x1⟩ ⟨ok1, _, _⟩
      dsimp only at ok1 ⊢
      refine M.o_if (fun hb2 => ?_) (fun hb2 => ?_)
      · refine M.o_grdD (by simp only [List.length_cons, List.length_nil]; omega) (M.o_bind (next_out ok1 (by omega) (by omega)) ?_)
        rintro ⟨r9, u9, x9⟩ ⟨ok9, l9, _⟩
        dsimp only at ok9 l9 ⊢
        have l9 := l9 (by omega)
        exact M.o_grdD (by simp only [List.length_cons, List.length_nil]; omega) (M.o_pure ⟨rfl, ok9.mono (by omega), hm.put hi ho l9.1 l9.2, by simp; omega⟩)
      · exact M.o_pure ⟨rfl, ok1.mono (by omega), hm.skip, by dsimp only; omega⟩
    · refine M.o_f (by rw [hb]; rfl) (M.o_pure ⟨rfl, ok.mono (by omega), hm.skip, by dsimp only; omega⟩)
  · rintro ⟨u, x, m, j, rv⟩ ⟨rfl, ok, hm, hr⟩
    dsimp only at ok hm hr ⊢
    simp only [m_nilometerlaw13_NotesHeld_b1]
    exact M.o_f (by simp) (M.o_pure ⟨ok.mono (by omega), hm⟩)
theorem held_each {V V' : List Int} {p : List Pub} {rv : List Int} (hp : ∀ x ∈ p, 0 ≤ x.work ∧ x.work < (ws.length : Int)) (hV' : V'.length = ws.length) (hk' : ∀ i, i < ws.length → 0 ≤ V'.getD i 0 ∧ V'.getD i 0 ≤ 1000002)
    (ha : askedE ws rv = 0) (hs : ∀ i, i < ws.length → (staleL ws rv).getD i false = false → V'.getD i 0 = V.getD i 0) :
    (M.iter (m_nilometerlaw13_NotesHeld_b2 (wdT V p p.length) p (staleR ws rv) V' (wdT V' p p.length)) 0).Ends (.inr ()) := by
  have s0 := M.i_scan (b := m_nilometerlaw13_NotesHeld_b2 (wdT V p p.length) p (staleR ws rv) V' (wdT V' p p.length)) p.length (fun _ => false) (fun i hi _ => ?_) (fun _ => ?_)
  · rw [show (List.range p.length).any (fun _ => false) = false from by simp] at s0
    exact s0
  · have hx := hp _ (getD_memN p (by omega : (i : Int) < _) default)
    have h1 := hk' (p.getD i default).work.toNat (by omega)
    have hsw := hs (p.getD i default).work.toNat (by omega)
    have con : ∀ v : List Int, (wdT v p p.length).contains (i : Int) = wdAt v (p.getD i default) := by
      intro v
      rw [Bool.eq_iff_iff, List.contains_iff_mem, wdT_mem, Int.toNat_natCast]
      exact ⟨fun h => h.2.2, fun h => ⟨by omega, by omega, h⟩⟩
    simp only [m_nilometerlaw13_NotesHeld_b2]
    refine M.i_t (by simpa using hi) (M.grdD (by omega) (M.i_grd (gA2 hx.1 (by omega)) (M.i_f ?_ M.i_pure)))
    rw [con V, con V', stale_con ha hx.1 hx.2]
    unfold wdAt
    generalize (p.getD i default).value = val at *
    generalize (p.getD i default).work.toNat = w at *
    generalize V'.getD w 0 = a at *
    generalize V.getD w 0 = b at *
    have e1 : (a == -1) = false := by rw [beq_eq_false_iff_ne]; omega
    rw [e1, Bool.false_or]
    cases hst : (staleL ws rv).getD w false with
    | true => simp
    | false =>
      have := hsw hst
      subst this
      rw [e1, Bool.false_or]
      cases a != val <;> rfl
  · simp only [m_nilometerlaw13_NotesHeld_b2]
    exact M.i_f (by simp) M.i_pure
theorem held_other {p : List Pub} {r : List Int} (hr : r.Perm (upto p.length)) : (M.iter (m_nilometerlaw13_NotesHeld_b3 p r) (List.replicate p.length default, 0)).Ends (r.map (fun k => p.getD k.toNat default), r.map (fun k => p.getD k.toNat default)) := by
  obtain ⟨hl, hx⟩ := perm_rng hr
  refine M.i_loop (fun m s => ∃ t, t ≤ p.length ∧ m = p.length - t ∧ s.2 = t ∧ s.1.length = p.length ∧ ∀ j, j < t → s.1.getD j default = p.getD (r.getD j 0).toNat default) ?_ p.length (List.replicate p.length default, 0) ⟨0, Nat.zero_le _, rfl, rfl, by simp, fun j hj => by omega⟩
  rintro m ⟨R, t'⟩ ⟨t, hle, rfl, rfl, hR, hj⟩
  dsimp only at hle hR hj ⊢
  simp only [m_nilometerlaw13_NotesHeld_b3]
  by_cases ht : t' < p.length
  · have h1 := hx _ (getD_memN r (by omega : (t' : Int) < _) 0)
    exact .inl ⟨_, p.length - (t' + 1), by omega, M.i_t (by simp; omega) (M.grdD (by omega) (M.i_grd (gA2 h1.1 h1.2) (M.grdD (by omega) M.i_pure))), t' + 1, ht, rfl, rfl, by rw [List.length_set]; exact hR, fun j hj' => by
      rw [gset _ _ _ _ _ (by omega)]
      by_cases e : j = t'
      · rw [if_pos e, e]
      · rw [if_neg e]; exact hj j (by omega)⟩
  · right
    obtain rfl : t' = p.length := by omega
    have e : R = r.map (fun k => p.getD k.toNat default) := by
      refine List.ext_getElem (by rw [hR, List.length_map, hl]) fun i h1 h2 => ?_
      have := hj i (by omega)
      rw [getD_el R h1] at this
      rw [this, List.getElem_map, getD_el r (by omega) 0]
    rw [e]
    exact M.i_f (by simp [hl]) M.i_pure
theorem held_again {V' : List Int} {p : List Pub} {r : List Int} (hr : r.Perm (upto p.length)) :
    (M.iter (m_nilometerlaw13_NotesHeld_b4 (wdT V' p p.length) r (wdT V' (r.map fun k => p.getD k.toNat default) (r.map fun k => p.getD k.toNat default).length)) 0).Ends (.inr ()) := by
  obtain ⟨hl, hx⟩ := perm_rng hr
  generalize hg : wdT V' (r.map fun k => p.getD k.toNat default) (r.map fun k => p.getD k.toNat default).length = g
  have s0 := M.i_scan (b := m_nilometerlaw13_NotesHeld_b4 (wdT V' p p.length) r g) g.length (fun _ => false) (fun i hi _ => ?_) (fun _ => ?_)
  · rw [show (List.range g.length).any (fun _ => false) = false from by simp] at s0
    exact s0
  · have hm := getD_memN g (by omega : (i : Int) < _) 0
    have hm2 := hm
    rw [← hg] at hm2
    obtain ⟨h1, h2, h3⟩ := wdT_mem.1 hm2
    rw [hg] at h1 h2 h3
    rw [List.length_map] at h2
    rw [getD_map _ (by omega)] at h3
    have h4 := hx _ (getD_memN r (i := (g.getD i 0).toNat) (by omega) 0)
    have hc : (wdT V' p p.length).contains (r.getD (Int.toNat (g.getD i 0)) 0) = true := by
      rw [List.contains_iff_mem, wdT_mem]
      exact ⟨h4.1, h4.2, h3⟩
    simp only [m_nilometerlaw13_NotesHeld_b4]
    refine M.i_t (by simpa using hi) (M.grdD (by omega) (M.i_grd (gOr2 h1 (by omega)) (M.i_f ?_ M.i_pure)))
    rw [hc, decide_eq_false (by omega), decide_eq_false (by omega)]
    rfl
  · simp only [m_nilometerlaw13_NotesHeld_b4]
    exact M.i_f (by simp) M.i_pure
theorem notesHeld_out (a b d : List UInt8) : (m_nilometerlaw13_NotesHeld a b d).Out (fun r => r = true) := by
  unfold m_nilometerlaw13_NotesHeld
  have s0 : SOk 0 0 0 := ⟨Int.le_refl _, Int.le_refl _, Int.le_refl _, by omega⟩
  refine M.o_bindE M.i_pure (M.o_bindE M.i_pure (M.o_bindE M.i_pure (M.o_bind (made_out s0 (by omega) (by omega) (by omega)) ?_)))
  rintro ⟨ws, u1, x1⟩ ⟨hW, ok1⟩
  dsimp only at hW ok1 ⊢
  have hB := hW.built
  have hO := hB.opened
  have h2 := hW.two
  have h14 := hW.most
  refine M.o_bind (noted_out ok1 (by omega) (by omega)) ?_
  rintro ⟨l, u2, x2⟩ ⟨⟨l6, l7, hl, hN⟩, ok2⟩
  dsimp only at hl hN ok2 ⊢
  have hG : NG ws l := by rw [hl]; exact hN.ng (by omega)
  have hF : Full ws l := by rw [hl]; exact hN.full
  have hll : l.length ≤ 9 * 14 := by have := hN.len6; have := hN.len7; rw [hl, List.length_append]; omega
  have hk := val_known hB hG hF
  have hVl := valL_len ws l
  refine M.o_bindE M.i_pure (M.o_f ?_ ?_)
  · rw [hG.err hO, hG.vals hO, hVl]; simp
  rw [hG.vals hO]
  refine M.o_bind (within_out s0 (by omega) (by omega) (by omega) (by omega)) ?_
  rintro ⟨n, u3, x3⟩ ⟨ok3, n0, n1⟩
  dsimp only at ok3 n0 n1 ⊢
  refine M.o_bind (held_pub ok3 (by omega) hVl hk h2 (by omega) (by omega) (by omega)) ?_
  rintro ⟨la, lb, wr, p, u4, x4⟩ hp
  dsimp only at hp ⊢
  have hpl := hp.len
  have hpa := hp.at_
  obtain rfl := hp.wr
  obtain ⟨hw1, hw2⟩ := withdrawn_ok (hG.err hO) (p := p) (by omega) hpa
  rw [hG.vals hO] at hw2
  rw [hw1, hw2]
  refine M.o_bindE M.i_pure (M.o_f (by simp) (M.o_grdD (by omega) ?_))
  have hN0 : NewOk ws l 0 l [] := by
    rw [hl]
    exact ⟨⟨[], by simp, by simp, by simp⟩, hN.src, fun n hn => by have := hN.rng n hn; omega, hN.uniq, fun n hn hv => by have := hN.rng n hn; omega, by simp, by simp⟩
  refine M.o_bind (held_new s0 (by omega) hN0 (by omega) (by omega)) ?_
  rintro ⟨u5, x5, la, lb, rv, m⟩ ⟨ok5, hm⟩
  dsimp only at ok5 hm ⊢
  obtain ⟨e, e1, e2, e3⟩ := hm.app
  have hml : m.length ≤ 200 := by rw [e1, List.length_append]; omega
  have hG' : NG ws m := ⟨hml, hm.src, fun n hn => by have := hm.rng n hn; omega, hm.uniq⟩
  have hF' : Full ws m := fun i hi he => by
    obtain ⟨n, h1, h2⟩ := hF i hi he
    exact ⟨n, by rw [e1]; exact List.mem_append_left _ h1, h2⟩
  have hk' := val_known hB hG' hF'
  have hVl' := valL_len ws m
  have hA : askedE ws rv = 0 := by rw [asked_list hO]; exact listed_of hm.lt hm.asc
  obtain ⟨hw3, hw4⟩ := withdrawn_ok (hG'.err hO) (p := p) (by omega) hpa
  rw [hG'.vals hO] at hw4
  have hsame : ∀ i, i < ws.length → (staleL ws rv).getD i false = false → (valL ws m).getD i 0 = (valL ws l).getD i 0 := by
    intro i hi hs
    rw [e1]
    exact val_same hB e2 i hi hs
  rw [hA, hG'.err hO, hG'.vals hO, hw3, hw4]
  refine M.o_bindE M.i_pure (M.o_bindE M.i_pure (M.o_bindE M.i_pure (M.o_f (by rw [hVl']; simp) ?_)))
  refine M.o_bindE (held_each hpa hVl' hk' hA hsame) (M.o_bind (mixed_out ok5 (by omega) (n := p.length) (by omega)) ?_)
  rintro ⟨r, u6, x6⟩ ⟨hr, _⟩
  dsimp only at hr ⊢
  refine M.o_grd (gA3 (by omega) (by omega) (by omega)) (M.o_bindE (held_other hr) ?_)
  have hperm := perm_map hr
  obtain ⟨hw5, hw6⟩ := withdrawn_ok (hG'.err hO) (p := r.map fun k => p.getD k.toNat default) (by rw [hperm.length_eq]; omega) (fun x hx => hpa x (hperm.mem_iff.1 hx))
  rw [hG'.vals hO] at hw6
  rw [hw5, hw6]
  refine M.o_bindE M.i_pure (M.o_f ?_ (M.o_bindE (held_again hr) (M.o_bindE awake_ends (M.o_pure rfl))))
  rw [wdT_count, wdT_count, hperm.countP_eq]
  simp
theorem notesHeld_ends (a b d : List UInt8) : (m_nilometerlaw13_NotesHeld a b d).Ends true := by
  obtain ⟨r, h, rfl⟩ := notesHeld_out a b d
  exact h
end Go.Proofs.Ytndobgodeicloaa
