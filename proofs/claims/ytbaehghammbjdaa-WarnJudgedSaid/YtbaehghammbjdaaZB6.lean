/- Part 6 of the texts on which the proof rests. Conditions: none. -/
import Derived.Test.YtbaehghammbjdaaZB5
set_option linter.unusedVariables false
set_option linter.unusedSimpArgs false
set_option linter.unusedSectionVars false
namespace Go.Nm
structure SOk (c u x : Int) : Prop where
  u0 : 0 <= u
  u1 : u <= c
  x0 : 0 <= x
  x1 : x < 251
theorem SOk.mono {c d u x : Int} (h : SOk c u x) (hd : c <= d) : SOk d u x := ⟨h.u0, Int.le_trans h.u1 hd, h.x0, h.x1⟩
/-- What a stream gives: a number below n. -/
structure Nx (c n : Int) (y : Int × Int × Int) : Prop where
  ok : SOk c y.2.1 y.2.2
  lt : 1 <= n -> 0 <= y.1 /\ y.1 < n
  no : n < 1 -> y.1 = 0
end Go.Nm
namespace Go.Proofs.Ytbaehghammbjdaa
open Go Go.Nm
theorem next_out {b : List UInt8} {c u x n : Int} (h : SOk c u x) (hc : c <= 1000000000000) (hn : n <= 1000000) : (zac b u x n).Out (Nx (c + 1) n) := by
  obtain ⟨u0, u1, x0, x1⟩ := h
  unfold zac
  refine M.o_if (fun hb => ?_) (fun hb => ?_)
  · simp only [Bool.or_eq_true, decide_eq_true_eq, beq_iff_eq] at hb
    refine M.o_pure ⟨⟨u0, by dsimp only; omega, x0, x1⟩, fun h1 => ⟨Int.le_refl _, ?_⟩, fun _ => rfl⟩
    dsimp only
    omega
  · simp only [Bool.or_eq_false_iff, decide_eq_false_iff_not, beq_eq_false_iff_ne, ne_eq] at hb
    have hl : (0 : Int) < (b.length : Int) := by omega
    have m0 := Int.emod_nonneg u (show (b.length : Int) ≠ 0 by omega)
    have m1 := Int.emod_lt_of_pos u hl
    have d0 := Int.ediv_nonneg u0 (show (0 : Int) <= (b.length : Int) by omega)
    have d1 : u / (b.length : Int) <= u := Int.ediv_le_self _ u0
    have y1 : ((b.getD (Int.toNat (u % (b.length : Int))) 0).toNat : Int) < 256 := by
      have := UInt8.toNat_lt (b.getD (Int.toNat (u % (b.length : Int))) 0)
      omega
    have y0 : (0 : Int) <= ((b.getD (Int.toNat (u % (b.length : Int))) 0).toNat : Int) := Int.natCast_nonneg _
    generalize ((b.getD (Int.toNat (u % (b.length : Int))) 0).toNat : Int) = y at *
    generalize u % (b.length : Int) = m at *
    generalize u / (b.length : Int) = d at *
    have hn0 : 0 < n := by omega
    have fin : ∀ z : Int, 0 <= z -> 0 <= z % n /\ z % n < n := fun z hz => ⟨Int.emod_nonneg _ (by omega), Int.emod_lt_of_pos _ hn0⟩
    have pr : ∀ z w : Int, 0 <= z -> Nx (c + 1) n (z % n, u + 1, w % 251) := fun z w hz => ⟨⟨by dsimp only; omega, by dsimp only; omega, by dsimp only; omega, by dsimp only; omega⟩, fun _ => fin z hz, fun h => by omega⟩
    refine M.o_grd (by simp only [Bool.and_eq_true, decide_eq_true_eq]; omega) (M.o_grd (by simp only [Bool.and_eq_true, decide_eq_true_eq]; omega) (M.o_grd (by simp only [Bool.and_eq_true, decide_eq_true_eq]; omega) ?_))
    refine M.o_if (fun h1 => ?_) (fun h1 => ?_)
    · refine M.o_grd (by simp only [Bool.and_eq_true, decide_eq_true_eq]; omega) (M.o_grd (by simp only [Bool.and_eq_true, decide_eq_true_eq]; omega) (M.o_grd (by simp only [Bool.and_eq_true, decide_eq_true_eq]; omega) (M.o_grd (by simp only [Bool.and_eq_true, decide_eq_true_eq]; omega) (M.o_grd (by simp only [Bool.and_eq_true, decide_eq_true_eq]; omega) ?_))))
      refine M.o_grd (by simp only [Bool.and_eq_true, decide_eq_true_eq]; omega) (M.o_grd (by simp only [Bool.and_eq_true, decide_eq_true_eq]; omega) (M.o_grd (by simp only [Bool.and_eq_true, decide_eq_true_eq]; omega) (M.o_grd (by simp only [Bool.and_eq_true, decide_eq_true_eq]; omega) ?_)))
      refine M.o_if (fun h2 => ?_) (fun h2 => ?_)
      · refine M.o_grd (by simp only [Bool.and_eq_true, decide_eq_true_eq]; omega) (M.o_grd (by simp only [Bool.and_eq_true, decide_eq_true_eq]; omega) (M.o_grd (by simp only [Bool.and_eq_true, decide_eq_true_eq]; omega) (M.o_pure (pr _ _ (by omega)))))
      · refine M.o_grd (by simp only [Bool.and_eq_true, decide_eq_true_eq]; omega) (M.o_pure (pr _ _ (by omega)))
    · refine M.o_grd (by simp only [Bool.and_eq_true, decide_eq_true_eq]; omega) (M.o_grd (by simp only [Bool.and_eq_true, decide_eq_true_eq]; omega) (M.o_grd (by simp only [Bool.and_eq_true, decide_eq_true_eq]; omega) (M.o_grd (by simp only [Bool.and_eq_true, decide_eq_true_eq]; omega) (M.o_grd (by simp only [Bool.and_eq_true, decide_eq_true_eq]; omega) ?_))))
      refine M.o_if (fun h2 => ?_) (fun h2 => ?_)
      · refine M.o_grd (by simp only [Bool.and_eq_true, decide_eq_true_eq]; omega) (M.o_grd (by simp only [Bool.and_eq_true, decide_eq_true_eq]; omega) (M.o_grd (by simp only [Bool.and_eq_true, decide_eq_true_eq]; omega) (M.o_pure (pr _ _ (by omega)))))
      · refine M.o_grd (by simp only [Bool.and_eq_true, decide_eq_true_eq]; omega) (M.o_pure (pr _ _ (by omega)))
theorem within_out {b : List UInt8} {c u x lo hi : Int} (h : SOk c u x) (hc : c <= 1000000000000) (h0 : -1000 <= lo) (h1 : lo <= hi) (h2 : hi <= 10000) : (zaG b u x lo hi).Out (fun y => SOk (c + 1) y.2.1 y.2.2 /\ lo <= y.1 /\ y.1 <= hi) := by
  unfold zaG
  refine M.o_grd (gA2 (by omega) (by omega)) (M.o_grd (gA2 (by omega) (by omega)) (M.o_bind (next_out h hc (by omega)) ?_))
  rintro ⟨r, u', x'⟩ ⟨k, hl, _⟩
  have := hl (by omega)
  dsimp only at this k ⊢
  exact M.o_grd (gA2 (by omega) (by omega)) (M.o_pure ⟨k, by dsimp only; omega, by dsimp only; omega⟩)
end Go.Proofs.Ytbaehghammbjdaa
namespace Go.Nm
theorem SOk.zero : SOk 0 0 0 := ⟨Int.le_refl _, Int.le_refl _, Int.le_refl _, by decide⟩
end Go.Nm
namespace Go.Proofs.Ytbaehghammbjdaa
open Go Go.Nm
end Go.Proofs.Ytbaehghammbjdaa
section
set_option maxRecDepth 100000
set_option maxHeartbeats 16000000
namespace Go.Proofs.Ytbaehghammbjdaa
open Go Go.Nm
def zbB (s_bytes : List UInt8) (i : Nat) (l : List Int) (l2 : List Span) (l3 : List Int) (down : Int) (r5 : Int) (r6 : Int) (q15 : Int) (q25 : Int) : M ((Int × Int × Nat × (List Int) × (List Span) × (List Int)) ⊕ (Int × Int × (List Int) × (List Span) × (List Int) × (List Int) × (List Span) × (List Int))) :=
  bif decide ((l3.length : Int) < 8) then (
  M.bind (zac s_bytes q15 q25 3) fun (r7, q16, q26) =>
  bif ((decide ((l3.length : Int) < 8)) && (r7 == 0)) then (
  M.grd (decide ((l3.length + ([(i : Int)]).length) * 8 <= 140737488355328)) <|
  M.grd (decide ((-9223372036854775808 : Int) <= ((i : Int) + 1)) && decide (((i : Int) + 1) <= (9223372036854775807 : Int))) <|
  M.pure (.inl (q16, q26, i + 1, l ++ ([(down : Int)]), l2 ++ ([(⟨(r5 : Int), (r5 + r6 : Int)⟩ : Span)]), l3 ++ ([(i : Int)]))))
  else (
  M.grd (decide ((-9223372036854775808 : Int) <= ((i : Int) + 1)) && decide (((i : Int) + 1) <= (9223372036854775807 : Int))) <|
  M.pure (.inl (q16, q26, i + 1, l ++ ([(down : Int)]), l2 ++ ([(⟨(r5 : Int), (r5 + r6 : Int)⟩ : Span)]), l3))))
  else (
  M.grd (decide ((-9223372036854775808 : Int) <= ((i : Int) + 1)) && decide (((i : Int) + 1) <= (9223372036854775807 : Int))) <|
  M.pure (.inl (q15, q25, i + 1, l ++ ([(down : Int)]), l2 ++ ([(⟨(r5 : Int), (r5 + r6 : Int)⟩ : Span)]), l3)))
def zao (s_bytes : List UInt8) (i : Nat) (l : List Int) (l2 : List Span) (l3 : List Int) (s2 : Int) (s3 : Int) (down : Int) : M ((Int × Int × Nat × (List Int) × (List Span) × (List Int)) ⊕ (Int × Int × (List Int) × (List Span) × (List Int) × (List Int) × (List Span) × (List Int))) :=
  M.bind (zac s_bytes s2 s3 9) fun (r5, q14, q24) =>
  M.grd (decide ((l.length + ([(down : Int)]).length) * 8 <= 140737488355328)) <|
  M.bind (zac s_bytes q14 q24 5) fun (r6, q15, q25) =>
  M.grd (decide ((-9223372036854775808 : Int) <= (r5 + r6)) && decide ((r5 + r6) <= (9223372036854775807 : Int))) <|
  M.grd (decide ((l2.length + ([(⟨(r5 : Int), (r5 + r6 : Int)⟩ : Span)]).length) * 16 <= 140737488355328)) <|
  zbB s_bytes i l l2 l3 down r5 r6 q15 q25
def zaN (s_bytes : List UInt8) (r2 : Int) : (Int × Int × Nat × (List Int) × (List Span) × (List Int)) -> M ((Int × Int × Nat × (List Int) × (List Span) × (List Int)) ⊕ (Int × Int × (List Int) × (List Span) × (List Int) × (List Int) × (List Span) × (List Int))) := fun (s4, s5, i, l, l2, l3) =>
  bif decide ((i : Int) < r2) then (
  M.grd (decide ((-9223372036854775808 : Int) <= ((i : Int) + 1)) && decide (((i : Int) + 1) <= (9223372036854775807 : Int))) <|
  bif decide (((i : Int) + 1) < r2) then (
  M.bind (zac s_bytes s4 s5 6) fun (r3, q12, q22) =>
  bif ((decide (((i : Int) + 1) < r2)) && (decide (0 < r3))) then (
  M.grd (decide ((-9223372036854775808 : Int) <= (r2 - 1)) && decide ((r2 - 1) <= (9223372036854775807 : Int))) <|
  M.grd (decide ((-9223372036854775808 : Int) <= ((i : Int) + 3)) && decide (((i : Int) + 3) <= (9223372036854775807 : Int))) <|
  M.bind (zaG s_bytes q12 q22 ((i : Int) + 1) (min (r2 - 1) ((i : Int) + 3))) fun (r4, q13, q23) =>
  zao s_bytes i l l2 l3 q13 q23 r4)
  else (
  zao s_bytes i l l2 l3 q12 q22 (-1)))
  else (
  zao s_bytes i l l2 l3 s4 s5 (-1)))
  else (
  M.pure (.inr (s4, s5, l, l2, l3, l3, l2, l)))
def za8 (s_bytes : List UInt8) (r2 : Int) : (Int × Int × Int × (List Town)) -> M ((Int × Int × Int × (List Town)) ⊕ (Int × Int × (List Town) × (List Town))) := fun (s8, s9, k, l11) =>
  bif decide (0 < k) then (
  M.bind (zac s_bytes s8 s9 r2) fun (r9, q18, q28) =>
  M.bind (zac s_bytes q18 q28 8) fun (r10, q19, q29) =>
  M.bind (zaG s_bytes q19 q29 100 300) fun (r11, q110, q210) =>
  M.grd (decide ((l11.length + ([(⟨(r9 : Int), (r10 : Int), (r11 : Int)⟩ : Town)]).length) * 24 <= 140737488355328)) <|
  M.grd (decide ((-9223372036854775808 : Int) <= (k - 1)) && decide ((k - 1) <= (9223372036854775807 : Int))) <|
  M.pure (.inl (q110, q210, k - 1, l11 ++ ([(⟨(r9 : Int), (r10 : Int), (r11 : Int)⟩ : Town)]))))
  else (
  M.pure (.inr (s8, s9, l11, l11)))
def zaA (s_bytes : List UInt8) (l9 : List Int) : (Int × Int × Int × (List Int)) -> M ((Int × Int × Int × (List Int)) ⊕ (Int × Int × (List Int) × (List Int))) := fun (s12, s13, s14, l14) =>
  bif s14 != (-1) then (
  M.bind (zac s_bytes s12 s13 400) fun (r16, q115, q215) =>
  M.grd (decide ((l14.length + ([(r16 : Int)]).length) * 8 <= 140737488355328)) <|
  M.grd (decide ((0 : Int) <= s14) && decide (s14 < (l9.length : Int))) <|
  M.pure (.inl (q115, q215, l9.getD (Int.toNat s14) 0, l14 ++ ([(r16 : Int)]))))
  else (
  M.pure (.inr (s12, s13, l14, l14)))
def zbi (s_bytes : List UInt8) (l9 : List Int) (l10 : List Int) (k2 : Int) (l17 : List Flood) (r15 : Int) (q114 : Int) (q214 : Int) : M ((Int × Int × Int × (List Flood)) ⊕ ((List Flood) × (List Flood) × Int × Int)) :=
  M.bind (M.iter (zaA s_bytes l9) (q114, q214, l10.getD (Int.toNat r15) 0, [])) fun (s15, s16, l15, l16) =>
  M.grd (decide ((l17.length + ([(⟨(l10.getD (Int.toNat r15) 0 : Int), l16⟩ : Flood)]).length) * 32 <= 140737488355328)) <|
  M.grd (decide ((-9223372036854775808 : Int) <= (k2 - 1)) && decide ((k2 - 1) <= (9223372036854775807 : Int))) <|
  M.pure (.inl (s15, s16, k2 - 1, l17 ++ ([(⟨(l10.getD (Int.toNat r15) 0 : Int), l16⟩ : Flood)])))
def zbe (s_bytes : List UInt8) (l9 : List Int) (l10 : List Int) : (Int × Int × Int × (List Flood)) -> M ((Int × Int × Int × (List Flood)) ⊕ ((List Flood) × (List Flood) × Int × Int)) := fun (s17, s18, k2, l17) =>
  bif decide (0 < k2) then (
  M.bind (zac s_bytes s17 s18 (l10.length : Int)) fun (r15, q114, q214) =>
  M.grd (decide ((0 : Int) <= r15) && decide (r15 < (l10.length : Int))) <|
  zbi s_bytes l9 l10 k2 l17 r15 q114 q214)
  else (
  M.pure (.inr (l17, l17, s17, s18)))
def zbg (s_bytes : List UInt8) (l8 : List Span) (l9 : List Int) (l10 : List Int) (l13 : List Town) (r12 : Int) (r13 : Int) (q112 : Int) (q212 : Int) : M ((List Int) × (List Span) × (List Int) × (List Town) × Int × Int × (List Flood) × Int × Int) :=
  M.bind (zac s_bytes q112 q212 10) fun (r14, q113, q213) =>
  M.bind (M.iter (zbe s_bytes l9 l10) (q113, q213, r14, [])) fun (l18, l19, s19, s20) =>
  M.pure (l9, l8, l10, l13, r12, (r12 + r13), l19, s19, s20)
def zaR (s_bytes : List UInt8) (r2 : Int) (s6 : Int) (s7 : Int) (l8 : List Span) (l9 : List Int) (l10 : List Int) : M ((List Int) × (List Span) × (List Int) × (List Town) × Int × Int × (List Flood) × Int × Int) :=
  M.bind (zac s_bytes s6 s7 8) fun (r8, q17, q27) =>
  M.bind (M.iter (za8 s_bytes r2) (q17, q27, r8, [])) fun (s10, s11, l12, l13) =>
  M.bind (zac s_bytes s10 s11 3) fun (r12, q111, q211) =>
  M.bind (zac s_bytes q111 q211 3) fun (r13, q112, q212) =>
  M.grd (decide ((-9223372036854775808 : Int) <= (r12 + r13)) && decide ((r12 + r13) <= (9223372036854775807 : Int))) <|
  zbg s_bytes l8 l9 l10 l13 r12 r13 q112 q212
def zbz (s_bytes : List UInt8) (s_used : Int) (s_mix : Int) (most : Int) : M ((List Int) × (List Span) × (List Int) × (List Town) × Int × Int × (List Flood) × Int × Int) :=
  M.bind (zaG s_bytes s_used s_mix 1 most) fun (r2, q1, q2) =>
  M.bind (M.iter (zaN s_bytes r2) (q1, q2, 0, [], [], [])) fun (s6, s7, l4, l5, l6, l7, l8, l9) =>
  bif (l7.length : Int) == 0 then (
  zaR s_bytes r2 s6 s7 l8 l9 ([(0 : Int)]))
  else (
  zaR s_bytes r2 s6 s7 l8 l9 l7)
theorem zc3 {R : List Chunk} {b_s : Nat} {C_s_bytes : Cells} {v_s_bytes : Value} (s_bytes : List UInt8) (s_used : Int) (s_mix : Int) (most : Int) (hC_s_bytes : Reads R C_s_bytes) (hs_s_bytes : Sl C_s_bytes v_s_bytes s_bytes) {r : ((List Int) × (List Span) × (List Int) × (List Town) × Int × Int × (List Flood) × Int × Int)} (hM : (zbz s_bytes s_used s_mix most).Ends r) (w : World) (H : St w w [cBlk b_s [v_s_bytes, I s_used, I s_mix] 71] R) : Ret Try.prog 8 #[.pointer (some ⟨b_s, 0, none⟩), I most] w fun v w' => ∃ (y0 : List Int) (y1 : List Span) (y2 : List Int) (y3 : List Town) (y4 : Int) (y5 : Int) (y6 : List Flood) (y7 : Int) (y8 : Int) (u0 : Value) (u1 : Value) (u2 : Value) (u3 : Value) (u4 : Value) (rr5 : List (Raw 1)) (Bs6 : Base), (y0, y1, y2, y3, y4, y5, y6, y7, y8) = r /\ v = .agg #[u0, u1, u2, u3, I y4, I y5, u4] /\ St w w' [cOwn (α := Int) 3 u0 y0, cOwn (α := Span) 27 u1 y1, cOwn (α := Int) 3 u2 y2, cOwn (α := Town) 54 u3 y3, cOwn (α := Raw 1) 67 u4 rr5, cRo Bs6, cBlk b_s [v_s_bytes, I y7, I y8] 71] R /\ RepR (α := Flood) Bs6.cells rr5 y6 := by
 refine ret_of_W Try.func8 rfl rfl rfl ?_
 refine W.seq ?_
 refine W.region rfl ?_
 refine t_alloc (cs := [.slice none 0 0, .slice none 0 0, .slice none 0 0, .slice none 0 0, I 0, I 0, .slice none 0 0]) H Al30 rfl ?_
 intro b_1 w1z H
 refine s_nil ?_
 refine W.seq ?_
 refine W.region rfl ?_
 refine t_alloc (cs := [.slice none 0 0, .slice none 0 0, .slice none 0 0, .slice none 0 0, I 0, I 0, .slice none 0 0]) H Al30 rfl ?_
 intro b_2 w2z H
 refine s_nil ?_
 refine W.seq ?_
 refine W.region rfl ?_
 refine s_val (x_mv (v := .pointer (some ⟨b_s, 0, none⟩)) rfl) ?_
 refine s_val (x_mv (v := I most) rfl) ?_
 obtain ⟨r4z, hx3z, hM⟩ := M.e_bind hM
 refine s_call cf27 [.pointer (some ⟨b_s, 0, none⟩), I 1, I most] rfl (zaO s_bytes s_used s_mix 1 most (hC_s_bytes.app _) hs_s_bytes hx3z _ ((H.pk [2, 0, 1]).gt 2)) ?_
 rintro vq w5z ⟨r2, q1, q2, hr6z, hvq, H2_⟩
 subst hr6z
 subst vq
 try dsimp only at hM
 replace H := H.pk [2, 0, 1] |>.bk H2_
 clear H2_
 refine s_val (x_as (v := I r2) rfl) ?_
 refine s_nil ?_
 refine W.seq ?_
 refine W.seq ?_
 refine W.region rfl ?_
 refine s_val (x_as (v := I 0) rfl) ?_
 refine s_nil ?_
 refine W.block ?_
 replace H := H.nilOwn (α := Int) 3
 replace H := H.nilOwn (α := Span) 27
 replace H := H.nilOwn (α := Int) 3
 obtain ⟨ex7z, hi8z, hk9z⟩ := M.e_bind hM
 obtain ⟨m0_, hi8z⟩ := M.e_iter hi8z
 refine W.loop (fun m σ W => ∃ (s4 : Int) (s5 : Int) (i : Nat) (l : List Int) (l2 : List Span) (l3 : List Int) (v_l : Value) (v_l2 : Value) (v_l3 : Value) (ρ : Env), σ = upds ρ [(0, .pointer (some ⟨b_s, 0, none⟩)), (4, .pointer (some ⟨b_1, 0, none⟩)), (5, .pointer (some ⟨b_2, 0, none⟩)), (6, I r2), (7, I (i : Int))] /\ M.iterN (zaN s_bytes r2) m (s4, s5, i, l, l2, l3) = some ex7z /\ St w W [cOwn (α := Int) 3 v_l3 l3, cOwn (α := Span) 27 v_l2 l2, cOwn (α := Int) 3 v_l l, cBlk b_s [v_s_bytes, I s4, I s5] 71, cBlk b_2 [v_l, v_l2, v_l3, .slice none 0 0, I 0, I 0, .slice none 0 0] 30, cBlk b_1 [.slice none 0 0, .slice none 0 0, .slice none 0 0, .slice none 0 0, I 0, I 0, .slice none 0 0] 30] R) ?_ ?_
 ·exact ⟨_, q1, q2, 0, [], [], [], (.slice none 0 0), (.slice none 0 0), (.slice none 0 0), _, upds_of _ _ ⟨rfl, rfl, rfl, rfl, rfl, trivial⟩, hi8z, H⟩
 rintro m12z σ w10z ⟨s4, s5, i, l, l2, l3, v_l, v_l2, v_l3, ρ, rfl, hI11z, H⟩
 obtain ⟨m13z, lt14z, x15z, hM, hN16z⟩ := M.e_iterN hI11z
 simp only [zaN] at hM
 clear hI11z
 refine W.seq ?_
 refine W.seq ?_
 refine W.region rfl ?_
 refine s_val (x_mv (v := I (i : Int)) rfl) ?_
 refine s_val (x_mv (v := I r2) rfl) ?_
 refine s_val (x_cmp (kd := .i64) (a := (i : Int)) (b := r2) (r := decide ((i : Int) < r2)) rfl rfl rfl) ?_
 refine s_nil ?_
 refine W.cond (decide ((i : Int) < r2)) rfl (fun c17z => ?_) (fun c17z => ?_)
 ·replace hM := M.e_t hM c17z
  simp only [decide_eq_true_eq, decide_eq_false_iff_not, beq_iff_eq, bne_iff_ne, beq_eq_false_iff_ne, bne_eq_false_iff_eq, ne_eq, Decidable.not_not] at c17z
  refine W.skip ?_
  refine W.seq ?_
  refine W.block ?_
  refine W.seq ?_
  refine W.region rfl ?_
  refine s_val (x_as (v := I (-1)) rfl) ?_
  refine s_nil ?_
  refine W.seqJ (fun σ W => ∃ (s2 : Int) (s3 : Int) (down : Int) (ρ : Env), σ = upds ρ [(0, .pointer (some ⟨b_s, 0, none⟩)), (4, .pointer (some ⟨b_1, 0, none⟩)), (5, .pointer (some ⟨b_2, 0, none⟩)), (6, I r2), (7, I (i : Int)), (8, I down)] /\ (zao s_bytes i l l2 l3 s2 s3 down).Ends x15z /\ St w W [cBlk b_s [v_s_bytes, I s2, I s3] 71, cOwn (α := Int) 3 v_l3 l3, cOwn (α := Span) 27 v_l2 l2, cOwn (α := Int) 3 v_l l, cBlk b_2 [v_l, v_l2, v_l3, .slice none 0 0, I 0, I 0, .slice none 0 0] 30, cBlk b_1 [.slice none 0 0, .slice none 0 0, .slice none 0 0, .slice none 0 0, I 0, I 0, .slice none 0 0] 30] R) ?_ ?_
  ·skip
   refine W.seq ?_
   refine W.region rfl ?_
   refine s_val (x_mv (v := I (i : Int)) rfl) ?_
   obtain ⟨sd18z, hM⟩ := M.e_grd hM
   simp only [Bool.and_eq_true, decide_eq_true_eq] at sd18z
   refine s_val (x_ari (a := (i : Int)) (b := 1) (r := (i : Int) + 1) rfl rfl rfl (by omega)) ?_
   refine s_val (x_mv (v := I r2) rfl) ?_
   refine s_val (x_cmp (kd := .i64) (a := (i : Int) + 1) (b := r2) (r := decide (((i : Int) + 1) < r2)) rfl rfl rfl) ?_
   refine s_val (x_mv (v := B (decide (((i : Int) + 1) < r2))) rfl) ?_
   refine g_val (decide (((i : Int) + 1) < r2)) (gy_t rfl) (fun hg => x_mv (v := .pointer (some ⟨b_s, 0, none⟩)) rfl) ?_
   refine g_splitV (decide (((i : Int) + 1) < r2)) (I 0) (gy_t rfl) (fun hg_ => ?_) (fun hg_ => ?_)
   ·replace hM := M.e_t hM hg_
    obtain ⟨r20z, hx19z, hM⟩ := M.e_bind hM
    refine s_call cf10 [.pointer (some ⟨b_s, 0, none⟩), I 6] (lst2 (gd_of (c := decide (((i : Int) + 1) < r2)) hg_ (.pointer (some ⟨b_s, 0, none⟩))) rfl) (zab s_bytes s4 s5 6 (hC_s_bytes.app _) hs_s_bytes hx19z _ ((H.pk [3, 0, 1, 2, 4, 5]).gt 5)) ?_
    rintro vq w21z ⟨r3, q12, q22, hr22z, hvq, H2_⟩
    subst hr22z
    subst vq
    try dsimp only at hM
    replace H := H.pk [3, 0, 1, 2, 4, 5] |>.bk H2_
    clear H2_
    refine g_val (decide (((i : Int) + 1) < r2)) (gy_t rfl) (fun hg => x_cmp (kd := .i64) (a := r3) (b := 0) (r := decide (0 < r3)) rfl rfl rfl) ?_
    refine s_val (x_pand (b := decide (((i : Int) + 1) < r2)) (r := decide (0 < r3)) rfl (fun hb => gd_of (c := decide (((i : Int) + 1) < r2)) (by first | exact hb | (rw [hb]; rfl) | simp_all) (B (decide (0 < r3)))) rfl) ?_
    refine s_nil ?_
    refine W.cond ((decide (((i : Int) + 1) < r2)) && (decide (0 < r3))) rfl (fun c23z => ?_) (fun c23z => ?_)
    ·replace hM := M.e_t hM c23z
     refine W.region rfl ?_
     refine s_val (x_mv (v := .pointer (some ⟨b_s, 0, none⟩)) rfl) ?_
     refine s_val (x_mv (v := I (i : Int)) rfl) ?_
     refine s_val (x_ari (a := (i : Int)) (b := 1) (r := (i : Int) + 1) rfl rfl rfl (by omega)) ?_
     refine s_val (x_mv (v := I r2) rfl) ?_
     obtain ⟨sd24z, hM⟩ := M.e_grd hM
     simp only [Bool.and_eq_true, decide_eq_true_eq] at sd24z
     refine s_val (x_ari (a := r2) (b := 1) (r := r2 - 1) rfl rfl rfl (by omega)) ?_
     refine s_val (x_mv (v := I (i : Int)) rfl) ?_
     obtain ⟨sd25z, hM⟩ := M.e_grd hM
     simp only [Bool.and_eq_true, decide_eq_true_eq] at sd25z
     refine s_val (x_ari (a := (i : Int)) (b := 3) (r := (i : Int) + 3) rfl rfl rfl (by omega)) ?_
     refine s_val (x_min (kd := .i64) (a := r2 - 1) (b := (i : Int) + 3) rfl rfl) ?_
     obtain ⟨r27z, hx26z, hM⟩ := M.e_bind hM
     refine s_call cf27 [.pointer (some ⟨b_s, 0, none⟩), I ((i : Int) + 1), I (min (r2 - 1) ((i : Int) + 3))] rfl (zaO s_bytes q12 q22 ((i : Int) + 1) (min (r2 - 1) ((i : Int) + 3)) (hC_s_bytes.app _) hs_s_bytes hx26z _ (H.gt 5)) ?_
     rintro vq w28z ⟨r4, q13, q23, hr29z, hvq, H2_⟩
     subst hr29z
     subst vq
     try dsimp only at hM
     replace H := H.bk H2_
     clear H2_
     refine s_val (x_as (v := I r4) rfl) ?_
     refine s_nil ?_
     exact ⟨q13, q23, r4, _, upds_of _ _ ⟨rfl, rfl, rfl, rfl, rfl, rfl, trivial⟩, hM, H⟩
    replace hM := M.e_f hM c23z
    refine W.skip ?_
    exact ⟨q12, q22, -1, _, upds_of _ _ ⟨rfl, rfl, rfl, rfl, rfl, rfl, trivial⟩, hM, H⟩
   replace hM := M.e_f hM hg_
   refine g_val (v := B false) (decide (((i : Int) + 1) < r2)) (gy_t rfl) (fun hg => Bool.noConfusion (hg_.symm.trans hg)) ?_
   refine s_val (x_pand0 (b := decide (((i : Int) + 1) < r2)) rfl (fun hb => gd_of (c := decide (((i : Int) + 1) < r2)) (by first | exact hb | (rw [hb]; rfl) | simp_all) (B false)) rfl) ?_
   refine s_nil ?_
   refine W.cond false rfl (fun c30z => ?_) (fun c30z => ?_)
   ·skip
    exact absurd c30z (by decide)
   skip
   refine W.skip ?_
   exact ⟨s4, s5, -1, _, upds_of _ _ ⟨rfl, rfl, rfl, rfl, rfl, rfl, trivial⟩, hM, (H.pk [3, 0, 1, 2, 4, 5])⟩
  rintro _ w31z ⟨s2, s3, down, ρ, rfl, hM, H⟩
  unfold zao at hM
  refine W.seq ?_
  refine W.region rfl ?_
  refine s_val (x_mv (v := .pointer (some ⟨b_s, 0, none⟩)) rfl) ?_
  obtain ⟨r33z, hx32z, hM⟩ := M.e_bind hM
  refine s_call cf10 [.pointer (some ⟨b_s, 0, none⟩), I 9] rfl (zab s_bytes s2 s3 9 (hC_s_bytes.app _) hs_s_bytes hx32z _ (H.gt 5)) ?_
  rintro vq w34z ⟨r5, q14, q24, hr35z, hvq, H2_⟩
  subst hr35z
  subst vq
  try dsimp only at hM
  replace H := H.bk H2_
  clear H2_
  refine s_val (x_as (v := I r5) rfl) ?_
  refine s_nil ?_
  refine W.seqJ (fun σ W => ∃ (r6 : Int) (q15 : Int) (q25 : Int) (uj_o_5 : Value) (uj_o_3 : Value) (uj_o_10 : Value) (uj_o_9 : Value) (ρ : Env), σ = upds ρ [(0, .pointer (some ⟨b_s, 0, none⟩)), (4, .pointer (some ⟨b_1, 0, none⟩)), (5, .pointer (some ⟨b_2, 0, none⟩)), (6, I r2), (7, I (i : Int))] /\ (zbB s_bytes i l l2 l3 down r5 r6 q15 q25).Ends x15z /\ St w W [cOwn (α := Span) 27 uj_o_5 ([(⟨(r5 : Int), (r5 + r6 : Int)⟩ : Span)]), cBlk b_s [v_s_bytes, I q15, I q25] 71, cOwn (α := Int) 3 uj_o_3 ([(down : Int)]), cOwn (α := Int) 3 v_l3 l3, cOwn (α := Span) 27 uj_o_10 (l2 ++ ([(⟨(r5 : Int), (r5 + r6 : Int)⟩ : Span)])), cOwn (α := Int) 3 uj_o_9 (l ++ ([(down : Int)])), cBlk b_2 [uj_o_9, uj_o_10, v_l3, .slice none 0 0, I 0, I 0, .slice none 0 0] 30, cBlk b_1 [.slice none 0 0, .slice none 0 0, .slice none 0 0, .slice none 0 0, I 0, I 0, .slice none 0 0] 30] R) ?_ ?_
  ·skip
   refine W.drawT (fun W => St w W [cOwn (α := Int) 3 v_l3 l3, cBlk b_1 [.slice none 0 0, .slice none 0 0, .slice none 0 0, .slice none 0 0, I 0, I 0, .slice none 0 0] 30] R) (.q 0 (.q 2 (.q 5 (.q 7 (.q 8 (.q 9 (.l3 1 (.l2 3 (.l2 4 (.l2 6 (.q 15 (.l 10 (.q 11 (.q 12 (.l 13 (.l 14 (.l 16 (.q 17 (.l 18 .nil))))))))) 10 (.q 11 (.q 12 (.l2 6 (.q 15 (.l 13 (.l 14 (.l 16 (.q 17 (.l 18 .nil)))))) 13 (.l 6 (.q 15 (.l 14 (.l 16 (.q 17 (.l 18 .nil)))))))))) 6 (.l 4 (.q 15 (.l 10 (.q 11 (.q 12 (.l 13 (.l 14 (.l 16 (.q 17 (.l 18 .nil))))))))))) 6 (.l 3 (.l 4 (.q 15 (.l 10 (.q 11 (.q 12 (.l 13 (.l 14 (.l 16 (.q 17 (.l 18 .nil)))))))))))) 3 (.l2 1 (.l2 4 (.l2 6 (.q 15 (.l 10 (.q 11 (.q 12 (.l 13 (.l 14 (.l 16 (.q 17 (.l 18 .nil))))))))) 10 (.q 11 (.q 12 (.l2 6 (.q 15 (.l 13 (.l 14 (.l 16 (.q 17 (.l 18 .nil)))))) 13 (.l 6 (.q 15 (.l 14 (.l 16 (.q 17 (.l 18 .nil)))))))))) 6 (.l 4 (.q 15 (.l 10 (.q 11 (.q 12 (.l 13 (.l 14 (.l 16 (.q 17 (.l 18 .nil))))))))))) 6 (.l 1 (.l 4 (.q 15 (.l 10 (.q 11 (.q 12 (.l 13 (.l 14 (.l 16 (.q 17 (.l 18 .nil)))))))))))) 6 (.l2 1 (.l 3 (.l 4 (.q 15 (.l 10 (.q 11 (.q 12 (.l 13 (.l 14 (.l 16 (.q 17 (.l 18 .nil))))))))))) 3 (.l 1 (.l 4 (.q 15 (.l 10 (.q 11 (.q 12 (.l 13 (.l 14 (.l 16 (.q 17 (.l 18 .nil))))))))))))))))))) mixed (by decide +kernel) rfl ?_
   intro w36z hx_
   replace H := H.ext hx_
   clear hx_
   refine ⟨(H.pk [1, 5]), ?_⟩
   refine t_q rfl (fun w' H => x_fa (a := .pointer (some ⟨b_2, 0, none⟩)) (v := .pointer (some ⟨b_2, 0, none⟩)) rfl (fa_blk (o := 0) Fd30_0 Sz23)) ?_
   refine t_q rfl (fun w' H => x_mv (v := I down) rfl) ?_
   refine t_q rfl (fun w' H => x_fa (a := .pointer (some ⟨b_2, 0, none⟩)) (v := .pointer (some ⟨b_2, 1, none⟩)) rfl (fa_blk (o := 0) Fd30_1 Sz24)) ?_
   refine t_q rfl (fun w' H => x_mv (v := I r5) rfl) ?_
   refine t_q rfl (fun w' H => x_mv (v := I r5) rfl) ?_
   refine t_q rfl (fun w' H => x_mv (v := .pointer (some ⟨b_s, 0, none⟩)) rfl) ?_
   refine t_l3 rfl rfl rfl ?_ ?_ ?_
   ·skip
    refine s_val (x_ld (p := .pointer (some ⟨b_2, 0, none⟩)) (v := v_l) rfl (ldb_sc Sc23 (H.blk (k := 4) rfl) rfl)) ?_
    have hvc_q39z := Sl.cells (ownSl (H.get (k := 2) rfl))
    have hvo_q39z := Sl.oc (ownSl (H.get (k := 2) rfl))
    have hvc_q40z := Sl.cells (ownSl (H.get (k := 3) rfl))
    have hvo_q40z := Sl.oc (ownSl (H.get (k := 3) rfl))
    refine s_nil ⟨(H.pk [1, 5]), ?_⟩
    refine t_l2 rfl rfl ?_ ?_
    ·skip
     refine t_bs (α := Int) T23 [I down] [(down : Int)] H rfl (.cons rfl (Flat.rep_enc _ (down : Int)) <| .nil) rfl rfl rfl ?_
     intro v60z w61z H
     have hvc_q62z := Sl.cells (ownSl (H.get (k := 0) rfl))
     have hvo_q62z := Sl.oc (ownSl (H.get (k := 0) rfl))
     refine s_nil ⟨(H.pk [2, 6]), ?_⟩
     refine t_l2 rfl rfl ?_ ?_
     ·skip
      obtain ⟨sd81z, hM⟩ := M.e_grd hM
      simp only [Bool.and_eq_true, decide_eq_true_eq] at sd81z
      refine t_app (α := Int) (k := 4) (l := l) (l2 := [(down : Int)]) (l' := l ++ ([(down : Int)])) (vy := v60z) T23 rfl H rfl rfl rfl (ownSl (H.get (k := 0) rfl)) (ownLe _ (H.get (k := 0) rfl)) (rfl) (by first | omega | (simp only [List.length_nil] at *; omega)) ?_
      intro v82z w83z H
      replace H := H.nf
      have hvc_q84z := Sl.cells (ownSl (H.get (k := 4) rfl))
      have hvo_q84z := Sl.oc (ownSl (H.get (k := 4) rfl))
      refine s_nil ⟨(H.pk [2, 6]), ?_⟩
      refine t_l2 rfl rfl ?_ ?_
      ·skip
       refine s_val (x_ld (p := .pointer (some ⟨b_2, 1, none⟩)) (v := v_l2) rfl (ldb_sc Sc24 (H.blk (k := 5) rfl) rfl)) ?_
       refine s_nil ⟨(H.pk [2, 6]), ?_⟩
       refine t_q rfl (fun w' H => x_fa (a := .pointer (some ⟨b_2, 0, none⟩)) (v := .pointer (some ⟨b_2, 0, none⟩)) rfl (fa_blk (o := 0) Fd30_0 Sz23)) ?_
       refine t_l rfl ?_
       obtain ⟨r98z, hx97z, hM⟩ := M.e_bind hM
       refine s_call cf10 [.pointer (some ⟨b_s, 0, none⟩), I 5] rfl (zab s_bytes q14 q24 5 (hC_s_bytes.app _) hs_s_bytes hx97z _ ((H.pk [1, 0, 2, 3, 4, 5, 6]).gt 6)) ?_
       rintro vq w99z ⟨r6, q15, q25, hr100z, hvq, H2_⟩
       subst hr100z
       subst vq
       try dsimp only at hM
       replace H := H.pk [1, 0, 2, 3, 4, 5, 6] |>.bk H2_
       clear H2_
       refine s_nil ⟨(H.pk [2, 6]), ?_⟩
       obtain ⟨sd101z, hM⟩ := M.e_grd hM
       simp only [Bool.and_eq_true, decide_eq_true_eq] at sd101z
       refine t_q rfl (fun w' H => x_ari (a := r5) (b := r6) (r := r5 + r6) rfl rfl rfl (by omega)) ?_
       refine t_q rfl (fun w' H => x_bld (ps := [(0, I r5), (1, I (r5 + r6))]) (zs := [I 0, I 0]) (L' := [I r5, I (r5 + r6)]) rfl Try.underlying27 Al27 rfl (Bd27 Try.underlying27) (.cons (cs := [I r5]) rfl rfl rfl rfl rfl <| .cons (cs := [I (r5 + r6)]) rfl rfl rfl rfl rfl <| .nil)) ?_
       refine t_l rfl ?_
       refine t_bs (α := Span) T24 [.agg #[I r5, I (r5 + r6)]] [(⟨(r5 : Int), (r5 + r6 : Int)⟩ : Span)] H rfl (.cons rfl (Flat.rep_enc _ (⟨(r5 : Int), (r5 + r6 : Int)⟩ : Span)) <| .nil) rfl rfl rfl ?_
       intro v102z w103z H
       have hvc_q104z := Sl.cells (ownSl (H.get (k := 0) rfl))
       have hvo_q104z := Sl.oc (ownSl (H.get (k := 0) rfl))
       refine s_nil ⟨(H.pk [3, 7]), ?_⟩
       refine t_l rfl ?_
       obtain ⟨sd105z, hM⟩ := M.e_grd hM
       simp only [Bool.and_eq_true, decide_eq_true_eq] at sd105z
       refine t_app (α := Span) (k := 4) (l := l2) (l2 := [(⟨(r5 : Int), (r5 + r6 : Int)⟩ : Span)]) (l' := l2 ++ ([(⟨(r5 : Int), (r5 + r6 : Int)⟩ : Span)])) (vy := v102z) T24 rfl H rfl rfl rfl (ownSl (H.get (k := 0) rfl)) (ownLe _ (H.get (k := 0) rfl)) (rfl) (by first | omega | (simp only [List.length_nil] at *; omega)) ?_
       intro v106z w107z H
       replace H := H.nf
       have hvc_q108z := Sl.cells (ownSl (H.get (k := 4) rfl))
       have hvo_q108z := Sl.oc (ownSl (H.get (k := 4) rfl))
       refine s_nil ⟨(H.pk [3, 7]), ?_⟩
       refine t_l rfl ?_
       refine t_sw 6 0 [v82z] v82z H rfl rfl Sz23 (Sl.cells (ownSl (H.get (k := 5) rfl))) rfl rfl (by simp only [List.all_cons, List.all_nil, Bool.true_and, Bool.and_true, Sl.oc (ownSl (H.get (k := 5) rfl))]; try rfl) ?_
       intro w109z H
       refine s_nil ⟨(H.pk [3, 7]), ?_⟩
       refine t_q rfl (fun w' H => x_fa (a := .pointer (some ⟨b_2, 0, none⟩)) (v := .pointer (some ⟨b_2, 1, none⟩)) rfl (fa_blk (o := 0) Fd30_1 Sz24)) ?_
       refine t_l rfl ?_
       refine t_sw 6 1 [v106z] v106z H rfl rfl Sz24 (Sl.cells (ownSl (H.get (k := 4) rfl))) rfl rfl (by simp only [List.all_cons, List.all_nil, Bool.true_and, Bool.and_true, Sl.oc (ownSl (H.get (k := 4) rfl))]; try rfl) ?_
       intro w110z H
       refine s_nil ⟨(H.pk [3, 7]), ?_⟩
       refine t_nil ?_
       exact ⟨r6, q15, q25, v102z, v60z, v106z, v82z, _, upds_of _ _ ⟨rfl, rfl, rfl, rfl, rfl, trivial⟩, hM, H⟩
      skip
      obtain ⟨r112z, hx111z, hM⟩ := M.e_bind hM
      refine s_call cf10 [.pointer (some ⟨b_s, 0, none⟩), I 5] rfl (zab s_bytes q14 q24 5 (hC_s_bytes.app _) hs_s_bytes hx111z _ ((H.pk [1, 0, 2, 3, 4, 5, 6]).gt 6)) ?_
      rintro vq w113z ⟨r6, q15, q25, hr114z, hvq, H2_⟩
      subst hr114z
      subst vq
      try dsimp only at hM
      replace H := H.pk [1, 0, 2, 3, 4, 5, 6] |>.bk H2_
      clear H2_
      refine s_nil ⟨(H.pk [2, 6]), ?_⟩
      obtain ⟨sd115z, hM⟩ := M.e_grd hM
      simp only [Bool.and_eq_true, decide_eq_true_eq] at sd115z
      refine t_q rfl (fun w' H => x_ari (a := r5) (b := r6) (r := r5 + r6) rfl rfl rfl (by omega)) ?_
      refine t_q rfl (fun w' H => x_bld (ps := [(0, I r5), (1, I (r5 + r6))]) (zs := [I 0, I 0]) (L' := [I r5, I (r5 + r6)]) rfl Try.underlying27 Al27 rfl (Bd27 Try.underlying27) (.cons (cs := [I r5]) rfl rfl rfl rfl rfl <| .cons (cs := [I (r5 + r6)]) rfl rfl rfl rfl rfl <| .nil)) ?_
      obtain ⟨sd118z, hM⟩ := M.e_grd hM
      simp only [Bool.and_eq_true, decide_eq_true_eq] at sd118z
      refine t_l2 rfl rfl ?_ ?_
      ·skip
       refine s_val (x_ld (p := .pointer (some ⟨b_2, 1, none⟩)) (v := v_l2) rfl (ldb_sc Sc24 (H.blk (k := 5) rfl) rfl)) ?_
       refine s_nil ⟨(H.pk [2, 6]), ?_⟩
       refine t_q rfl (fun w' H => x_fa (a := .pointer (some ⟨b_2, 0, none⟩)) (v := .pointer (some ⟨b_2, 0, none⟩)) rfl (fa_blk (o := 0) Fd30_0 Sz23)) ?_
       refine t_l rfl ?_
       refine t_bs (α := Span) T24 [.agg #[I r5, I (r5 + r6)]] [(⟨(r5 : Int), (r5 + r6 : Int)⟩ : Span)] H rfl (.cons rfl (Flat.rep_enc _ (⟨(r5 : Int), (r5 + r6 : Int)⟩ : Span)) <| .nil) rfl rfl rfl ?_
       intro v123z w124z H
       have hvc_q125z := Sl.cells (ownSl (H.get (k := 0) rfl))
       have hvo_q125z := Sl.oc (ownSl (H.get (k := 0) rfl))
       refine s_nil ⟨(H.pk [3, 7]), ?_⟩
       refine t_l rfl ?_
       refine t_app (α := Span) (k := 4) (l := l2) (l2 := [(⟨(r5 : Int), (r5 + r6 : Int)⟩ : Span)]) (l' := l2 ++ ([(⟨(r5 : Int), (r5 + r6 : Int)⟩ : Span)])) (vy := v123z) T24 rfl H rfl rfl rfl (ownSl (H.get (k := 0) rfl)) (ownLe _ (H.get (k := 0) rfl)) (rfl) (by first | omega | (simp only [List.length_nil] at *; omega)) ?_
       intro v126z w127z H
       replace H := H.nf
       have hvc_q128z := Sl.cells (ownSl (H.get (k := 4) rfl))
       have hvo_q128z := Sl.oc (ownSl (H.get (k := 4) rfl))
       refine s_nil ⟨(H.pk [3, 7]), ?_⟩
       refine t_l rfl ?_
       refine t_sw 6 0 [v82z] v82z H rfl rfl Sz23 (Sl.cells (ownSl (H.get (k := 5) rfl))) rfl rfl (by simp only [List.all_cons, List.all_nil, Bool.true_and, Bool.and_true, Sl.oc (ownSl (H.get (k := 5) rfl))]; try rfl) ?_
       intro w129z H
       refine s_nil ⟨(H.pk [3, 7]), ?_⟩
       refine t_q rfl (fun w' H => x_fa (a := .pointer (some ⟨b_2, 0, none⟩)) (v := .pointer (some ⟨b_2, 1, none⟩)) rfl (fa_blk (o := 0) Fd30_1 Sz24)) ?_
       refine t_l rfl ?_
       refine t_sw 6 1 [v126z] v126z H rfl rfl Sz24 (Sl.cells (ownSl (H.get (k := 4) rfl))) rfl rfl (by simp only [List.all_cons, List.all_nil, Bool.true_and, Bool.and_true, Sl.oc (ownSl (H.get (k := 4) rfl))]; try rfl) ?_
       intro w130z H
       refine s_nil ⟨(H.pk [3, 7]), ?_⟩
       refine t_nil ?_
       exact ⟨r6, q15, q25, v123z, v60z, v126z, v82z, _, upds_of _ _ ⟨rfl, rfl, rfl, rfl, rfl, trivial⟩, hM, H⟩
      skip
      refine t_bs (α := Span) T24 [.agg #[I r5, I (r5 + r6)]] [(⟨(r5 : Int), (r5 + r6 : Int)⟩ : Span)] H rfl (.cons rfl (Flat.rep_enc _ (⟨(r5 : Int), (r5 + r6 : Int)⟩ : Span)) <| .nil) rfl rfl rfl ?_
      intro v131z w132z H
      have hvc_q133z := Sl.cells (ownSl (H.get (k := 0) rfl))
      have hvo_q133z := Sl.oc (ownSl (H.get (k := 0) rfl))
      refine s_nil ⟨(H.pk [3, 7]), ?_⟩
      refine t_l rfl ?_
      refine s_val (x_ld (p := .pointer (some ⟨b_2, 1, none⟩)) (v := v_l2) rfl (ldb_sc Sc24 (H.blk (k := 6) rfl) rfl)) ?_
      refine s_nil ⟨(H.pk [3, 7]), ?_⟩
      refine t_q rfl (fun w' H => x_fa (a := .pointer (some ⟨b_2, 0, none⟩)) (v := .pointer (some ⟨b_2, 0, none⟩)) rfl (fa_blk (o := 0) Fd30_0 Sz23)) ?_
      refine t_l rfl ?_
      refine t_app (α := Span) (k := 4) (l := l2) (l2 := [(⟨(r5 : Int), (r5 + r6 : Int)⟩ : Span)]) (l' := l2 ++ ([(⟨(r5 : Int), (r5 + r6 : Int)⟩ : Span)])) (vy := v131z) T24 rfl H rfl rfl rfl (ownSl (H.get (k := 0) rfl)) (ownLe _ (H.get (k := 0) rfl)) (rfl) (by first | omega | (simp only [List.length_nil] at *; omega)) ?_
      intro v134z w135z H
      replace H := H.nf
      have hvc_q136z := Sl.cells (ownSl (H.get (k := 4) rfl))
      have hvo_q136z := Sl.oc (ownSl (H.get (k := 4) rfl))
      refine s_nil ⟨(H.pk [3, 7]), ?_⟩
      refine t_l rfl ?_
      refine t_sw 6 0 [v82z] v82z H rfl rfl Sz23 (Sl.cells (ownSl (H.get (k := 5) rfl))) rfl rfl (by simp only [List.all_cons, List.all_nil, Bool.true_and, Bool.and_true, Sl.oc (ownSl (H.get (k := 5) rfl))]; try rfl) ?_
      intro w137z H
      refine s_nil ⟨(H.pk [3, 7]), ?_⟩
      refine t_q rfl (fun w' H => x_fa (a := .pointer (some ⟨b_2, 0, none⟩)) (v := .pointer (some ⟨b_2, 1, none⟩)) rfl (fa_blk (o := 0) Fd30_1 Sz24)) ?_
      refine t_l rfl ?_
      refine t_sw 6 1 [v134z] v134z H rfl rfl Sz24 (Sl.cells (ownSl (H.get (k := 4) rfl))) rfl rfl (by simp only [List.all_cons, List.all_nil, Bool.true_and, Bool.and_true, Sl.oc (ownSl (H.get (k := 4) rfl))]; try rfl) ?_
      intro w138z H
      refine s_nil ⟨(H.pk [3, 7]), ?_⟩
      refine t_nil ?_
      exact ⟨r6, q15, q25, v131z, v60z, v134z, v82z, _, upds_of _ _ ⟨rfl, rfl, rfl, rfl, rfl, trivial⟩, hM, H⟩
     skip
     refine s_val (x_ld (p := .pointer (some ⟨b_2, 1, none⟩)) (v := v_l2) rfl (ldb_sc Sc24 (H.blk (k := 5) rfl) rfl)) ?_
     refine s_nil ⟨(H.pk [2, 6]), ?_⟩
     refine t_l rfl ?_
     obtain ⟨sd139z, hM⟩ := M.e_grd hM
     simp only [Bool.and_eq_true, decide_eq_true_eq] at sd139z
     refine t_app (α := Int) (k := 4) (l := l) (l2 := [(down : Int)]) (l' := l ++ ([(down : Int)])) (vy := v60z) T23 rfl H rfl rfl rfl (ownSl (H.get (k := 0) rfl)) (ownLe _ (H.get (k := 0) rfl)) (rfl) (by first | omega | (simp only [List.length_nil] at *; omega)) ?_
     intro v140z w141z H
     replace H := H.nf
     have hvc_q142z := Sl.cells (ownSl (H.get (k := 4) rfl))
     have hvo_q142z := Sl.oc (ownSl (H.get (k := 4) rfl))
     refine s_nil ⟨(H.pk [2, 6]), ?_⟩
     refine t_q rfl (fun w' H => x_fa (a := .pointer (some ⟨b_2, 0, none⟩)) (v := .pointer (some ⟨b_2, 0, none⟩)) rfl (fa_blk (o := 0) Fd30_0 Sz23)) ?_
     refine t_l rfl ?_
     obtain ⟨r144z, hx143z, hM⟩ := M.e_bind hM
     refine s_call cf10 [.pointer (some ⟨b_s, 0, none⟩), I 5] rfl (zab s_bytes q14 q24 5 (hC_s_bytes.app _) hs_s_bytes hx143z _ ((H.pk [1, 0, 2, 3, 4, 5, 6]).gt 6)) ?_
     rintro vq w145z ⟨r6, q15, q25, hr146z, hvq, H2_⟩
     subst hr146z
     subst vq
     try dsimp only at hM
     replace H := H.pk [1, 0, 2, 3, 4, 5, 6] |>.bk H2_
     clear H2_
     refine s_nil ⟨(H.pk [2, 6]), ?_⟩
     obtain ⟨sd147z, hM⟩ := M.e_grd hM
     simp only [Bool.and_eq_true, decide_eq_true_eq] at sd147z
     refine t_q rfl (fun w' H => x_ari (a := r5) (b := r6) (r := r5 + r6) rfl rfl rfl (by omega)) ?_
     refine t_q rfl (fun w' H => x_bld (ps := [(0, I r5), (1, I (r5 + r6))]) (zs := [I 0, I 0]) (L' := [I r5, I (r5 + r6)]) rfl Try.underlying27 Al27 rfl (Bd27 Try.underlying27) (.cons (cs := [I r5]) rfl rfl rfl rfl rfl <| .cons (cs := [I (r5 + r6)]) rfl rfl rfl rfl rfl <| .nil)) ?_
     refine t_l rfl ?_
     refine t_bs (α := Span) T24 [.agg #[I r5, I (r5 + r6)]] [(⟨(r5 : Int), (r5 + r6 : Int)⟩ : Span)] H rfl (.cons rfl (Flat.rep_enc _ (⟨(r5 : Int), (r5 + r6 : Int)⟩ : Span)) <| .nil) rfl rfl rfl ?_
     intro v148z w149z H
     have hvc_q150z := Sl.cells (ownSl (H.get (k := 0) rfl))
     have hvo_q150z := Sl.oc (ownSl (H.get (k := 0) rfl))
     refine s_nil ⟨(H.pk [3, 7]), ?_⟩
     refine t_l rfl ?_
     obtain ⟨sd151z, hM⟩ := M.e_grd hM
     simp only [Bool.and_eq_true, decide_eq_true_eq] at sd151z
     refine t_app (α := Span) (k := 4) (l := l2) (l2 := [(⟨(r5 : Int), (r5 + r6 : Int)⟩ : Span)]) (l' := l2 ++ ([(⟨(r5 : Int), (r5 + r6 : Int)⟩ : Span)])) (vy := v148z) T24 rfl H rfl rfl rfl (ownSl (H.get (k := 0) rfl)) (ownLe _ (H.get (k := 0) rfl)) (rfl) (by first | omega | (simp only [List.length_nil] at *; omega)) ?_
     intro v152z w153z H
     replace H := H.nf
     have hvc_q154z := Sl.cells (ownSl (H.get (k := 4) rfl))
     have hvo_q154z := Sl.oc (ownSl (H.get (k := 4) rfl))
     refine s_nil ⟨(H.pk [3, 7]), ?_⟩
     refine t_l rfl ?_
     refine t_sw 6 0 [v140z] v140z H rfl rfl Sz23 (Sl.cells (ownSl (H.get (k := 5) rfl))) rfl rfl (by simp only [List.all_cons, List.all_nil, Bool.true_and, Bool.and_true, Sl.oc (ownSl (H.get (k := 5) rfl))]; try rfl) ?_
     intro w155z H
     refine s_nil ⟨(H.pk [3, 7]), ?_⟩
     refine t_q rfl (fun w' H => x_fa (a := .pointer (some ⟨b_2, 0, none⟩)) (v := .pointer (some ⟨b_2, 1, none⟩)) rfl (fa_blk (o := 0) Fd30_1 Sz24)) ?_
     refine t_l rfl ?_
     refine t_sw 6 1 [v152z] v152z H rfl rfl Sz24 (Sl.cells (ownSl (H.get (k := 4) rfl))) rfl rfl (by simp only [List.all_cons, List.all_nil, Bool.true_and, Bool.and_true, Sl.oc (ownSl (H.get (k := 4) rfl))]; try rfl) ?_
     intro w156z H
     refine s_nil ⟨(H.pk [3, 7]), ?_⟩
     refine t_nil ?_
     exact ⟨r6, q15, q25, v148z, v60z, v152z, v140z, _, upds_of _ _ ⟨rfl, rfl, rfl, rfl, rfl, trivial⟩, hM, H⟩
    skip
    refine s_val (x_ld (p := .pointer (some ⟨b_2, 1, none⟩)) (v := v_l2) rfl (ldb_sc Sc24 (H.blk (k := 4) rfl) rfl)) ?_
    refine s_nil ⟨(H.pk [1, 5]), ?_⟩
    refine t_l rfl ?_
    refine t_bs (α := Int) T23 [I down] [(down : Int)] H rfl (.cons rfl (Flat.rep_enc _ (down : Int)) <| .nil) rfl rfl rfl ?_
    intro v157z w158z H
    have hvc_q159z := Sl.cells (ownSl (H.get (k := 0) rfl))
    have hvo_q159z := Sl.oc (ownSl (H.get (k := 0) rfl))
    refine s_nil ⟨(H.pk [2, 6]), ?_⟩
    refine t_l rfl ?_
    obtain ⟨sd160z, hM⟩ := M.e_grd hM
    simp only [Bool.and_eq_true, decide_eq_true_eq] at sd160z
    refine t_app (α := Int) (k := 4) (l := l) (l2 := [(down : Int)]) (l' := l ++ ([(down : Int)])) (vy := v157z) T23 rfl H rfl rfl rfl (ownSl (H.get (k := 0) rfl)) (ownLe _ (H.get (k := 0) rfl)) (rfl) (by first | omega | (simp only [List.length_nil] at *; omega)) ?_
    intro v161z w162z H
    replace H := H.nf
    have hvc_q163z := Sl.cells (ownSl (H.get (k := 4) rfl))
    have hvo_q163z := Sl.oc (ownSl (H.get (k := 4) rfl))
    refine s_nil ⟨(H.pk [2, 6]), ?_⟩
    refine t_q rfl (fun w' H => x_fa (a := .pointer (some ⟨b_2, 0, none⟩)) (v := .pointer (some ⟨b_2, 0, none⟩)) rfl (fa_blk (o := 0) Fd30_0 Sz23)) ?_
    refine t_l rfl ?_
    obtain ⟨r165z, hx164z, hM⟩ := M.e_bind hM
    refine s_call cf10 [.pointer (some ⟨b_s, 0, none⟩), I 5] rfl (zab s_bytes q14 q24 5 (hC_s_bytes.app _) hs_s_bytes hx164z _ ((H.pk [1, 0, 2, 3, 4, 5, 6]).gt 6)) ?_
    rintro vq w166z ⟨r6, q15, q25, hr167z, hvq, H2_⟩
    subst hr167z
    subst vq
    try dsimp only at hM
    replace H := H.pk [1, 0, 2, 3, 4, 5, 6] |>.bk H2_
    clear H2_
    refine s_nil ⟨(H.pk [2, 6]), ?_⟩
    obtain ⟨sd168z, hM⟩ := M.e_grd hM
    simp only [Bool.and_eq_true, decide_eq_true_eq] at sd168z
    refine t_q rfl (fun w' H => x_ari (a := r5) (b := r6) (r := r5 + r6) rfl rfl rfl (by omega)) ?_
    refine t_q rfl (fun w' H => x_bld (ps := [(0, I r5), (1, I (r5 + r6))]) (zs := [I 0, I 0]) (L' := [I r5, I (r5 + r6)]) rfl Try.underlying27 Al27 rfl (Bd27 Try.underlying27) (.cons (cs := [I r5]) rfl rfl rfl rfl rfl <| .cons (cs := [I (r5 + r6)]) rfl rfl rfl rfl rfl <| .nil)) ?_
    refine t_l rfl ?_
    refine t_bs (α := Span) T24 [.agg #[I r5, I (r5 + r6)]] [(⟨(r5 : Int), (r5 + r6 : Int)⟩ : Span)] H rfl (.cons rfl (Flat.rep_enc _ (⟨(r5 : Int), (r5 + r6 : Int)⟩ : Span)) <| .nil) rfl rfl rfl ?_
    intro v169z w170z H
    have hvc_q171z := Sl.cells (ownSl (H.get (k := 0) rfl))
    have hvo_q171z := Sl.oc (ownSl (H.get (k := 0) rfl))
    refine s_nil ⟨(H.pk [3, 7]), ?_⟩
    refine t_l rfl ?_
    obtain ⟨sd172z, hM⟩ := M.e_grd hM
    simp only [Bool.and_eq_true, decide_eq_true_eq] at sd172z
    refine t_app (α := Span) (k := 4) (l := l2) (l2 := [(⟨(r5 : Int), (r5 + r6 : Int)⟩ : Span)]) (l' := l2 ++ ([(⟨(r5 : Int), (r5 + r6 : Int)⟩ : Span)])) (vy := v169z) T24 rfl H rfl rfl rfl (ownSl (H.get (k := 0) rfl)) (ownLe _ (H.get (k := 0) rfl)) (rfl) (by first | omega | (simp only [List.length_nil] at *; omega)) ?_
    intro v173z w174z H
    replace H := H.nf
    have hvc_q175z := Sl.cells (ownSl (H.get (k := 4) rfl))
    have hvo_q175z := Sl.oc (ownSl (H.get (k := 4) rfl))
    refine s_nil ⟨(H.pk [3, 7]), ?_⟩
    refine t_l rfl ?_
    refine t_sw 6 0 [v161z] v161z H rfl rfl Sz23 (Sl.cells (ownSl (H.get (k := 5) rfl))) rfl rfl (by simp only [List.all_cons, List.all_nil, Bool.true_and, Bool.and_true, Sl.oc (ownSl (H.get (k := 5) rfl))]; try rfl) ?_
    intro w176z H
    refine s_nil ⟨(H.pk [3, 7]), ?_⟩
    refine t_q rfl (fun w' H => x_fa (a := .pointer (some ⟨b_2, 0, none⟩)) (v := .pointer (some ⟨b_2, 1, none⟩)) rfl (fa_blk (o := 0) Fd30_1 Sz24)) ?_
    refine t_l rfl ?_
    refine t_sw 6 1 [v173z] v173z H rfl rfl Sz24 (Sl.cells (ownSl (H.get (k := 4) rfl))) rfl rfl (by simp only [List.all_cons, List.all_nil, Bool.true_and, Bool.and_true, Sl.oc (ownSl (H.get (k := 4) rfl))]; try rfl) ?_
    intro w177z H
    refine s_nil ⟨(H.pk [3, 7]), ?_⟩
    refine t_nil ?_
    exact ⟨r6, q15, q25, v169z, v157z, v173z, v161z, _, upds_of _ _ ⟨rfl, rfl, rfl, rfl, rfl, trivial⟩, hM, H⟩
   ·skip
    refine t_bs (α := Int) T23 [I down] [(down : Int)] H rfl (.cons rfl (Flat.rep_enc _ (down : Int)) <| .nil) rfl rfl rfl ?_
    intro v178z w179z H
    have hvc_q180z := Sl.cells (ownSl (H.get (k := 0) rfl))
    have hvo_q180z := Sl.oc (ownSl (H.get (k := 0) rfl))
    have hvc_q181z := Sl.cells (ownSl (H.get (k := 3) rfl))
    have hvo_q181z := Sl.oc (ownSl (H.get (k := 3) rfl))
    have hvc_q182z := Sl.cells (ownSl (H.get (k := 4) rfl))
    have hvo_q182z := Sl.oc (ownSl (H.get (k := 4) rfl))
    refine s_nil ⟨(H.pk [2, 6]), ?_⟩
    refine t_l2 rfl rfl ?_ ?_
    ·skip
     refine s_val (x_ld (p := .pointer (some ⟨b_2, 0, none⟩)) (v := v_l) rfl (ldb_sc Sc23 (H.blk (k := 5) rfl) rfl)) ?_
     refine s_nil ⟨(H.pk [2, 6]), ?_⟩
     refine t_l2 rfl rfl ?_ ?_
     ·skip
      obtain ⟨sd216z, hM⟩ := M.e_grd hM
      simp only [Bool.and_eq_true, decide_eq_true_eq] at sd216z
      refine t_app (α := Int) (k := 4) (l := l) (l2 := [(down : Int)]) (l' := l ++ ([(down : Int)])) (vy := v178z) T23 rfl H rfl rfl rfl (ownSl (H.get (k := 0) rfl)) (ownLe _ (H.get (k := 0) rfl)) (rfl) (by first | omega | (simp only [List.length_nil] at *; omega)) ?_
      intro v217z w218z H
      replace H := H.nf
      have hvc_q219z := Sl.cells (ownSl (H.get (k := 4) rfl))
      have hvo_q219z := Sl.oc (ownSl (H.get (k := 4) rfl))
      refine s_nil ⟨(H.pk [2, 6]), ?_⟩
      refine t_l2 rfl rfl ?_ ?_
      ·skip
       refine s_val (x_ld (p := .pointer (some ⟨b_2, 1, none⟩)) (v := v_l2) rfl (ldb_sc Sc24 (H.blk (k := 5) rfl) rfl)) ?_
       refine s_nil ⟨(H.pk [2, 6]), ?_⟩
       refine t_q rfl (fun w' H => x_fa (a := .pointer (some ⟨b_2, 0, none⟩)) (v := .pointer (some ⟨b_2, 0, none⟩)) rfl (fa_blk (o := 0) Fd30_0 Sz23)) ?_
       refine t_l rfl ?_
       obtain ⟨r233z, hx232z, hM⟩ := M.e_bind hM
       refine s_call cf10 [.pointer (some ⟨b_s, 0, none⟩), I 5] rfl (zab s_bytes q14 q24 5 (hC_s_bytes.app _) hs_s_bytes hx232z _ ((H.pk [1, 0, 2, 3, 4, 5, 6]).gt 6)) ?_
       rintro vq w234z ⟨r6, q15, q25, hr235z, hvq, H2_⟩
       subst hr235z
       subst vq
       try dsimp only at hM
       replace H := H.pk [1, 0, 2, 3, 4, 5, 6] |>.bk H2_
       clear H2_
       refine s_nil ⟨(H.pk [2, 6]), ?_⟩
       obtain ⟨sd236z, hM⟩ := M.e_grd hM
       simp only [Bool.and_eq_true, decide_eq_true_eq] at sd236z
       refine t_q rfl (fun w' H => x_ari (a := r5) (b := r6) (r := r5 + r6) rfl rfl rfl (by omega)) ?_
       refine t_q rfl (fun w' H => x_bld (ps := [(0, I r5), (1, I (r5 + r6))]) (zs := [I 0, I 0]) (L' := [I r5, I (r5 + r6)]) rfl Try.underlying27 Al27 rfl (Bd27 Try.underlying27) (.cons (cs := [I r5]) rfl rfl rfl rfl rfl <| .cons (cs := [I (r5 + r6)]) rfl rfl rfl rfl rfl <| .nil)) ?_
       refine t_l rfl ?_
       refine t_bs (α := Span) T24 [.agg #[I r5, I (r5 + r6)]] [(⟨(r5 : Int), (r5 + r6 : Int)⟩ : Span)] H rfl (.cons rfl (Flat.rep_enc _ (⟨(r5 : Int), (r5 + r6 : Int)⟩ : Span)) <| .nil) rfl rfl rfl ?_
       intro v237z w238z H
       have hvc_q239z := Sl.cells (ownSl (H.get (k := 0) rfl))
       have hvo_q239z := Sl.oc (ownSl (H.get (k := 0) rfl))
       refine s_nil ⟨(H.pk [3, 7]), ?_⟩
       refine t_l rfl ?_
       obtain ⟨sd240z, hM⟩ := M.e_grd hM
       simp only [Bool.and_eq_true, decide_eq_true_eq] at sd240z
       refine t_app (α := Span) (k := 4) (l := l2) (l2 := [(⟨(r5 : Int), (r5 + r6 : Int)⟩ : Span)]) (l' := l2 ++ ([(⟨(r5 : Int), (r5 + r6 : Int)⟩ : Span)])) (vy := v237z) T24 rfl H rfl rfl rfl (ownSl (H.get (k := 0) rfl)) (ownLe _ (H.get (k := 0) rfl)) (rfl) (by first | omega | (simp only [List.length_nil] at *; omega)) ?_
       intro v241z w242z H
       replace H := H.nf
       have hvc_q243z := Sl.cells (ownSl (H.get (k := 4) rfl))
       have hvo_q243z := Sl.oc (ownSl (H.get (k := 4) rfl))
       refine s_nil ⟨(H.pk [3, 7]), ?_⟩
       refine t_l rfl ?_
       refine t_sw 6 0 [v217z] v217z H rfl rfl Sz23 (Sl.cells (ownSl (H.get (k := 5) rfl))) rfl rfl (by simp only [List.all_cons, List.all_nil, Bool.true_and, Bool.and_true, Sl.oc (ownSl (H.get (k := 5) rfl))]; try rfl) ?_
       intro w244z H
       refine s_nil ⟨(H.pk [3, 7]), ?_⟩
       refine t_q rfl (fun w' H => x_fa (a := .pointer (some ⟨b_2, 0, none⟩)) (v := .pointer (some ⟨b_2, 1, none⟩)) rfl (fa_blk (o := 0) Fd30_1 Sz24)) ?_
       refine t_l rfl ?_
       refine t_sw 6 1 [v241z] v241z H rfl rfl Sz24 (Sl.cells (ownSl (H.get (k := 4) rfl))) rfl rfl (by simp only [List.all_cons, List.all_nil, Bool.true_and, Bool.and_true, Sl.oc (ownSl (H.get (k := 4) rfl))]; try rfl) ?_
       intro w245z H
       refine s_nil ⟨(H.pk [3, 7]), ?_⟩
       refine t_nil ?_
       exact ⟨r6, q15, q25, v237z, v178z, v241z, v217z, _, upds_of _ _ ⟨rfl, rfl, rfl, rfl, rfl, trivial⟩, hM, H⟩
      skip
      obtain ⟨r247z, hx246z, hM⟩ := M.e_bind hM
      refine s_call cf10 [.pointer (some ⟨b_s, 0, none⟩), I 5] rfl (zab s_bytes q14 q24 5 (hC_s_bytes.app _) hs_s_bytes hx246z _ ((H.pk [1, 0, 2, 3, 4, 5, 6]).gt 6)) ?_
      rintro vq w248z ⟨r6, q15, q25, hr249z, hvq, H2_⟩
      subst hr249z
      subst vq
      try dsimp only at hM
      replace H := H.pk [1, 0, 2, 3, 4, 5, 6] |>.bk H2_
      clear H2_
      refine s_nil ⟨(H.pk [2, 6]), ?_⟩
      obtain ⟨sd250z, hM⟩ := M.e_grd hM
      simp only [Bool.and_eq_true, decide_eq_true_eq] at sd250z
      refine t_q rfl (fun w' H => x_ari (a := r5) (b := r6) (r := r5 + r6) rfl rfl rfl (by omega)) ?_
      refine t_q rfl (fun w' H => x_bld (ps := [(0, I r5), (1, I (r5 + r6))]) (zs := [I 0, I 0]) (L' := [I r5, I (r5 + r6)]) rfl Try.underlying27 Al27 rfl (Bd27 Try.underlying27) (.cons (cs := [I r5]) rfl rfl rfl rfl rfl <| .cons (cs := [I (r5 + r6)]) rfl rfl rfl rfl rfl <| .nil)) ?_
      obtain ⟨sd253z, hM⟩ := M.e_grd hM
      simp only [Bool.and_eq_true, decide_eq_true_eq] at sd253z
      refine t_l2 rfl rfl ?_ ?_
      ·skip
       refine s_val (x_ld (p := .pointer (some ⟨b_2, 1, none⟩)) (v := v_l2) rfl (ldb_sc Sc24 (H.blk (k := 5) rfl) rfl)) ?_
       refine s_nil ⟨(H.pk [2, 6]), ?_⟩
       refine t_q rfl (fun w' H => x_fa (a := .pointer (some ⟨b_2, 0, none⟩)) (v := .pointer (some ⟨b_2, 0, none⟩)) rfl (fa_blk (o := 0) Fd30_0 Sz23)) ?_
       refine t_l rfl ?_
       refine t_bs (α := Span) T24 [.agg #[I r5, I (r5 + r6)]] [(⟨(r5 : Int), (r5 + r6 : Int)⟩ : Span)] H rfl (.cons rfl (Flat.rep_enc _ (⟨(r5 : Int), (r5 + r6 : Int)⟩ : Span)) <| .nil) rfl rfl rfl ?_
       intro v258z w259z H
       have hvc_q260z := Sl.cells (ownSl (H.get (k := 0) rfl))
       have hvo_q260z := Sl.oc (ownSl (H.get (k := 0) rfl))
       refine s_nil ⟨(H.pk [3, 7]), ?_⟩
       refine t_l rfl ?_
       refine t_app (α := Span) (k := 4) (l := l2) (l2 := [(⟨(r5 : Int), (r5 + r6 : Int)⟩ : Span)]) (l' := l2 ++ ([(⟨(r5 : Int), (r5 + r6 : Int)⟩ : Span)])) (vy := v258z) T24 rfl H rfl rfl rfl (ownSl (H.get (k := 0) rfl)) (ownLe _ (H.get (k := 0) rfl)) (rfl) (by first | omega | (simp only [List.length_nil] at *; omega)) ?_
       intro v261z w262z H
       replace H := H.nf
       have hvc_q263z := Sl.cells (ownSl (H.get (k := 4) rfl))
       have hvo_q263z := Sl.oc (ownSl (H.get (k := 4) rfl))
       refine s_nil ⟨(H.pk [3, 7]), ?_⟩
       refine t_l rfl ?_
       refine t_sw 6 0 [v217z] v217z H rfl rfl Sz23 (Sl.cells (ownSl (H.get (k := 5) rfl))) rfl rfl (by simp only [List.all_cons, List.all_nil, Bool.true_and, Bool.and_true, Sl.oc (ownSl (H.get (k := 5) rfl))]; try rfl) ?_
       intro w264z H
       refine s_nil ⟨(H.pk [3, 7]), ?_⟩
       refine t_q rfl (fun w' H => x_fa (a := .pointer (some ⟨b_2, 0, none⟩)) (v := .pointer (some ⟨b_2, 1, none⟩)) rfl (fa_blk (o := 0) Fd30_1 Sz24)) ?_
       refine t_l rfl ?_
       refine t_sw 6 1 [v261z] v261z H rfl rfl Sz24 (Sl.cells (ownSl (H.get (k := 4) rfl))) rfl rfl (by simp only [List.all_cons, List.all_nil, Bool.true_and, Bool.and_true, Sl.oc (ownSl (H.get (k := 4) rfl))]; try rfl) ?_
       intro w265z H
       refine s_nil ⟨(H.pk [3, 7]), ?_⟩
       refine t_nil ?_
       exact ⟨r6, q15, q25, v258z, v178z, v261z, v217z, _, upds_of _ _ ⟨rfl, rfl, rfl, rfl, rfl, trivial⟩, hM, H⟩
      skip
      refine t_bs (α := Span) T24 [.agg #[I r5, I (r5 + r6)]] [(⟨(r5 : Int), (r5 + r6 : Int)⟩ : Span)] H rfl (.cons rfl (Flat.rep_enc _ (⟨(r5 : Int), (r5 + r6 : Int)⟩ : Span)) <| .nil) rfl rfl rfl ?_
      intro v266z w267z H
      have hvc_q268z := Sl.cells (ownSl (H.get (k := 0) rfl))
      have hvo_q268z := Sl.oc (ownSl (H.get (k := 0) rfl))
      refine s_nil ⟨(H.pk [3, 7]), ?_⟩
      refine t_l rfl ?_
      refine s_val (x_ld (p := .pointer (some ⟨b_2, 1, none⟩)) (v := v_l2) rfl (ldb_sc Sc24 (H.blk (k := 6) rfl) rfl)) ?_
      refine s_nil ⟨(H.pk [3, 7]), ?_⟩
      refine t_q rfl (fun w' H => x_fa (a := .pointer (some ⟨b_2, 0, none⟩)) (v := .pointer (some ⟨b_2, 0, none⟩)) rfl (fa_blk (o := 0) Fd30_0 Sz23)) ?_
      refine t_l rfl ?_
      refine t_app (α := Span) (k := 4) (l := l2) (l2 := [(⟨(r5 : Int), (r5 + r6 : Int)⟩ : Span)]) (l' := l2 ++ ([(⟨(r5 : Int), (r5 + r6 : Int)⟩ : Span)])) (vy := v266z) T24 rfl H rfl rfl rfl (ownSl (H.get (k := 0) rfl)) (ownLe _ (H.get (k := 0) rfl)) (rfl) (by first | omega | (simp only [List.length_nil] at *; omega)) ?_
      intro v269z w270z H
      replace H := H.nf
      have hvc_q271z := Sl.cells (ownSl (H.get (k := 4) rfl))
      have hvo_q271z := Sl.oc (ownSl (H.get (k := 4) rfl))
      refine s_nil ⟨(H.pk [3, 7]), ?_⟩
      refine t_l rfl ?_
      refine t_sw 6 0 [v217z] v217z H rfl rfl Sz23 (Sl.cells (ownSl (H.get (k := 5) rfl))) rfl rfl (by simp only [List.all_cons, List.all_nil, Bool.true_and, Bool.and_true, Sl.oc (ownSl (H.get (k := 5) rfl))]; try rfl) ?_
      intro w272z H
      refine s_nil ⟨(H.pk [3, 7]), ?_⟩
      refine t_q rfl (fun w' H => x_fa (a := .pointer (some ⟨b_2, 0, none⟩)) (v := .pointer (some ⟨b_2, 1, none⟩)) rfl (fa_blk (o := 0) Fd30_1 Sz24)) ?_
      refine t_l rfl ?_
      refine t_sw 6 1 [v269z] v269z H rfl rfl Sz24 (Sl.cells (ownSl (H.get (k := 4) rfl))) rfl rfl (by simp only [List.all_cons, List.all_nil, Bool.true_and, Bool.and_true, Sl.oc (ownSl (H.get (k := 4) rfl))]; try rfl) ?_
      intro w273z H
      refine s_nil ⟨(H.pk [3, 7]), ?_⟩
      refine t_nil ?_
      exact ⟨r6, q15, q25, v266z, v178z, v269z, v217z, _, upds_of _ _ ⟨rfl, rfl, rfl, rfl, rfl, trivial⟩, hM, H⟩
     skip
     refine s_val (x_ld (p := .pointer (some ⟨b_2, 1, none⟩)) (v := v_l2) rfl (ldb_sc Sc24 (H.blk (k := 5) rfl) rfl)) ?_
     refine s_nil ⟨(H.pk [2, 6]), ?_⟩
     refine t_l rfl ?_
     obtain ⟨sd274z, hM⟩ := M.e_grd hM
     simp only [Bool.and_eq_true, decide_eq_true_eq] at sd274z
     refine t_app (α := Int) (k := 4) (l := l) (l2 := [(down : Int)]) (l' := l ++ ([(down : Int)])) (vy := v178z) T23 rfl H rfl rfl rfl (ownSl (H.get (k := 0) rfl)) (ownLe _ (H.get (k := 0) rfl)) (rfl) (by first | omega | (simp only [List.length_nil] at *; omega)) ?_
     intro v275z w276z H
     replace H := H.nf
     have hvc_q277z := Sl.cells (ownSl (H.get (k := 4) rfl))
     have hvo_q277z := Sl.oc (ownSl (H.get (k := 4) rfl))
     refine s_nil ⟨(H.pk [2, 6]), ?_⟩
     refine t_q rfl (fun w' H => x_fa (a := .pointer (some ⟨b_2, 0, none⟩)) (v := .pointer (some ⟨b_2, 0, none⟩)) rfl (fa_blk (o := 0) Fd30_0 Sz23)) ?_
     refine t_l rfl ?_
     obtain ⟨r279z, hx278z, hM⟩ := M.e_bind hM
     refine s_call cf10 [.pointer (some ⟨b_s, 0, none⟩), I 5] rfl (zab s_bytes q14 q24 5 (hC_s_bytes.app _) hs_s_bytes hx278z _ ((H.pk [1, 0, 2, 3, 4, 5, 6]).gt 6)) ?_
     rintro vq w280z ⟨r6, q15, q25, hr281z, hvq, H2_⟩
     subst hr281z
     subst vq
     try dsimp only at hM
     replace H := H.pk [1, 0, 2, 3, 4, 5, 6] |>.bk H2_
     clear H2_
     refine s_nil ⟨(H.pk [2, 6]), ?_⟩
     obtain ⟨sd282z, hM⟩ := M.e_grd hM
     simp only [Bool.and_eq_true, decide_eq_true_eq] at sd282z
     refine t_q rfl (fun w' H => x_ari (a := r5) (b := r6) (r := r5 + r6) rfl rfl rfl (by omega)) ?_
     refine t_q rfl (fun w' H => x_bld (ps := [(0, I r5), (1, I (r5 + r6))]) (zs := [I 0, I 0]) (L' := [I r5, I (r5 + r6)]) rfl Try.underlying27 Al27 rfl (Bd27 Try.underlying27) (.cons (cs := [I r5]) rfl rfl rfl rfl rfl <| .cons (cs := [I (r5 + r6)]) rfl rfl rfl rfl rfl <| .nil)) ?_
     refine t_l rfl ?_
     refine t_bs (α := Span) T24 [.agg #[I r5, I (r5 + r6)]] [(⟨(r5 : Int), (r5 + r6 : Int)⟩ : Span)] H rfl (.cons rfl (Flat.rep_enc _ (⟨(r5 : Int), (r5 + r6 : Int)⟩ : Span)) <| .nil) rfl rfl rfl ?_
     intro v283z w284z H
     have hvc_q285z := Sl.cells (ownSl (H.get (k := 0) rfl))
     have hvo_q285z := Sl.oc (ownSl (H.get (k := 0) rfl))
     refine s_nil ⟨(H.pk [3, 7]), ?_⟩
     refine t_l rfl ?_
     obtain ⟨sd286z, hM⟩ := M.e_grd hM
     simp only [Bool.and_eq_true, decide_eq_true_eq] at sd286z
     refine t_app (α := Span) (k := 4) (l := l2) (l2 := [(⟨(r5 : Int), (r5 + r6 : Int)⟩ : Span)]) (l' := l2 ++ ([(⟨(r5 : Int), (r5 + r6 : Int)⟩ : Span)])) (vy := v283z) T24 rfl H rfl rfl rfl (ownSl (H.get (k := 0) rfl)) (ownLe _ (H.get (k := 0) rfl)) (rfl) (by first | omega | (simp only [List.length_nil] at *; omega)) ?_
     intro v287z w288z H
     replace H := H.nf
     have hvc_q289z := Sl.cells (ownSl (H.get (k := 4) rfl))
     have hvo_q289z := Sl.oc (ownSl (H.get (k := 4) rfl))
     refine s_nil ⟨(H.pk [3, 7]), ?_⟩
     refine t_l rfl ?_
     refine t_sw 6 0 [v275z] v275z H rfl rfl Sz23 (Sl.cells (ownSl (H.get (k := 5) rfl))) rfl rfl (by simp only [List.all_cons, List.all_nil, Bool.true_and, Bool.and_true, Sl.oc (ownSl (H.get (k := 5) rfl))]; try rfl) ?_
     intro w290z H
     refine s_nil ⟨(H.pk [3, 7]), ?_⟩
     refine t_q rfl (fun w' H => x_fa (a := .pointer (some ⟨b_2, 0, none⟩)) (v := .pointer (some ⟨b_2, 1, none⟩)) rfl (fa_blk (o := 0) Fd30_1 Sz24)) ?_
     refine t_l rfl ?_
     refine t_sw 6 1 [v287z] v287z H rfl rfl Sz24 (Sl.cells (ownSl (H.get (k := 4) rfl))) rfl rfl (by simp only [List.all_cons, List.all_nil, Bool.true_and, Bool.and_true, Sl.oc (ownSl (H.get (k := 4) rfl))]; try rfl) ?_
     intro w291z H
     refine s_nil ⟨(H.pk [3, 7]), ?_⟩
     refine t_nil ?_
     exact ⟨r6, q15, q25, v283z, v178z, v287z, v275z, _, upds_of _ _ ⟨rfl, rfl, rfl, rfl, rfl, trivial⟩, hM, H⟩
    skip
    refine s_val (x_ld (p := .pointer (some ⟨b_2, 1, none⟩)) (v := v_l2) rfl (ldb_sc Sc24 (H.blk (k := 5) rfl) rfl)) ?_
    refine s_nil ⟨(H.pk [2, 6]), ?_⟩
    refine t_l rfl ?_
    refine s_val (x_ld (p := .pointer (some ⟨b_2, 0, none⟩)) (v := v_l) rfl (ldb_sc Sc23 (H.blk (k := 5) rfl) rfl)) ?_
    refine s_nil ⟨(H.pk [2, 6]), ?_⟩
    refine t_l rfl ?_
    obtain ⟨sd292z, hM⟩ := M.e_grd hM
    simp only [Bool.and_eq_true, decide_eq_true_eq] at sd292z
    refine t_app (α := Int) (k := 4) (l := l) (l2 := [(down : Int)]) (l' := l ++ ([(down : Int)])) (vy := v178z) T23 rfl H rfl rfl rfl (ownSl (H.get (k := 0) rfl)) (ownLe _ (H.get (k := 0) rfl)) (rfl) (by first | omega | (simp only [List.length_nil] at *; omega)) ?_
    intro v293z w294z H
    replace H := H.nf
    have hvc_q295z := Sl.cells (ownSl (H.get (k := 4) rfl))
    have hvo_q295z := Sl.oc (ownSl (H.get (k := 4) rfl))
    refine s_nil ⟨(H.pk [2, 6]), ?_⟩
    refine t_q rfl (fun w' H => x_fa (a := .pointer (some ⟨b_2, 0, none⟩)) (v := .pointer (some ⟨b_2, 0, none⟩)) rfl (fa_blk (o := 0) Fd30_0 Sz23)) ?_
    refine t_l rfl ?_
    obtain ⟨r297z, hx296z, hM⟩ := M.e_bind hM
    refine s_call cf10 [.pointer (some ⟨b_s, 0, none⟩), I 5] rfl (zab s_bytes q14 q24 5 (hC_s_bytes.app _) hs_s_bytes hx296z _ ((H.pk [1, 0, 2, 3, 4, 5, 6]).gt 6)) ?_
    rintro vq w298z ⟨r6, q15, q25, hr299z, hvq, H2_⟩
    subst hr299z
    subst vq
    try dsimp only at hM
    replace H := H.pk [1, 0, 2, 3, 4, 5, 6] |>.bk H2_
    clear H2_
    refine s_nil ⟨(H.pk [2, 6]), ?_⟩
    obtain ⟨sd300z, hM⟩ := M.e_grd hM
    simp only [Bool.and_eq_true, decide_eq_true_eq] at sd300z
    refine t_q rfl (fun w' H => x_ari (a := r5) (b := r6) (r := r5 + r6) rfl rfl rfl (by omega)) ?_
    refine t_q rfl (fun w' H => x_bld (ps := [(0, I r5), (1, I (r5 + r6))]) (zs := [I 0, I 0]) (L' := [I r5, I (r5 + r6)]) rfl Try.underlying27 Al27 rfl (Bd27 Try.underlying27) (.cons (cs := [I r5]) rfl rfl rfl rfl rfl <| .cons (cs := [I (r5 + r6)]) rfl rfl rfl rfl rfl <| .nil)) ?_
    refine t_l rfl ?_
    refine t_bs (α := Span) T24 [.agg #[I r5, I (r5 + r6)]] [(⟨(r5 : Int), (r5 + r6 : Int)⟩ : Span)] H rfl (.cons rfl (Flat.rep_enc _ (⟨(r5 : Int), (r5 + r6 : Int)⟩ : Span)) <| .nil) rfl rfl rfl ?_
    intro v301z w302z H
    have hvc_q303z := Sl.cells (ownSl (H.get (k := 0) rfl))
    have hvo_q303z := Sl.oc (ownSl (H.get (k := 0) rfl))
    refine s_nil ⟨(H.pk [3, 7]), ?_⟩
    refine t_l rfl ?_
    obtain ⟨sd304z, hM⟩ := M.e_grd hM
    simp only [Bool.and_eq_true, decide_eq_true_eq] at sd304z
    refine t_app (α := Span) (k := 4) (l := l2) (l2 := [(⟨(r5 : Int), (r5 + r6 : Int)⟩ : Span)]) (l' := l2 ++ ([(⟨(r5 : Int), (r5 + r6 : Int)⟩ : Span)])) (vy := v301z) T24 rfl H rfl rfl rfl (ownSl (H.get (k := 0) rfl)) (ownLe _ (H.get (k := 0) rfl)) (rfl) (by first | omega | (simp only [List.length_nil] at *; omega)) ?_
    intro v305z w306z H
    replace H := H.nf
    have hvc_q307z := Sl.cells (ownSl (H.get (k := 4) rfl))
    have hvo_q307z := Sl.oc (ownSl (H.get (k := 4) rfl))
    refine s_nil ⟨(H.pk [3, 7]), ?_⟩
    refine t_l rfl ?_
    refine t_sw 6 0 [v293z] v293z H rfl rfl Sz23 (Sl.cells (ownSl (H.get (k := 5) rfl))) rfl rfl (by simp only [List.all_cons, List.all_nil, Bool.true_and, Bool.and_true, Sl.oc (ownSl (H.get (k := 5) rfl))]; try rfl) ?_
    intro w308z H
    refine s_nil ⟨(H.pk [3, 7]), ?_⟩
    refine t_q rfl (fun w' H => x_fa (a := .pointer (some ⟨b_2, 0, none⟩)) (v := .pointer (some ⟨b_2, 1, none⟩)) rfl (fa_blk (o := 0) Fd30_1 Sz24)) ?_
    refine t_l rfl ?_
    refine t_sw 6 1 [v305z] v305z H rfl rfl Sz24 (Sl.cells (ownSl (H.get (k := 4) rfl))) rfl rfl (by simp only [List.all_cons, List.all_nil, Bool.true_and, Bool.and_true, Sl.oc (ownSl (H.get (k := 4) rfl))]; try rfl) ?_
    intro w309z H
    refine s_nil ⟨(H.pk [3, 7]), ?_⟩
    refine t_nil ?_
    exact ⟨r6, q15, q25, v301z, v178z, v305z, v293z, _, upds_of _ _ ⟨rfl, rfl, rfl, rfl, rfl, trivial⟩, hM, H⟩
   skip
   refine s_val (x_ld (p := .pointer (some ⟨b_2, 1, none⟩)) (v := v_l2) rfl (ldb_sc Sc24 (H.blk (k := 4) rfl) rfl)) ?_
   have hvc_q310z := Sl.cells (ownSl (H.get (k := 2) rfl))
   have hvo_q310z := Sl.oc (ownSl (H.get (k := 2) rfl))
   have hvc_q311z := Sl.cells (ownSl (H.get (k := 3) rfl))
   have hvo_q311z := Sl.oc (ownSl (H.get (k := 3) rfl))
   refine s_nil ⟨(H.pk [1, 5]), ?_⟩
   refine t_l2 rfl rfl ?_ ?_
   ·skip
    refine s_val (x_ld (p := .pointer (some ⟨b_2, 0, none⟩)) (v := v_l) rfl (ldb_sc Sc23 (H.blk (k := 4) rfl) rfl)) ?_
    refine s_nil ⟨(H.pk [1, 5]), ?_⟩
    refine t_l rfl ?_
    refine t_bs (α := Int) T23 [I down] [(down : Int)] H rfl (.cons rfl (Flat.rep_enc _ (down : Int)) <| .nil) rfl rfl rfl ?_
    intro v329z w330z H
    have hvc_q331z := Sl.cells (ownSl (H.get (k := 0) rfl))
    have hvo_q331z := Sl.oc (ownSl (H.get (k := 0) rfl))
    refine s_nil ⟨(H.pk [2, 6]), ?_⟩
    refine t_l rfl ?_
    obtain ⟨sd332z, hM⟩ := M.e_grd hM
    simp only [Bool.and_eq_true, decide_eq_true_eq] at sd332z
    refine t_app (α := Int) (k := 4) (l := l) (l2 := [(down : Int)]) (l' := l ++ ([(down : Int)])) (vy := v329z) T23 rfl H rfl rfl rfl (ownSl (H.get (k := 0) rfl)) (ownLe _ (H.get (k := 0) rfl)) (rfl) (by first | omega | (simp only [List.length_nil] at *; omega)) ?_
    intro v333z w334z H
    replace H := H.nf
    have hvc_q335z := Sl.cells (ownSl (H.get (k := 4) rfl))
    have hvo_q335z := Sl.oc (ownSl (H.get (k := 4) rfl))
    refine s_nil ⟨(H.pk [2, 6]), ?_⟩
    refine t_q rfl (fun w' H => x_fa (a := .pointer (some ⟨b_2, 0, none⟩)) (v := .pointer (some ⟨b_2, 0, none⟩)) rfl (fa_blk (o := 0) Fd30_0 Sz23)) ?_
    refine t_l rfl ?_
    obtain ⟨r337z, hx336z, hM⟩ := M.e_bind hM
    refine s_call cf10 [.pointer (some ⟨b_s, 0, none⟩), I 5] rfl (zab s_bytes q14 q24 5 (hC_s_bytes.app _) hs_s_bytes hx336z _ ((H.pk [1, 0, 2, 3, 4, 5, 6]).gt 6)) ?_
    rintro vq w338z ⟨r6, q15, q25, hr339z, hvq, H2_⟩
    subst hr339z
    subst vq
    try dsimp only at hM
    replace H := H.pk [1, 0, 2, 3, 4, 5, 6] |>.bk H2_
    clear H2_
    refine s_nil ⟨(H.pk [2, 6]), ?_⟩
    obtain ⟨sd340z, hM⟩ := M.e_grd hM
    simp only [Bool.and_eq_true, decide_eq_true_eq] at sd340z
    refine t_q rfl (fun w' H => x_ari (a := r5) (b := r6) (r := r5 + r6) rfl rfl rfl (by omega)) ?_
    refine t_q rfl (fun w' H => x_bld (ps := [(0, I r5), (1, I (r5 + r6))]) (zs := [I 0, I 0]) (L' := [I r5, I (r5 + r6)]) rfl Try.underlying27 Al27 rfl (Bd27 Try.underlying27) (.cons (cs := [I r5]) rfl rfl rfl rfl rfl <| .cons (cs := [I (r5 + r6)]) rfl rfl rfl rfl rfl <| .nil)) ?_
    refine t_l rfl ?_
    refine t_bs (α := Span) T24 [.agg #[I r5, I (r5 + r6)]] [(⟨(r5 : Int), (r5 + r6 : Int)⟩ : Span)] H rfl (.cons rfl (Flat.rep_enc _ (⟨(r5 : Int), (r5 + r6 : Int)⟩ : Span)) <| .nil) rfl rfl rfl ?_
    intro v341z w342z H
    have hvc_q343z := Sl.cells (ownSl (H.get (k := 0) rfl))
    have hvo_q343z := Sl.oc (ownSl (H.get (k := 0) rfl))
    refine s_nil ⟨(H.pk [3, 7]), ?_⟩
    refine t_l rfl ?_
    obtain ⟨sd344z, hM⟩ := M.e_grd hM
    simp only [Bool.and_eq_true, decide_eq_true_eq] at sd344z
    refine t_app (α := Span) (k := 4) (l := l2) (l2 := [(⟨(r5 : Int), (r5 + r6 : Int)⟩ : Span)]) (l' := l2 ++ ([(⟨(r5 : Int), (r5 + r6 : Int)⟩ : Span)])) (vy := v341z) T24 rfl H rfl rfl rfl (ownSl (H.get (k := 0) rfl)) (ownLe _ (H.get (k := 0) rfl)) (rfl) (by first | omega | (simp only [List.length_nil] at *; omega)) ?_
    intro v345z w346z H
    replace H := H.nf
    have hvc_q347z := Sl.cells (ownSl (H.get (k := 4) rfl))
    have hvo_q347z := Sl.oc (ownSl (H.get (k := 4) rfl))
    refine s_nil ⟨(H.pk [3, 7]), ?_⟩
    refine t_l rfl ?_
    refine t_sw 6 0 [v333z] v333z H rfl rfl Sz23 (Sl.cells (ownSl (H.get (k := 5) rfl))) rfl rfl (by simp only [List.all_cons, List.all_nil, Bool.true_and, Bool.and_true, Sl.oc (ownSl (H.get (k := 5) rfl))]; try rfl) ?_
    intro w348z H
    refine s_nil ⟨(H.pk [3, 7]), ?_⟩
    refine t_q rfl (fun w' H => x_fa (a := .pointer (some ⟨b_2, 0, none⟩)) (v := .pointer (some ⟨b_2, 1, none⟩)) rfl (fa_blk (o := 0) Fd30_1 Sz24)) ?_
    refine t_l rfl ?_
    refine t_sw 6 1 [v345z] v345z H rfl rfl Sz24 (Sl.cells (ownSl (H.get (k := 4) rfl))) rfl rfl (by simp only [List.all_cons, List.all_nil, Bool.true_and, Bool.and_true, Sl.oc (ownSl (H.get (k := 4) rfl))]; try rfl) ?_
    intro w349z H
    refine s_nil ⟨(H.pk [3, 7]), ?_⟩
    refine t_nil ?_
    exact ⟨r6, q15, q25, v341z, v329z, v345z, v333z, _, upds_of _ _ ⟨rfl, rfl, rfl, rfl, rfl, trivial⟩, hM, H⟩
   skip
   refine t_bs (α := Int) T23 [I down] [(down : Int)] H rfl (.cons rfl (Flat.rep_enc _ (down : Int)) <| .nil) rfl rfl rfl ?_
   intro v350z w351z H
   have hvc_q352z := Sl.cells (ownSl (H.get (k := 0) rfl))
   have hvo_q352z := Sl.oc (ownSl (H.get (k := 0) rfl))
   refine s_nil ⟨(H.pk [2, 6]), ?_⟩
   refine t_l rfl ?_
   refine s_val (x_ld (p := .pointer (some ⟨b_2, 0, none⟩)) (v := v_l) rfl (ldb_sc Sc23 (H.blk (k := 5) rfl) rfl)) ?_
   refine s_nil ⟨(H.pk [2, 6]), ?_⟩
   refine t_l rfl ?_
   obtain ⟨sd353z, hM⟩ := M.e_grd hM
   simp only [Bool.and_eq_true, decide_eq_true_eq] at sd353z
   refine t_app (α := Int) (k := 4) (l := l) (l2 := [(down : Int)]) (l' := l ++ ([(down : Int)])) (vy := v350z) T23 rfl H rfl rfl rfl (ownSl (H.get (k := 0) rfl)) (ownLe _ (H.get (k := 0) rfl)) (rfl) (by first | omega | (simp only [List.length_nil] at *; omega)) ?_
   intro v354z w355z H
   replace H := H.nf
   have hvc_q356z := Sl.cells (ownSl (H.get (k := 4) rfl))
   have hvo_q356z := Sl.oc (ownSl (H.get (k := 4) rfl))
   refine s_nil ⟨(H.pk [2, 6]), ?_⟩
   refine t_q rfl (fun w' H => x_fa (a := .pointer (some ⟨b_2, 0, none⟩)) (v := .pointer (some ⟨b_2, 0, none⟩)) rfl (fa_blk (o := 0) Fd30_0 Sz23)) ?_
   refine t_l rfl ?_
   obtain ⟨r358z, hx357z, hM⟩ := M.e_bind hM
   refine s_call cf10 [.pointer (some ⟨b_s, 0, none⟩), I 5] rfl (zab s_bytes q14 q24 5 (hC_s_bytes.app _) hs_s_bytes hx357z _ ((H.pk [1, 0, 2, 3, 4, 5, 6]).gt 6)) ?_
   rintro vq w359z ⟨r6, q15, q25, hr360z, hvq, H2_⟩
   subst hr360z
   subst vq
   try dsimp only at hM
   replace H := H.pk [1, 0, 2, 3, 4, 5, 6] |>.bk H2_
   clear H2_
   refine s_nil ⟨(H.pk [2, 6]), ?_⟩
   obtain ⟨sd361z, hM⟩ := M.e_grd hM
   simp only [Bool.and_eq_true, decide_eq_true_eq] at sd361z
   refine t_q rfl (fun w' H => x_ari (a := r5) (b := r6) (r := r5 + r6) rfl rfl rfl (by omega)) ?_
   refine t_q rfl (fun w' H => x_bld (ps := [(0, I r5), (1, I (r5 + r6))]) (zs := [I 0, I 0]) (L' := [I r5, I (r5 + r6)]) rfl Try.underlying27 Al27 rfl (Bd27 Try.underlying27) (.cons (cs := [I r5]) rfl rfl rfl rfl rfl <| .cons (cs := [I (r5 + r6)]) rfl rfl rfl rfl rfl <| .nil)) ?_
   refine t_l rfl ?_
   refine t_bs (α := Span) T24 [.agg #[I r5, I (r5 + r6)]] [(⟨(r5 : Int), (r5 + r6 : Int)⟩ : Span)] H rfl (.cons rfl (Flat.rep_enc _ (⟨(r5 : Int), (r5 + r6 : Int)⟩ : Span)) <| .nil) rfl rfl rfl ?_
   intro v362z w363z H
   have hvc_q364z := Sl.cells (ownSl (H.get (k := 0) rfl))
   have hvo_q364z := Sl.oc (ownSl (H.get (k := 0) rfl))
   refine s_nil ⟨(H.pk [3, 7]), ?_⟩
   refine t_l rfl ?_
   obtain ⟨sd365z, hM⟩ := M.e_grd hM
   simp only [Bool.and_eq_true, decide_eq_true_eq] at sd365z
   refine t_app (α := Span) (k := 4) (l := l2) (l2 := [(⟨(r5 : Int), (r5 + r6 : Int)⟩ : Span)]) (l' := l2 ++ ([(⟨(r5 : Int), (r5 + r6 : Int)⟩ : Span)])) (vy := v362z) T24 rfl H rfl rfl rfl (ownSl (H.get (k := 0) rfl)) (ownLe _ (H.get (k := 0) rfl)) (rfl) (by first | omega | (simp only [List.length_nil] at *; omega)) ?_
   intro v366z w367z H
   replace H := H.nf
   have hvc_q368z := Sl.cells (ownSl (H.get (k := 4) rfl))
   have hvo_q368z := Sl.oc (ownSl (H.get (k := 4) rfl))
   refine s_nil ⟨(H.pk [3, 7]), ?_⟩
   refine t_l rfl ?_
   refine t_sw 6 0 [v354z] v354z H rfl rfl Sz23 (Sl.cells (ownSl (H.get (k := 5) rfl))) rfl rfl (by simp only [List.all_cons, List.all_nil, Bool.true_and, Bool.and_true, Sl.oc (ownSl (H.get (k := 5) rfl))]; try rfl) ?_
   intro w369z H
   refine s_nil ⟨(H.pk [3, 7]), ?_⟩
   refine t_q rfl (fun w' H => x_fa (a := .pointer (some ⟨b_2, 0, none⟩)) (v := .pointer (some ⟨b_2, 1, none⟩)) rfl (fa_blk (o := 0) Fd30_1 Sz24)) ?_
   refine t_l rfl ?_
   refine t_sw 6 1 [v366z] v366z H rfl rfl Sz24 (Sl.cells (ownSl (H.get (k := 4) rfl))) rfl rfl (by simp only [List.all_cons, List.all_nil, Bool.true_and, Bool.and_true, Sl.oc (ownSl (H.get (k := 4) rfl))]; try rfl) ?_
   intro w370z H
   refine s_nil ⟨(H.pk [3, 7]), ?_⟩
   refine t_nil ?_
   exact ⟨r6, q15, q25, v362z, v350z, v366z, v354z, _, upds_of _ _ ⟨rfl, rfl, rfl, rfl, rfl, trivial⟩, hM, H⟩
  rintro _ w371z ⟨r6, q15, q25, uj_o_5, uj_o_3, uj_o_10, uj_o_9, ρ, rfl, hM, H⟩
  unfold zbB at hM
  refine W.seq ?_
  refine W.region rfl ?_
  refine s_val (x_fa (a := .pointer (some ⟨b_2, 0, none⟩)) (v := .pointer (some ⟨b_2, 2, none⟩)) rfl (fa_blk (o := 0) Fd30_2 Sz23)) ?_
  refine s_val (x_ld (p := .pointer (some ⟨b_2, 2, none⟩)) (v := v_l3) rfl (ldb_sc Sc23 (H.blk (k := 6) rfl) rfl)) ?_
  have hl372z := ((ownSl (H.get (k := 3) rfl))).len_le
  refine s_val (x_lenS T23.und rfl (ownSl (H.get (k := 3) rfl))) ?_
  refine s_val (x_cmp (kd := .i64) (a := (l3.length : Int)) (b := 8) (r := decide ((l3.length : Int) < 8)) rfl rfl rfl) ?_
  refine s_val (x_mv (v := B (decide ((l3.length : Int) < 8))) rfl) ?_
  refine g_val (decide ((l3.length : Int) < 8)) (gy_t rfl) (fun hg => x_mv (v := .pointer (some ⟨b_s, 0, none⟩)) rfl) ?_
  refine g_splitV (decide ((l3.length : Int) < 8)) (I 0) (gy_t rfl) (fun hg_ => ?_) (fun hg_ => ?_)
  ·replace hM := M.e_t hM hg_
   obtain ⟨r374z, hx373z, hM⟩ := M.e_bind hM
   refine s_call cf10 [.pointer (some ⟨b_s, 0, none⟩), I 3] (lst2 (gd_of (c := decide ((l3.length : Int) < 8)) hg_ (.pointer (some ⟨b_s, 0, none⟩))) rfl) (zab s_bytes q15 q25 3 (hC_s_bytes.app _) hs_s_bytes hx373z _ ((H.pk [1, 0, 2, 3, 4, 5, 6, 7]).gt 7)) ?_
   rintro vq w375z ⟨r7, q16, q26, hr376z, hvq, H2_⟩
   subst hr376z
   subst vq
   try dsimp only at hM
   replace H := H.pk [1, 0, 2, 3, 4, 5, 6, 7] |>.bk H2_
   clear H2_
   refine g_val (decide ((l3.length : Int) < 8)) (gy_t rfl) (fun hg => x_cmp (kd := .i64) (a := r7) (b := 0) (r := r7 == 0) rfl rfl rfl) ?_
   refine s_val (x_pand (b := decide ((l3.length : Int) < 8)) (r := r7 == 0) rfl (fun hb => gd_of (c := decide ((l3.length : Int) < 8)) (by first | exact hb | (rw [hb]; rfl) | simp_all) (B (r7 == 0))) rfl) ?_
   refine s_nil ?_
   replace H := H.pk [0, 3, 4, 5, 6, 7]
   refine W.cond ((decide ((l3.length : Int) < 8)) && (r7 == 0)) rfl (fun c377z => ?_) (fun c377z => ?_)
   ·replace hM := M.e_t hM c377z
    refine W.region rfl ?_
    refine s_val (x_fa (a := .pointer (some ⟨b_2, 0, none⟩)) (v := .pointer (some ⟨b_2, 2, none⟩)) rfl (fa_blk (o := 0) Fd30_2 Sz23)) ?_
    refine s_val (x_ld (p := .pointer (some ⟨b_2, 2, none⟩)) (v := v_l3) rfl (ldb_sc Sc23 (H.blk (k := 4) rfl) rfl)) ?_
    refine s_val (x_mv (v := I (i : Int)) rfl) ?_
    refine t_bs (α := Int) T23 [I (i : Int)] [(i : Int)] H rfl (.cons rfl (Flat.rep_enc _ (i : Int)) <| .nil) rfl rfl rfl ?_
    intro v378z w379z H
    obtain ⟨sd380z, hM⟩ := M.e_grd hM
    simp only [Bool.and_eq_true, decide_eq_true_eq] at sd380z
    refine t_app (α := Int) (k := 2) (l := l3) (l2 := [(i : Int)]) (l' := l3 ++ ([(i : Int)])) (vy := v378z) T23 rfl H rfl rfl rfl (ownSl (H.get (k := 0) rfl)) (ownLe _ (H.get (k := 0) rfl)) (rfl) (by first | omega | (simp only [List.length_nil] at *; omega)) ?_
    intro v381z w382z H
    replace H := H.nf
    refine s_val (x_fa (a := .pointer (some ⟨b_2, 0, none⟩)) (v := .pointer (some ⟨b_2, 2, none⟩)) rfl (fa_blk (o := 0) Fd30_2 Sz23)) ?_
    refine t_sw 5 2 [v381z] v381z H rfl rfl Sz23 (Sl.cells (ownSl (H.get (k := 2) rfl))) rfl rfl (by simp only [List.all_cons, List.all_nil, Bool.true_and, Bool.and_true, Sl.oc (ownSl (H.get (k := 2) rfl))]; try rfl) ?_
    intro w383z H
    refine s_nil ?_
    refine W.region rfl ?_
    refine s_val (x_mv (v := I (i : Int)) rfl) ?_
    obtain ⟨sd384z, hM⟩ := M.e_grd hM
    simp only [Bool.and_eq_true, decide_eq_true_eq] at sd384z
    refine s_val (x_ari (a := (i : Int)) (b := 1) (r := (i : Int) + 1) rfl rfl rfl (by omega)) ?_
    refine s_val (x_as (v := I ((i : Int) + 1)) rfl) ?_
    refine s_nil ?_
    exact ⟨m13z, lt14z, q16, q26, i + 1, l ++ ([(down : Int)]), l2 ++ ([(⟨(r5 : Int), (r5 + r6 : Int)⟩ : Span)]), l3 ++ ([(i : Int)]), uj_o_9, uj_o_10, v381z, _, upds_of _ _ ⟨rfl, rfl, rfl, rfl, rfl, trivial⟩, M.e_inl hM hN16z, (H.pk [2, 3, 4, 1, 5, 6])⟩
   replace hM := M.e_f hM c377z
   refine W.skip ?_
   refine W.region rfl ?_
   refine s_val (x_mv (v := I (i : Int)) rfl) ?_
   obtain ⟨sd385z, hM⟩ := M.e_grd hM
   simp only [Bool.and_eq_true, decide_eq_true_eq] at sd385z
   refine s_val (x_ari (a := (i : Int)) (b := 1) (r := (i : Int) + 1) rfl rfl rfl (by omega)) ?_
   refine s_val (x_as (v := I ((i : Int) + 1)) rfl) ?_
   refine s_nil ?_
   exact ⟨m13z, lt14z, q16, q26, i + 1, l ++ ([(down : Int)]), l2 ++ ([(⟨(r5 : Int), (r5 + r6 : Int)⟩ : Span)]), l3, uj_o_9, uj_o_10, v_l3, _, upds_of _ _ ⟨rfl, rfl, rfl, rfl, rfl, trivial⟩, M.e_inl hM hN16z, (H.pk [1, 2, 3, 0, 4, 5])⟩
  replace hM := M.e_f hM hg_
  refine g_val (v := B false) (decide ((l3.length : Int) < 8)) (gy_t rfl) (fun hg => Bool.noConfusion (hg_.symm.trans hg)) ?_
  refine s_val (x_pand0 (b := decide ((l3.length : Int) < 8)) rfl (fun hb => gd_of (c := decide ((l3.length : Int) < 8)) (by first | exact hb | (rw [hb]; rfl) | simp_all) (B false)) rfl) ?_
  refine s_nil ?_
  replace H := H.pk [1, 3, 4, 5, 6, 7]
  refine W.cond false rfl (fun c386z => ?_) (fun c386z => ?_)
  ·skip
   exact absurd c386z (by decide)
  skip
  refine W.skip ?_
  refine W.region rfl ?_
  refine s_val (x_mv (v := I (i : Int)) rfl) ?_
  obtain ⟨sd387z, hM⟩ := M.e_grd hM
  simp only [Bool.and_eq_true, decide_eq_true_eq] at sd387z
  refine s_val (x_ari (a := (i : Int)) (b := 1) (r := (i : Int) + 1) rfl rfl rfl (by omega)) ?_
  refine s_val (x_as (v := I ((i : Int) + 1)) rfl) ?_
  refine s_nil ?_
  exact ⟨m13z, lt14z, q15, q25, i + 1, l ++ ([(down : Int)]), l2 ++ ([(⟨(r5 : Int), (r5 + r6 : Int)⟩ : Span)]), l3, uj_o_9, uj_o_10, v_l3, _, upds_of _ _ ⟨rfl, rfl, rfl, rfl, rfl, trivial⟩, M.e_inl hM hN16z, (H.pk [1, 2, 3, 0, 4, 5])⟩
 replace hM := M.e_f hM c17z
 simp only [decide_eq_true_eq, decide_eq_false_iff_not, beq_iff_eq, bne_iff_ne, beq_eq_false_iff_ne, bne_eq_false_iff_eq, ne_eq, Decidable.not_not] at c17z
 refine W.exit ?_
 have hX388z := M.e_inr hM hN16z
 subst hX388z
 replace hM := hk9z
 try dsimp only at hM
 refine W.seqJ (fun σ W => ∃ (l10 : List Int) (v_l10 : Value) (ρ : Env), σ = upds ρ [(0, .pointer (some ⟨b_s, 0, none⟩)), (4, .pointer (some ⟨b_1, 0, none⟩)), (5, .pointer (some ⟨b_2, 0, none⟩)), (6, I r2)] /\ (zaR s_bytes r2 s4 s5 l2 l l10).Ends r /\ St w W [cOwn (α := Int) 3 v_l10 l10, cOwn (α := Span) 27 v_l2 l2, cOwn (α := Int) 3 v_l l, cBlk b_s [v_s_bytes, I s4, I s5] 71, cBlk b_2 [v_l, v_l2, v_l10, .slice none 0 0, I 0, I 0, .slice none 0 0] 30, cBlk b_1 [.slice none 0 0, .slice none 0 0, .slice none 0 0, .slice none 0 0, I 0, I 0, .slice none 0 0] 30] R) ?_ ?_
 ·skip
  refine W.seq ?_
  refine W.region rfl ?_
  refine s_val (x_fa (a := .pointer (some ⟨b_2, 0, none⟩)) (v := .pointer (some ⟨b_2, 2, none⟩)) rfl (fa_blk (o := 0) Fd30_2 Sz23)) ?_
  refine s_val (x_ld (p := .pointer (some ⟨b_2, 2, none⟩)) (v := v_l3) rfl (ldb_sc Sc23 (H.blk (k := 4) rfl) rfl)) ?_
  have hl389z := ((ownSl (H.get (k := 0) rfl))).len_le
  refine s_val (x_lenS T23.und rfl (ownSl (H.get (k := 0) rfl))) ?_
  refine s_val (x_cmp (kd := .i64) (a := (l3.length : Int)) (b := 0) (r := (l3.length : Int) == 0) rfl rfl rfl) ?_
  refine s_nil ?_
  refine W.cond ((l3.length : Int) == 0) rfl (fun c390z => ?_) (fun c390z => ?_)
  ·replace hM := M.e_t hM c390z
   simp only [decide_eq_true_eq, decide_eq_false_iff_not, beq_iff_eq, bne_iff_ne, beq_eq_false_iff_ne, bne_eq_false_iff_eq, ne_eq, Decidable.not_not] at c390z
   refine W.region rfl ?_
   refine t_bs (α := Int) T23 [I 0] [(0 : Int)] H rfl (.cons rfl (Flat.rep_enc _ (0 : Int)) <| .nil) rfl rfl rfl ?_
   intro v391z w392z H
   refine s_val (x_fa (a := .pointer (some ⟨b_2, 0, none⟩)) (v := .pointer (some ⟨b_2, 2, none⟩)) rfl (fa_blk (o := 0) Fd30_2 Sz23)) ?_
   refine t_sw 5 2 [v391z] v391z H rfl rfl Sz23 (Sl.cells (ownSl (H.get (k := 0) rfl))) rfl rfl (by simp only [List.all_cons, List.all_nil, Bool.true_and, Bool.and_true, Sl.oc (ownSl (H.get (k := 0) rfl))]; try rfl) ?_
   intro w393z H
   refine s_nil ?_
   exact ⟨[(0 : Int)], v391z, _, upds_of _ _ ⟨rfl, rfl, rfl, rfl, trivial⟩, hM, (H.pk [0, 2, 3, 4, 5, 6])⟩
  replace hM := M.e_f hM c390z
  simp only [decide_eq_true_eq, decide_eq_false_iff_not, beq_iff_eq, bne_iff_ne, beq_eq_false_iff_ne, bne_eq_false_iff_eq, ne_eq, Decidable.not_not] at c390z
  refine W.skip ?_
  exact ⟨l3, v_l3, _, upds_of _ _ ⟨rfl, rfl, rfl, rfl, trivial⟩, hM, H⟩
 rintro _ w394z ⟨l10, v_l10, ρ, rfl, hM, H⟩
 unfold zaR at hM
 refine W.seq ?_
 refine W.seq ?_
 refine W.region rfl ?_
 refine s_val (x_mv (v := .pointer (some ⟨b_s, 0, none⟩)) rfl) ?_
 obtain ⟨r396z, hx395z, hM⟩ := M.e_bind hM
 refine s_call cf10 [.pointer (some ⟨b_s, 0, none⟩), I 8] rfl (zab s_bytes s4 s5 8 (hC_s_bytes.app _) hs_s_bytes hx395z _ ((H.pk [3, 0, 1, 2, 4, 5]).gt 5)) ?_
 rintro vq w397z ⟨r8, q17, q27, hr398z, hvq, H2_⟩
 subst hr398z
 subst vq
 try dsimp only at hM
 replace H := H.pk [3, 0, 1, 2, 4, 5] |>.bk H2_
 clear H2_
 refine s_val (x_as (v := I r8) rfl) ?_
 refine s_nil ?_
 refine W.block ?_
 replace H := H.nilOwn (α := Town) 54
 obtain ⟨ex399z, hi400z, hk401z⟩ := M.e_bind hM
 obtain ⟨m0_, hi400z⟩ := M.e_iter hi400z
 refine W.loop (fun m σ W => ∃ (s8 : Int) (s9 : Int) (k : Int) (l11 : List Town) (v_l11 : Value) (ρ : Env), σ = upds ρ [(0, .pointer (some ⟨b_s, 0, none⟩)), (4, .pointer (some ⟨b_1, 0, none⟩)), (5, .pointer (some ⟨b_2, 0, none⟩)), (6, I r2), (10, I k)] /\ M.iterN (za8 s_bytes r2) m (s8, s9, k, l11) = some ex399z /\ St w W [cOwn (α := Town) 54 v_l11 l11, cBlk b_s [v_s_bytes, I s8, I s9] 71, cOwn (α := Int) 3 v_l10 l10, cOwn (α := Span) 27 v_l2 l2, cOwn (α := Int) 3 v_l l, cBlk b_2 [v_l, v_l2, v_l10, v_l11, I 0, I 0, .slice none 0 0] 30, cBlk b_1 [.slice none 0 0, .slice none 0 0, .slice none 0 0, .slice none 0 0, I 0, I 0, .slice none 0 0] 30] R) ?_ ?_
 ·exact ⟨_, q17, q27, r8, [], (.slice none 0 0), _, upds_of _ _ ⟨rfl, rfl, rfl, rfl, rfl, trivial⟩, hi400z, H⟩
 rintro m404z σ w402z ⟨s8, s9, k, l11, v_l11, ρ, rfl, hI403z, H⟩
 obtain ⟨m405z, lt406z, x407z, hM, hN408z⟩ := M.e_iterN hI403z
 simp only [za8] at hM
 clear hI403z
 refine W.seq ?_
 refine W.seq ?_
 refine W.region rfl ?_
 refine s_val (x_mv (v := I k) rfl) ?_
 refine s_val (x_cmp (kd := .i64) (a := k) (b := 0) (r := decide (0 < k)) rfl rfl rfl) ?_
 refine s_nil ?_
 refine W.cond (decide (0 < k)) rfl (fun c409z => ?_) (fun c409z => ?_)
 ·replace hM := M.e_t hM c409z
  simp only [decide_eq_true_eq, decide_eq_false_iff_not, beq_iff_eq, bne_iff_ne, beq_eq_false_iff_ne, bne_eq_false_iff_eq, ne_eq, Decidable.not_not] at c409z
  refine W.skip ?_
  refine W.seq ?_
  refine W.block ?_
  refine W.drawT (fun W => St w W [cOwn (α := Int) 3 v_l10 l10, cOwn (α := Span) 27 v_l2 l2, cOwn (α := Int) 3 v_l l, cBlk b_1 [.slice none 0 0, .slice none 0 0, .slice none 0 0, .slice none 0 0, I 0, I 0, .slice none 0 0] 30] R) (.q 0 (.q 2 (.q 3 (.q 5 (.q 7 (.l2 1 (.l 4 (.l 6 (.l 8 (.q 9 (.l 10 (.l 11 (.q 12 (.l 13 .nil)))))))) 4 (.l2 1 (.l 6 (.l 8 (.q 9 (.l 10 (.l 11 (.q 12 (.l 13 .nil))))))) 6 (.l2 1 (.l 8 (.q 9 (.l 10 (.l 11 (.q 12 (.l 13 .nil)))))) 8 (.q 9 (.l2 1 (.l 10 (.l 11 (.q 12 (.l 13 .nil)))) 10 (.l 1 (.l 11 (.q 12 (.l 13 .nil)))))))))))))) mixed (by decide +kernel) rfl ?_
  intro w410z hx_
  replace H := H.ext hx_
  clear hx_
  refine ⟨(H.pk [2, 3, 4, 6]), ?_⟩
  refine t_q rfl (fun w' H => x_fa (a := .pointer (some ⟨b_2, 0, none⟩)) (v := .pointer (some ⟨b_2, 3, none⟩)) rfl (fa_blk (o := 0) Fd30_3 Sz25)) ?_
  refine t_q rfl (fun w' H => x_mv (v := .pointer (some ⟨b_s, 0, none⟩)) rfl) ?_
  refine t_q rfl (fun w' H => x_mv (v := I r2) rfl) ?_
  refine t_q rfl (fun w' H => x_mv (v := .pointer (some ⟨b_s, 0, none⟩)) rfl) ?_
  refine t_q rfl (fun w' H => x_mv (v := .pointer (some ⟨b_s, 0, none⟩)) rfl) ?_
  refine t_l2 rfl rfl ?_ ?_
  ·skip
   refine s_val (x_ld (p := .pointer (some ⟨b_2, 3, none⟩)) (v := v_l11) rfl (ldb_sc Sc25 (H.blk (k := 5) rfl) rfl)) ?_
   have hvc_q429z := Sl.cells (ownSl (H.get (k := 0) rfl))
   have hvo_q429z := Sl.oc (ownSl (H.get (k := 0) rfl))
   refine s_nil ⟨(H.pk [2, 3, 4, 6]), ?_⟩
   refine t_l rfl ?_
   obtain ⟨r431z, hx430z, hM⟩ := M.e_bind hM
   refine s_call cf10 [.pointer (some ⟨b_s, 0, none⟩), I r2] rfl (zab s_bytes s8 s9 r2 (hC_s_bytes.app _) hs_s_bytes hx430z _ ((H.pk [1, 0, 2, 3, 4, 5, 6]).gt 6)) ?_
   rintro vq w432z ⟨r9, q18, q28, hr433z, hvq, H2_⟩
   subst hr433z
   subst vq
   try dsimp only at hM
   replace H := H.pk [1, 0, 2, 3, 4, 5, 6] |>.bk H2_
   clear H2_
   refine s_nil ⟨(H.pk [2, 3, 4, 6]), ?_⟩
   refine t_l rfl ?_
   obtain ⟨r435z, hx434z, hM⟩ := M.e_bind hM
   refine s_call cf10 [.pointer (some ⟨b_s, 0, none⟩), I 8] rfl (zab s_bytes q18 q28 8 (hC_s_bytes.app _) hs_s_bytes hx434z _ (H.gt 6)) ?_
   rintro vq w436z ⟨r10, q19, q29, hr437z, hvq, H2_⟩
   subst hr437z
   subst vq
   try dsimp only at hM
   replace H := H.bk H2_
   clear H2_
   refine s_nil ⟨(H.pk [2, 3, 4, 6]), ?_⟩
   refine t_l rfl ?_
   obtain ⟨r439z, hx438z, hM⟩ := M.e_bind hM
   refine s_call cf27 [.pointer (some ⟨b_s, 0, none⟩), I 100, I 300] rfl (zaO s_bytes q19 q29 100 300 (hC_s_bytes.app _) hs_s_bytes hx438z _ (H.gt 6)) ?_
   rintro vq w440z ⟨r11, q110, q210, hr441z, hvq, H2_⟩
   subst hr441z
   subst vq
   try dsimp only at hM
   replace H := H.bk H2_
   clear H2_
   refine s_nil ⟨(H.pk [2, 3, 4, 6]), ?_⟩
   refine t_q rfl (fun w' H => x_bld (ps := [(0, I r9), (1, I r10), (2, I r11)]) (zs := [I 0, I 0, I 0]) (L' := [I r9, I r10, I r11]) rfl Try.underlying54 Al54 rfl (Bd54 Try.underlying54) (.cons (cs := [I r9]) rfl rfl rfl rfl rfl <| .cons (cs := [I r10]) rfl rfl rfl rfl rfl <| .cons (cs := [I r11]) rfl rfl rfl rfl rfl <| .nil)) ?_
   refine t_l rfl ?_
   refine t_bs (α := Town) T25 [.agg #[I r9, I r10, I r11]] [(⟨(r9 : Int), (r10 : Int), (r11 : Int)⟩ : Town)] H rfl (.cons rfl (Flat.rep_enc _ (⟨(r9 : Int), (r10 : Int), (r11 : Int)⟩ : Town)) <| .nil) rfl rfl rfl ?_
   intro v442z w443z H
   have hvc_q444z := Sl.cells (ownSl (H.get (k := 0) rfl))
   have hvo_q444z := Sl.oc (ownSl (H.get (k := 0) rfl))
   refine s_nil ⟨(H.pk [3, 4, 5, 7]), ?_⟩
   refine t_l rfl ?_
   obtain ⟨sd445z, hM⟩ := M.e_grd hM
   simp only [Bool.and_eq_true, decide_eq_true_eq] at sd445z
   refine t_app (α := Town) (k := 2) (l := l11) (l2 := [(⟨(r9 : Int), (r10 : Int), (r11 : Int)⟩ : Town)]) (l' := l11 ++ ([(⟨(r9 : Int), (r10 : Int), (r11 : Int)⟩ : Town)])) (vy := v442z) T25 rfl H rfl rfl rfl (ownSl (H.get (k := 0) rfl)) (ownLe _ (H.get (k := 0) rfl)) (rfl) (by first | omega | (simp only [List.length_nil] at *; omega)) ?_
   intro v446z w447z H
   replace H := H.nf
   have hvc_q448z := Sl.cells (ownSl (H.get (k := 2) rfl))
   have hvo_q448z := Sl.oc (ownSl (H.get (k := 2) rfl))
   refine s_nil ⟨(H.pk [3, 4, 5, 7]), ?_⟩
   refine t_q rfl (fun w' H => x_fa (a := .pointer (some ⟨b_2, 0, none⟩)) (v := .pointer (some ⟨b_2, 3, none⟩)) rfl (fa_blk (o := 0) Fd30_3 Sz25)) ?_
   refine t_l rfl ?_
   refine t_sw 6 3 [v446z] v446z H rfl rfl Sz25 (Sl.cells (ownSl (H.get (k := 2) rfl))) rfl rfl (by simp only [List.all_cons, List.all_nil, Bool.true_and, Bool.and_true, Sl.oc (ownSl (H.get (k := 2) rfl))]; try rfl) ?_
   intro w449z H
   refine s_nil ⟨(H.pk [3, 4, 5, 7]), ?_⟩
   refine t_nil ?_
   refine W.region rfl ?_
   refine s_val (x_mv (v := I k) rfl) ?_
   obtain ⟨sd450z, hM⟩ := M.e_grd hM
   simp only [Bool.and_eq_true, decide_eq_true_eq] at sd450z
   refine s_val (x_ari (a := k) (b := 1) (r := k - 1) rfl rfl rfl (by omega)) ?_
   refine s_val (x_as (v := I (k - 1)) rfl) ?_
   refine s_nil ?_
   exact ⟨m405z, lt406z, q110, q210, k - 1, l11 ++ ([(⟨(r9 : Int), (r10 : Int), (r11 : Int)⟩ : Town)]), v446z, _, upds_of _ _ ⟨rfl, rfl, rfl, rfl, rfl, trivial⟩, M.e_inl hM hN408z, (H.pk [2, 1, 3, 4, 5, 6, 7])⟩
  skip
  obtain ⟨r452z, hx451z, hM⟩ := M.e_bind hM
  refine s_call cf10 [.pointer (some ⟨b_s, 0, none⟩), I r2] rfl (zab s_bytes s8 s9 r2 (hC_s_bytes.app _) hs_s_bytes hx451z _ ((H.pk [1, 0, 2, 3, 4, 5, 6]).gt 6)) ?_
  rintro vq w453z ⟨r9, q18, q28, hr454z, hvq, H2_⟩
  subst hr454z
  subst vq
  try dsimp only at hM
  replace H := H.pk [1, 0, 2, 3, 4, 5, 6] |>.bk H2_
  clear H2_
  have hvc_q455z := Sl.cells (ownSl (H.get (k := 1) rfl))
  have hvo_q455z := Sl.oc (ownSl (H.get (k := 1) rfl))
  refine s_nil ⟨(H.pk [2, 3, 4, 6]), ?_⟩
  refine t_l2 rfl rfl ?_ ?_
  ·skip
   refine s_val (x_ld (p := .pointer (some ⟨b_2, 3, none⟩)) (v := v_l11) rfl (ldb_sc Sc25 (H.blk (k := 5) rfl) rfl)) ?_
   refine s_nil ⟨(H.pk [2, 3, 4, 6]), ?_⟩
   refine t_l rfl ?_
   obtain ⟨r471z, hx470z, hM⟩ := M.e_bind hM
   refine s_call cf10 [.pointer (some ⟨b_s, 0, none⟩), I 8] rfl (zab s_bytes q18 q28 8 (hC_s_bytes.app _) hs_s_bytes hx470z _ (H.gt 6)) ?_
   rintro vq w472z ⟨r10, q19, q29, hr473z, hvq, H2_⟩
   subst hr473z
   subst vq
   try dsimp only at hM
   replace H := H.bk H2_
   clear H2_
   refine s_nil ⟨(H.pk [2, 3, 4, 6]), ?_⟩
   refine t_l rfl ?_
   obtain ⟨r475z, hx474z, hM⟩ := M.e_bind hM
   refine s_call cf27 [.pointer (some ⟨b_s, 0, none⟩), I 100, I 300] rfl (zaO s_bytes q19 q29 100 300 (hC_s_bytes.app _) hs_s_bytes hx474z _ (H.gt 6)) ?_
   rintro vq w476z ⟨r11, q110, q210, hr477z, hvq, H2_⟩
   subst hr477z
   subst vq
   try dsimp only at hM
   replace H := H.bk H2_
   clear H2_
   refine s_nil ⟨(H.pk [2, 3, 4, 6]), ?_⟩
   refine t_q rfl (fun w' H => x_bld (ps := [(0, I r9), (1, I r10), (2, I r11)]) (zs := [I 0, I 0, I 0]) (L' := [I r9, I r10, I r11]) rfl Try.underlying54 Al54 rfl (Bd54 Try.underlying54) (.cons (cs := [I r9]) rfl rfl rfl rfl rfl <| .cons (cs := [I r10]) rfl rfl rfl rfl rfl <| .cons (cs := [I r11]) rfl rfl rfl rfl rfl <| .nil)) ?_
   refine t_l rfl ?_
   refine t_bs (α := Town) T25 [.agg #[I r9, I r10, I r11]] [(⟨(r9 : Int), (r10 : Int), (r11 : Int)⟩ : Town)] H rfl (.cons rfl (Flat.rep_enc _ (⟨(r9 : Int), (r10 : Int), (r11 : Int)⟩ : Town)) <| .nil) rfl rfl rfl ?_
   intro v478z w479z H
   have hvc_q480z := Sl.cells (ownSl (H.get (k := 0) rfl))
   have hvo_q480z := Sl.oc (ownSl (H.get (k := 0) rfl))
   refine s_nil ⟨(H.pk [3, 4, 5, 7]), ?_⟩
   refine t_l rfl ?_
   obtain ⟨sd481z, hM⟩ := M.e_grd hM
   simp only [Bool.and_eq_true, decide_eq_true_eq] at sd481z
   refine t_app (α := Town) (k := 2) (l := l11) (l2 := [(⟨(r9 : Int), (r10 : Int), (r11 : Int)⟩ : Town)]) (l' := l11 ++ ([(⟨(r9 : Int), (r10 : Int), (r11 : Int)⟩ : Town)])) (vy := v478z) T25 rfl H rfl rfl rfl (ownSl (H.get (k := 0) rfl)) (ownLe _ (H.get (k := 0) rfl)) (rfl) (by first | omega | (simp only [List.length_nil] at *; omega)) ?_
   intro v482z w483z H
   replace H := H.nf
   have hvc_q484z := Sl.cells (ownSl (H.get (k := 2) rfl))
   have hvo_q484z := Sl.oc (ownSl (H.get (k := 2) rfl))
   refine s_nil ⟨(H.pk [3, 4, 5, 7]), ?_⟩
   refine t_q rfl (fun w' H => x_fa (a := .pointer (some ⟨b_2, 0, none⟩)) (v := .pointer (some ⟨b_2, 3, none⟩)) rfl (fa_blk (o := 0) Fd30_3 Sz25)) ?_
   refine t_l rfl ?_
   refine t_sw 6 3 [v482z] v482z H rfl rfl Sz25 (Sl.cells (ownSl (H.get (k := 2) rfl))) rfl rfl (by simp only [List.all_cons, List.all_nil, Bool.true_and, Bool.and_true, Sl.oc (ownSl (H.get (k := 2) rfl))]; try rfl) ?_
   intro w485z H
   refine s_nil ⟨(H.pk [3, 4, 5, 7]), ?_⟩
   refine t_nil ?_
   refine W.region rfl ?_
   refine s_val (x_mv (v := I k) rfl) ?_
   obtain ⟨sd486z, hM⟩ := M.e_grd hM
   simp only [Bool.and_eq_true, decide_eq_true_eq] at sd486z
   refine s_val (x_ari (a := k) (b := 1) (r := k - 1) rfl rfl rfl (by omega)) ?_
   refine s_val (x_as (v := I (k - 1)) rfl) ?_
   refine s_nil ?_
   exact ⟨m405z, lt406z, q110, q210, k - 1, l11 ++ ([(⟨(r9 : Int), (r10 : Int), (r11 : Int)⟩ : Town)]), v482z, _, upds_of _ _ ⟨rfl, rfl, rfl, rfl, rfl, trivial⟩, M.e_inl hM hN408z, (H.pk [2, 1, 3, 4, 5, 6, 7])⟩
  skip
  obtain ⟨r488z, hx487z, hM⟩ := M.e_bind hM
  refine s_call cf10 [.pointer (some ⟨b_s, 0, none⟩), I 8] rfl (zab s_bytes q18 q28 8 (hC_s_bytes.app _) hs_s_bytes hx487z _ (H.gt 6)) ?_
  rintro vq w489z ⟨r10, q19, q29, hr490z, hvq, H2_⟩
  subst hr490z
  subst vq
  try dsimp only at hM
  replace H := H.bk H2_
  clear H2_
  refine s_nil ⟨(H.pk [2, 3, 4, 6]), ?_⟩
  refine t_l2 rfl rfl ?_ ?_
  ·skip
   refine s_val (x_ld (p := .pointer (some ⟨b_2, 3, none⟩)) (v := v_l11) rfl (ldb_sc Sc25 (H.blk (k := 5) rfl) rfl)) ?_
   refine s_nil ⟨(H.pk [2, 3, 4, 6]), ?_⟩
   refine t_l rfl ?_
   obtain ⟨r502z, hx501z, hM⟩ := M.e_bind hM
   refine s_call cf27 [.pointer (some ⟨b_s, 0, none⟩), I 100, I 300] rfl (zaO s_bytes q19 q29 100 300 (hC_s_bytes.app _) hs_s_bytes hx501z _ (H.gt 6)) ?_
   rintro vq w503z ⟨r11, q110, q210, hr504z, hvq, H2_⟩
   subst hr504z
   subst vq
   try dsimp only at hM
   replace H := H.bk H2_
   clear H2_
   refine s_nil ⟨(H.pk [2, 3, 4, 6]), ?_⟩
   refine t_q rfl (fun w' H => x_bld (ps := [(0, I r9), (1, I r10), (2, I r11)]) (zs := [I 0, I 0, I 0]) (L' := [I r9, I r10, I r11]) rfl Try.underlying54 Al54 rfl (Bd54 Try.underlying54) (.cons (cs := [I r9]) rfl rfl rfl rfl rfl <| .cons (cs := [I r10]) rfl rfl rfl rfl rfl <| .cons (cs := [I r11]) rfl rfl rfl rfl rfl <| .nil)) ?_
   refine t_l rfl ?_
   refine t_bs (α := Town) T25 [.agg #[I r9, I r10, I r11]] [(⟨(r9 : Int), (r10 : Int), (r11 : Int)⟩ : Town)] H rfl (.cons rfl (Flat.rep_enc _ (⟨(r9 : Int), (r10 : Int), (r11 : Int)⟩ : Town)) <| .nil) rfl rfl rfl ?_
   intro v505z w506z H
   have hvc_q507z := Sl.cells (ownSl (H.get (k := 0) rfl))
   have hvo_q507z := Sl.oc (ownSl (H.get (k := 0) rfl))
   refine s_nil ⟨(H.pk [3, 4, 5, 7]), ?_⟩
   refine t_l rfl ?_
   obtain ⟨sd508z, hM⟩ := M.e_grd hM
   simp only [Bool.and_eq_true, decide_eq_true_eq] at sd508z
   refine t_app (α := Town) (k := 2) (l := l11) (l2 := [(⟨(r9 : Int), (r10 : Int), (r11 : Int)⟩ : Town)]) (l' := l11 ++ ([(⟨(r9 : Int), (r10 : Int), (r11 : Int)⟩ : Town)])) (vy := v505z) T25 rfl H rfl rfl rfl (ownSl (H.get (k := 0) rfl)) (ownLe _ (H.get (k := 0) rfl)) (rfl) (by first | omega | (simp only [List.length_nil] at *; omega)) ?_
   intro v509z w510z H
   replace H := H.nf
   have hvc_q511z := Sl.cells (ownSl (H.get (k := 2) rfl))
   have hvo_q511z := Sl.oc (ownSl (H.get (k := 2) rfl))
   refine s_nil ⟨(H.pk [3, 4, 5, 7]), ?_⟩
   refine t_q rfl (fun w' H => x_fa (a := .pointer (some ⟨b_2, 0, none⟩)) (v := .pointer (some ⟨b_2, 3, none⟩)) rfl (fa_blk (o := 0) Fd30_3 Sz25)) ?_
   refine t_l rfl ?_
   refine t_sw 6 3 [v509z] v509z H rfl rfl Sz25 (Sl.cells (ownSl (H.get (k := 2) rfl))) rfl rfl (by simp only [List.all_cons, List.all_nil, Bool.true_and, Bool.and_true, Sl.oc (ownSl (H.get (k := 2) rfl))]; try rfl) ?_
   intro w512z H
   refine s_nil ⟨(H.pk [3, 4, 5, 7]), ?_⟩
   refine t_nil ?_
   refine W.region rfl ?_
   refine s_val (x_mv (v := I k) rfl) ?_
   obtain ⟨sd513z, hM⟩ := M.e_grd hM
   simp only [Bool.and_eq_true, decide_eq_true_eq] at sd513z
   refine s_val (x_ari (a := k) (b := 1) (r := k - 1) rfl rfl rfl (by omega)) ?_
   refine s_val (x_as (v := I (k - 1)) rfl) ?_
   refine s_nil ?_
   exact ⟨m405z, lt406z, q110, q210, k - 1, l11 ++ ([(⟨(r9 : Int), (r10 : Int), (r11 : Int)⟩ : Town)]), v509z, _, upds_of _ _ ⟨rfl, rfl, rfl, rfl, rfl, trivial⟩, M.e_inl hM hN408z, (H.pk [2, 1, 3, 4, 5, 6, 7])⟩
  skip
  obtain ⟨r515z, hx514z, hM⟩ := M.e_bind hM
  refine s_call cf27 [.pointer (some ⟨b_s, 0, none⟩), I 100, I 300] rfl (zaO s_bytes q19 q29 100 300 (hC_s_bytes.app _) hs_s_bytes hx514z _ (H.gt 6)) ?_
  rintro vq w516z ⟨r11, q110, q210, hr517z, hvq, H2_⟩
  subst hr517z
  subst vq
  try dsimp only at hM
  replace H := H.bk H2_
  clear H2_
  refine s_nil ⟨(H.pk [2, 3, 4, 6]), ?_⟩
  refine t_q rfl (fun w' H => x_bld (ps := [(0, I r9), (1, I r10), (2, I r11)]) (zs := [I 0, I 0, I 0]) (L' := [I r9, I r10, I r11]) rfl Try.underlying54 Al54 rfl (Bd54 Try.underlying54) (.cons (cs := [I r9]) rfl rfl rfl rfl rfl <| .cons (cs := [I r10]) rfl rfl rfl rfl rfl <| .cons (cs := [I r11]) rfl rfl rfl rfl rfl <| .nil)) ?_
  obtain ⟨sd520z, hM⟩ := M.e_grd hM
  simp only [Bool.and_eq_true, decide_eq_true_eq] at sd520z
  refine t_l2 rfl rfl ?_ ?_
  ·skip
   refine s_val (x_ld (p := .pointer (some ⟨b_2, 3, none⟩)) (v := v_l11) rfl (ldb_sc Sc25 (H.blk (k := 5) rfl) rfl)) ?_
   refine s_nil ⟨(H.pk [2, 3, 4, 6]), ?_⟩
   refine t_l rfl ?_
   refine t_bs (α := Town) T25 [.agg #[I r9, I r10, I r11]] [(⟨(r9 : Int), (r10 : Int), (r11 : Int)⟩ : Town)] H rfl (.cons rfl (Flat.rep_enc _ (⟨(r9 : Int), (r10 : Int), (r11 : Int)⟩ : Town)) <| .nil) rfl rfl rfl ?_
   intro v524z w525z H
   have hvc_q526z := Sl.cells (ownSl (H.get (k := 0) rfl))
   have hvo_q526z := Sl.oc (ownSl (H.get (k := 0) rfl))
   refine s_nil ⟨(H.pk [3, 4, 5, 7]), ?_⟩
   refine t_l rfl ?_
   refine t_app (α := Town) (k := 2) (l := l11) (l2 := [(⟨(r9 : Int), (r10 : Int), (r11 : Int)⟩ : Town)]) (l' := l11 ++ ([(⟨(r9 : Int), (r10 : Int), (r11 : Int)⟩ : Town)])) (vy := v524z) T25 rfl H rfl rfl rfl (ownSl (H.get (k := 0) rfl)) (ownLe _ (H.get (k := 0) rfl)) (rfl) (by first | omega | (simp only [List.length_nil] at *; omega)) ?_
   intro v527z w528z H
   replace H := H.nf
   have hvc_q529z := Sl.cells (ownSl (H.get (k := 2) rfl))
   have hvo_q529z := Sl.oc (ownSl (H.get (k := 2) rfl))
   refine s_nil ⟨(H.pk [3, 4, 5, 7]), ?_⟩
   refine t_q rfl (fun w' H => x_fa (a := .pointer (some ⟨b_2, 0, none⟩)) (v := .pointer (some ⟨b_2, 3, none⟩)) rfl (fa_blk (o := 0) Fd30_3 Sz25)) ?_
   refine t_l rfl ?_
   refine t_sw 6 3 [v527z] v527z H rfl rfl Sz25 (Sl.cells (ownSl (H.get (k := 2) rfl))) rfl rfl (by simp only [List.all_cons, List.all_nil, Bool.true_and, Bool.and_true, Sl.oc (ownSl (H.get (k := 2) rfl))]; try rfl) ?_
   intro w530z H
   refine s_nil ⟨(H.pk [3, 4, 5, 7]), ?_⟩
   refine t_nil ?_
   refine W.region rfl ?_
   refine s_val (x_mv (v := I k) rfl) ?_
   obtain ⟨sd531z, hM⟩ := M.e_grd hM
   simp only [Bool.and_eq_true, decide_eq_true_eq] at sd531z
   refine s_val (x_ari (a := k) (b := 1) (r := k - 1) rfl rfl rfl (by omega)) ?_
   refine s_val (x_as (v := I (k - 1)) rfl) ?_
   refine s_nil ?_
   exact ⟨m405z, lt406z, q110, q210, k - 1, l11 ++ ([(⟨(r9 : Int), (r10 : Int), (r11 : Int)⟩ : Town)]), v527z, _, upds_of _ _ ⟨rfl, rfl, rfl, rfl, rfl, trivial⟩, M.e_inl hM hN408z, (H.pk [2, 1, 3, 4, 5, 6, 7])⟩
  skip
  refine t_bs (α := Town) T25 [.agg #[I r9, I r10, I r11]] [(⟨(r9 : Int), (r10 : Int), (r11 : Int)⟩ : Town)] H rfl (.cons rfl (Flat.rep_enc _ (⟨(r9 : Int), (r10 : Int), (r11 : Int)⟩ : Town)) <| .nil) rfl rfl rfl ?_
  intro v532z w533z H
  have hvc_q534z := Sl.cells (ownSl (H.get (k := 0) rfl))
  have hvo_q534z := Sl.oc (ownSl (H.get (k := 0) rfl))
  refine s_nil ⟨(H.pk [3, 4, 5, 7]), ?_⟩
  refine t_l rfl ?_
  refine s_val (x_ld (p := .pointer (some ⟨b_2, 3, none⟩)) (v := v_l11) rfl (ldb_sc Sc25 (H.blk (k := 6) rfl) rfl)) ?_
  refine s_nil ⟨(H.pk [3, 4, 5, 7]), ?_⟩
  refine t_l rfl ?_
  refine t_app (α := Town) (k := 2) (l := l11) (l2 := [(⟨(r9 : Int), (r10 : Int), (r11 : Int)⟩ : Town)]) (l' := l11 ++ ([(⟨(r9 : Int), (r10 : Int), (r11 : Int)⟩ : Town)])) (vy := v532z) T25 rfl H rfl rfl rfl (ownSl (H.get (k := 0) rfl)) (ownLe _ (H.get (k := 0) rfl)) (rfl) (by first | omega | (simp only [List.length_nil] at *; omega)) ?_
  intro v535z w536z H
  replace H := H.nf
  have hvc_q537z := Sl.cells (ownSl (H.get (k := 2) rfl))
  have hvo_q537z := Sl.oc (ownSl (H.get (k := 2) rfl))
  refine s_nil ⟨(H.pk [3, 4, 5, 7]), ?_⟩
  refine t_q rfl (fun w' H => x_fa (a := .pointer (some ⟨b_2, 0, none⟩)) (v := .pointer (some ⟨b_2, 3, none⟩)) rfl (fa_blk (o := 0) Fd30_3 Sz25)) ?_
  refine t_l rfl ?_
  refine t_sw 6 3 [v535z] v535z H rfl rfl Sz25 (Sl.cells (ownSl (H.get (k := 2) rfl))) rfl rfl (by simp only [List.all_cons, List.all_nil, Bool.true_and, Bool.and_true, Sl.oc (ownSl (H.get (k := 2) rfl))]; try rfl) ?_
  intro w538z H
  refine s_nil ⟨(H.pk [3, 4, 5, 7]), ?_⟩
  refine t_nil ?_
  refine W.region rfl ?_
  refine s_val (x_mv (v := I k) rfl) ?_
  obtain ⟨sd539z, hM⟩ := M.e_grd hM
  simp only [Bool.and_eq_true, decide_eq_true_eq] at sd539z
  refine s_val (x_ari (a := k) (b := 1) (r := k - 1) rfl rfl rfl (by omega)) ?_
  refine s_val (x_as (v := I (k - 1)) rfl) ?_
  refine s_nil ?_
  exact ⟨m405z, lt406z, q110, q210, k - 1, l11 ++ ([(⟨(r9 : Int), (r10 : Int), (r11 : Int)⟩ : Town)]), v535z, _, upds_of _ _ ⟨rfl, rfl, rfl, rfl, rfl, trivial⟩, M.e_inl hM hN408z, (H.pk [2, 1, 3, 4, 5, 6, 7])⟩
 replace hM := M.e_f hM c409z
 simp only [decide_eq_true_eq, decide_eq_false_iff_not, beq_iff_eq, bne_iff_ne, beq_eq_false_iff_ne, bne_eq_false_iff_eq, ne_eq, Decidable.not_not] at c409z
 refine W.exit ?_
 have hX540z := M.e_inr hM hN408z
 subst hX540z
 replace hM := hk401z
 try dsimp only at hM
 refine W.seq ?_
 refine W.region rfl ?_
 refine s_val (x_mv (v := .pointer (some ⟨b_s, 0, none⟩)) rfl) ?_
 obtain ⟨r542z, hx541z, hM⟩ := M.e_bind hM
 refine s_call cf10 [.pointer (some ⟨b_s, 0, none⟩), I 3] rfl (zab s_bytes s8 s9 3 (hC_s_bytes.app _) hs_s_bytes hx541z _ ((H.pk [1, 0, 2, 3, 4, 5, 6]).gt 6)) ?_
 rintro vq w543z ⟨r12, q111, q211, hr544z, hvq, H2_⟩
 subst hr544z
 subst vq
 try dsimp only at hM
 replace H := H.pk [1, 0, 2, 3, 4, 5, 6] |>.bk H2_
 clear H2_
 refine s_val (x_fa (a := .pointer (some ⟨b_2, 0, none⟩)) (v := .pointer (some ⟨b_2, 4, none⟩)) rfl (fa_blk (o := 0) Fd30_4 Sz27)) ?_
 refine s_val (x_fa (a := .pointer (some ⟨b_2, 4, none⟩)) (v := .pointer (some ⟨b_2, 4, none⟩)) rfl (fa_blk (o := 4) Fd27_0 Sz3)) ?_
 refine t_sw 5 4 [I r12] (I r12) H rfl rfl Sz3 rfl rfl rfl rfl ?_
 intro w545z H
 refine s_nil ?_
 refine W.seqJ (fun σ W => ∃ (r13 : Int) (q112 : Int) (q212 : Int) (ρ : Env), σ = upds ρ [(0, .pointer (some ⟨b_s, 0, none⟩)), (4, .pointer (some ⟨b_1, 0, none⟩)), (5, .pointer (some ⟨b_2, 0, none⟩))] /\ (zbg s_bytes l2 l l10 l11 r12 r13 q112 q212).Ends r /\ St w W [cBlk b_s [v_s_bytes, I q112, I q212] 71, cOwn (α := Town) 54 v_l11 l11, cOwn (α := Int) 3 v_l10 l10, cOwn (α := Span) 27 v_l2 l2, cOwn (α := Int) 3 v_l l, cBlk b_2 [v_l, v_l2, v_l10, v_l11, I r12, I (r12 + r13), .slice none 0 0] 30, cBlk b_1 [.slice none 0 0, .slice none 0 0, .slice none 0 0, .slice none 0 0, I 0, I 0, .slice none 0 0] 30] R) ?_ ?_
 ·skip
  refine W.drawT (fun W => St w W [cOwn (α := Town) 54 v_l11 l11, cOwn (α := Int) 3 v_l10 l10, cOwn (α := Span) 27 v_l2 l2, cOwn (α := Int) 3 v_l l, cBlk b_1 [.slice none 0 0, .slice none 0 0, .slice none 0 0, .slice none 0 0, I 0, I 0, .slice none 0 0] 30] R) (.q 0 (.q 1 (.q 3 (.l2 2 (.l 4 (.q 5 (.q 6 (.q 7 (.l 8 .nil))))) 4 (.l 2 (.q 5 (.q 6 (.q 7 (.l 8 .nil))))))))) mixed (by decide +kernel) rfl ?_
  intro w546z hx_
  replace H := H.ext hx_
  clear hx_
  refine ⟨(H.pk [1, 2, 3, 4, 6]), ?_⟩
  refine t_q rfl (fun w' H => x_fa (a := .pointer (some ⟨b_2, 0, none⟩)) (v := .pointer (some ⟨b_2, 4, none⟩)) rfl (fa_blk (o := 0) Fd30_4 Sz27)) ?_
  refine t_q rfl (fun w' H => x_fa (a := .pointer (some ⟨b_2, 4, none⟩)) (v := .pointer (some ⟨b_2, 4, none⟩)) rfl (fa_blk (o := 4) Fd27_0 Sz3)) ?_
  refine t_q rfl (fun w' H => x_mv (v := .pointer (some ⟨b_s, 0, none⟩)) rfl) ?_
  refine t_l2 rfl rfl ?_ ?_
  ·skip
   refine s_val (x_ld (p := .pointer (some ⟨b_2, 4, none⟩)) (v := I r12) rfl (ldb_sc Sc3 (H.blk (k := 5) rfl) rfl)) ?_
   refine s_nil ⟨(H.pk [1, 2, 3, 4, 6]), ?_⟩
   refine t_l rfl ?_
   obtain ⟨r554z, hx553z, hM⟩ := M.e_bind hM
   refine s_call cf10 [.pointer (some ⟨b_s, 0, none⟩), I 3] rfl (zab s_bytes q111 q211 3 (hC_s_bytes.app _) hs_s_bytes hx553z _ (H.gt 6)) ?_
   rintro vq w555z ⟨r13, q112, q212, hr556z, hvq, H2_⟩
   subst hr556z
   subst vq
   try dsimp only at hM
   replace H := H.bk H2_
   clear H2_
   refine s_nil ⟨(H.pk [1, 2, 3, 4, 6]), ?_⟩
   obtain ⟨sd557z, hM⟩ := M.e_grd hM
   simp only [Bool.and_eq_true, decide_eq_true_eq] at sd557z
   refine t_q rfl (fun w' H => x_ari (a := r12) (b := r13) (r := r12 + r13) rfl rfl rfl (by omega)) ?_
   refine t_q rfl (fun w' H => x_fa (a := .pointer (some ⟨b_2, 0, none⟩)) (v := .pointer (some ⟨b_2, 4, none⟩)) rfl (fa_blk (o := 0) Fd30_4 Sz27)) ?_
   refine t_q rfl (fun w' H => x_fa (a := .pointer (some ⟨b_2, 4, none⟩)) (v := .pointer (some ⟨b_2, 5, none⟩)) rfl (fa_blk (o := 4) Fd27_1 Sz3)) ?_
   refine t_l rfl ?_
   refine t_sw 5 5 [I (r12 + r13)] (I (r12 + r13)) H rfl rfl Sz3 rfl rfl rfl rfl ?_
   intro w558z H
   refine s_nil ⟨(H.pk [1, 2, 3, 4, 6]), ?_⟩
   refine t_nil ?_
   exact ⟨r13, q112, q212, _, upds_of _ _ ⟨rfl, rfl, rfl, trivial⟩, hM, H⟩
  skip
  obtain ⟨r560z, hx559z, hM⟩ := M.e_bind hM
  refine s_call cf10 [.pointer (some ⟨b_s, 0, none⟩), I 3] rfl (zab s_bytes q111 q211 3 (hC_s_bytes.app _) hs_s_bytes hx559z _ (H.gt 6)) ?_
  rintro vq w561z ⟨r13, q112, q212, hr562z, hvq, H2_⟩
  subst hr562z
  subst vq
  try dsimp only at hM
  replace H := H.bk H2_
  clear H2_
  refine s_nil ⟨(H.pk [1, 2, 3, 4, 6]), ?_⟩
  refine t_l rfl ?_
  refine s_val (x_ld (p := .pointer (some ⟨b_2, 4, none⟩)) (v := I r12) rfl (ldb_sc Sc3 (H.blk (k := 5) rfl) rfl)) ?_
  refine s_nil ⟨(H.pk [1, 2, 3, 4, 6]), ?_⟩
  obtain ⟨sd563z, hM⟩ := M.e_grd hM
  simp only [Bool.and_eq_true, decide_eq_true_eq] at sd563z
  refine t_q rfl (fun w' H => x_ari (a := r12) (b := r13) (r := r12 + r13) rfl rfl rfl (by omega)) ?_
  refine t_q rfl (fun w' H => x_fa (a := .pointer (some ⟨b_2, 0, none⟩)) (v := .pointer (some ⟨b_2, 4, none⟩)) rfl (fa_blk (o := 0) Fd30_4 Sz27)) ?_
  refine t_q rfl (fun w' H => x_fa (a := .pointer (some ⟨b_2, 4, none⟩)) (v := .pointer (some ⟨b_2, 5, none⟩)) rfl (fa_blk (o := 4) Fd27_1 Sz3)) ?_
  refine t_l rfl ?_
  refine t_sw 5 5 [I (r12 + r13)] (I (r12 + r13)) H rfl rfl Sz3 rfl rfl rfl rfl ?_
  intro w564z H
  refine s_nil ⟨(H.pk [1, 2, 3, 4, 6]), ?_⟩
  refine t_nil ?_
  exact ⟨r13, q112, q212, _, upds_of _ _ ⟨rfl, rfl, rfl, trivial⟩, hM, H⟩
 rintro _ w565z ⟨r13, q112, q212, ρ, rfl, hM, H⟩
 unfold zbg at hM
 refine W.seq ?_
 refine W.seq ?_
 refine W.region rfl ?_
 refine s_val (x_mv (v := .pointer (some ⟨b_s, 0, none⟩)) rfl) ?_
 obtain ⟨r567z, hx566z, hM⟩ := M.e_bind hM
 refine s_call cf10 [.pointer (some ⟨b_s, 0, none⟩), I 10] rfl (zab s_bytes q112 q212 10 (hC_s_bytes.app _) hs_s_bytes hx566z _ (H.gt 6)) ?_
 rintro vq w568z ⟨r14, q113, q213, hr569z, hvq, H2_⟩
 subst hr569z
 subst vq
 try dsimp only at hM
 replace H := H.bk H2_
 clear H2_
 refine s_val (x_as (v := I r14) rfl) ?_
 refine s_nil ?_
 refine W.block ?_
 obtain ⟨Bs_27, H⟩ := H.emptyE
 replace H := H.nilOwn (α := Raw 1) 67
 have hr570z : RepR (α := Flood) (n := 1) Bs_27.cells [] [] := .nil
 obtain ⟨ex571z, hi572z, hk573z⟩ := M.e_bind hM
 obtain ⟨m0_, hi572z⟩ := M.e_iter hi572z
 refine W.loop (fun m σ W => ∃ (s17 : Int) (s18 : Int) (k2 : Int) (l17 : List Flood) (v_l17 : Value) (rw_l17 : List (Raw 1)) (B_l17 : Base) (ρ : Env), σ = upds ρ [(0, .pointer (some ⟨b_s, 0, none⟩)), (4, .pointer (some ⟨b_1, 0, none⟩)), (5, .pointer (some ⟨b_2, 0, none⟩)), (11, I k2)] /\ M.iterN (zbe s_bytes l l10) m (s17, s18, k2, l17) = some ex571z /\ St w W [cOwn (α := Raw 1) 67 v_l17 rw_l17, cRo B_l17, cBlk b_s [v_s_bytes, I s17, I s18] 71, cOwn (α := Town) 54 v_l11 l11, cOwn (α := Int) 3 v_l10 l10, cOwn (α := Span) 27 v_l2 l2, cOwn (α := Int) 3 v_l l, cBlk b_2 [v_l, v_l2, v_l10, v_l11, I r12, I (r12 + r13), v_l17] 30, cBlk b_1 [.slice none 0 0, .slice none 0 0, .slice none 0 0, .slice none 0 0, I 0, I 0, .slice none 0 0] 30] R /\ RepR (α := Flood) B_l17.cells rw_l17 l17) ?_ ?_
 ·exact ⟨_, q113, q213, r14, [], (.slice none 0 0), [], Bs_27, _, upds_of _ _ ⟨rfl, rfl, rfl, rfl, trivial⟩, hi572z, H, hr570z⟩
 rintro m576z σ w574z ⟨s17, s18, k2, l17, v_l17, rw_l17, B_l17, ρ, rfl, hI575z, H, hr_l17⟩
 obtain ⟨m577z, lt578z, x579z, hM, hN580z⟩ := M.e_iterN hI575z
 simp only [zbe] at hM
 clear hI575z
 refine W.seq ?_
 refine W.seq ?_
 refine W.region rfl ?_
 refine s_val (x_mv (v := I k2) rfl) ?_
 refine s_val (x_cmp (kd := .i64) (a := k2) (b := 0) (r := decide (0 < k2)) rfl rfl rfl) ?_
 refine s_nil ?_
 refine W.cond (decide (0 < k2)) rfl (fun c581z => ?_) (fun c581z => ?_)
 ·replace hM := M.e_t hM c581z
  simp only [decide_eq_true_eq, decide_eq_false_iff_not, beq_iff_eq, bne_iff_ne, beq_eq_false_iff_ne, bne_eq_false_iff_eq, ne_eq, Decidable.not_not] at c581z
  refine W.skip ?_
  refine W.seq ?_
  refine W.block ?_
  refine W.seqJ (fun σ W => ∃ (b_16 : Nat) (r15 : Int) (q114 : Int) (q214 : Int) (ρ : Env), σ = upds ρ [(0, .pointer (some ⟨b_s, 0, none⟩)), (4, .pointer (some ⟨b_1, 0, none⟩)), (5, .pointer (some ⟨b_2, 0, none⟩)), (11, I k2), (12, .pointer (some ⟨b_16, 0, none⟩))] /\ (zbi s_bytes l l10 k2 l17 r15 q114 q214).Ends x579z /\ St w W [cBlk b_16 [I (l10.getD (Int.toNat r15) 0), .slice none 0 0] 67, cBlk b_s [v_s_bytes, I q114, I q214] 71, cOwn (α := Raw 1) 67 v_l17 rw_l17, cRo B_l17, cOwn (α := Town) 54 v_l11 l11, cOwn (α := Int) 3 v_l10 l10, cOwn (α := Span) 27 v_l2 l2, cOwn (α := Int) 3 v_l l, cBlk b_2 [v_l, v_l2, v_l10, v_l11, I r12, I (r12 + r13), v_l17] 30, cBlk b_1 [.slice none 0 0, .slice none 0 0, .slice none 0 0, .slice none 0 0, I 0, I 0, .slice none 0 0] 30] R) ?_ ?_
  ·skip
   refine W.drawT (fun W => St w W [cOwn (α := Raw 1) 67 v_l17 rw_l17, cRo B_l17, cOwn (α := Town) 54 v_l11 l11, cOwn (α := Int) 3 v_l10 l10, cOwn (α := Span) 27 v_l2 l2, cOwn (α := Int) 3 v_l l, cBlk b_2 [v_l, v_l2, v_l10, v_l11, I r12, I (r12 + r13), v_l17] 30, cBlk b_1 [.slice none 0 0, .slice none 0 0, .slice none 0 0, .slice none 0 0, I 0, I 0, .slice none 0 0] 30] R) (.q 0 (.q 1 (.q 2 (.q 3 (.q 4 (.q 5 (.l2 6 (.q 7 (.q 8 (.q 9 (.l 10 (.l 11 .nil))))) 10 (.l 6 (.q 7 (.q 8 (.q 9 (.l 11 .nil)))))))))))) mixed (by decide +kernel) rfl ?_
   intro w582z hx_
   replace H := H.ext hx_
   clear hx_
   refine ⟨(H.pk [0, 1, 3, 4, 5, 6, 7, 8]), ?_⟩
   refine t_q rfl (fun w' H => x_fa (a := .pointer (some ⟨b_2, 0, none⟩)) (v := .pointer (some ⟨b_2, 2, none⟩)) rfl (fa_blk (o := 0) Fd30_2 Sz23)) ?_
   refine t_q rfl (fun w' H => x_ld (p := .pointer (some ⟨b_2, 2, none⟩)) (v := v_l10) rfl (ldb_sc Sc23 (H.blk (k := 6) rfl) rfl)) ?_
   refine t_q rfl (fun w' H => x_mv (v := .pointer (some ⟨b_s, 0, none⟩)) rfl) ?_
   refine t_q rfl (fun w' H => x_fa (a := .pointer (some ⟨b_2, 0, none⟩)) (v := .pointer (some ⟨b_2, 2, none⟩)) rfl (fa_blk (o := 0) Fd30_2 Sz23)) ?_
   refine t_q rfl (fun w' H => x_ld (p := .pointer (some ⟨b_2, 2, none⟩)) (v := v_l10) rfl (ldb_sc Sc23 (H.blk (k := 6) rfl) rfl)) ?_
   have hl583z := ((ownSl (H.get (k := 3) rfl))).len_le
   refine t_q rfl (fun w' H => x_lenS T23.und rfl (ownSl (H.get (k := 3) rfl))) ?_
   refine t_l2 rfl rfl ?_ ?_
   ·skip
    obtain ⟨r597z, hx596z, hM⟩ := M.e_bind hM
    refine s_call cf10 [.pointer (some ⟨b_s, 0, none⟩), I (l10.length : Int)] rfl (zab s_bytes s17 s18 (l10.length : Int) (hC_s_bytes.app _) hs_s_bytes hx596z _ ((H.pk [2, 0, 1, 3, 4, 5, 6, 7, 8]).gt 8)) ?_
    rintro vq w598z ⟨r15, q114, q214, hr599z, hvq, H2_⟩
    subst hr599z
    subst vq
    try dsimp only at hM
    replace H := H.pk [2, 0, 1, 3, 4, 5, 6, 7, 8] |>.bk H2_
    clear H2_
    refine s_nil ⟨(H.pk [1, 2, 3, 4, 5, 6, 7, 8]), ?_⟩
    obtain ⟨sd600z, hM⟩ := M.e_grd hM
    simp only [Bool.and_eq_true, decide_eq_true_eq] at sd600z
    refine t_q rfl (fun w' H => x_ix (a := v_l10) (b := I r15) (v := vat v_l10 1 (Int.toNat r15)) rfl rfl (Sl.ix (α := Int) T23.und T23.size (ownSl (H.get (k := 3) rfl)) (by omega) (by omega))) ?_
    refine t_q rfl (fun w' H => x_ld (p := vat v_l10 1 (Int.toNat r15)) (v := I (l10.getD (Int.toNat r15) 0)) rfl (ld_sc Sc3 (At.mono (Int_at (ownSl (H.get (k := 3) rfl)) (i := r15) (by omega) (by omega)) (ownLe _ (H.get (k := 3) rfl))))) ?_
    refine t_q rfl (fun w' H => x_bld (ps := [(0, I (l10.getD (Int.toNat r15) 0))]) (zs := [I 0, .slice none 0 0]) (L' := [I (l10.getD (Int.toNat r15) 0), .slice none 0 0]) rfl Try.underlying67 Al67 rfl (Bd67 Try.underlying67) (.cons (cs := [I (l10.getD (Int.toNat r15) 0)]) rfl rfl rfl rfl rfl <| .nil)) ?_
    refine t_l rfl ?_
    refine t_alloc (cs := [I 0, .slice none 0 0]) H Al67 rfl ?_
    intro b_16 w601z H
    refine s_nil ⟨(H.pk [2, 3, 4, 5, 6, 7, 8, 9]), ?_⟩
    refine t_l rfl ?_
    refine t_sw 0 0 [I (l10.getD (Int.toNat r15) 0), .slice none 0 0] (.agg #[I (l10.getD (Int.toNat r15) 0), .slice none 0 0]) H rfl rfl Sz67 rfl rfl rfl rfl ?_
    intro w602z H
    refine s_nil ⟨(H.pk [2, 3, 4, 5, 6, 7, 8, 9]), ?_⟩
    refine t_nil ?_
    exact ⟨b_16, r15, q114, q214, _, upds_of _ _ ⟨rfl, rfl, rfl, rfl, rfl, trivial⟩, hM, H⟩
   skip
   refine t_alloc (cs := [I 0, .slice none 0 0]) H Al67 rfl ?_
   intro b_16 w603z H
   refine s_nil ⟨(H.pk [1, 2, 4, 5, 6, 7, 8, 9]), ?_⟩
   refine t_l rfl ?_
   obtain ⟨r605z, hx604z, hM⟩ := M.e_bind hM
   refine s_call cf10 [.pointer (some ⟨b_s, 0, none⟩), I (l10.length : Int)] rfl (zab s_bytes s17 s18 (l10.length : Int) (hC_s_bytes.app _) hs_s_bytes hx604z _ ((H.pk [3, 0, 1, 2, 4, 5, 6, 7, 8, 9]).gt 9)) ?_
   rintro vq w606z ⟨r15, q114, q214, hr607z, hvq, H2_⟩
   subst hr607z
   subst vq
   try dsimp only at hM
   replace H := H.pk [3, 0, 1, 2, 4, 5, 6, 7, 8, 9] |>.bk H2_
   clear H2_
   refine s_nil ⟨(H.pk [2, 3, 4, 5, 6, 7, 8, 9]), ?_⟩
   obtain ⟨sd608z, hM⟩ := M.e_grd hM
   simp only [Bool.and_eq_true, decide_eq_true_eq] at sd608z
   refine t_q rfl (fun w' H => x_ix (a := v_l10) (b := I r15) (v := vat v_l10 1 (Int.toNat r15)) rfl rfl (Sl.ix (α := Int) T23.und T23.size (ownSl (H.get (k := 3) rfl)) (by omega) (by omega))) ?_
   refine t_q rfl (fun w' H => x_ld (p := vat v_l10 1 (Int.toNat r15)) (v := I (l10.getD (Int.toNat r15) 0)) rfl (ld_sc Sc3 (At.mono (Int_at (ownSl (H.get (k := 3) rfl)) (i := r15) (by omega) (by omega)) (ownLe _ (H.get (k := 3) rfl))))) ?_
   refine t_q rfl (fun w' H => x_bld (ps := [(0, I (l10.getD (Int.toNat r15) 0))]) (zs := [I 0, .slice none 0 0]) (L' := [I (l10.getD (Int.toNat r15) 0), .slice none 0 0]) rfl Try.underlying67 Al67 rfl (Bd67 Try.underlying67) (.cons (cs := [I (l10.getD (Int.toNat r15) 0)]) rfl rfl rfl rfl rfl <| .nil)) ?_
   refine t_l rfl ?_
   refine t_sw 1 0 [I (l10.getD (Int.toNat r15) 0), .slice none 0 0] (.agg #[I (l10.getD (Int.toNat r15) 0), .slice none 0 0]) H rfl rfl Sz67 rfl rfl rfl rfl ?_
   intro w609z H
   refine s_nil ⟨(H.pk [2, 3, 4, 5, 6, 7, 8, 9]), ?_⟩
   refine t_nil ?_
   exact ⟨b_16, r15, q114, q214, _, upds_of _ _ ⟨rfl, rfl, rfl, rfl, rfl, trivial⟩, hM, (H.pk [1, 0, 2, 3, 4, 5, 6, 7, 8, 9])⟩
  rintro _ w610z ⟨b_16, r15, q114, q214, ρ, rfl, hM, H⟩
  unfold zbi at hM
  refine W.seq ?_
  refine W.seq ?_
  refine W.region rfl ?_
  refine s_val (x_fa (a := .pointer (some ⟨b_16, 0, none⟩)) (v := .pointer (some ⟨b_16, 0, none⟩)) rfl (fa_blk (o := 0) Fd67_0 Sz3)) ?_
  refine s_val (x_ld (p := .pointer (some ⟨b_16, 0, none⟩)) (v := I (l10.getD (Int.toNat r15) 0)) rfl (ldb_sc Sc3 (H.blk (k := 0) rfl) rfl)) ?_
  refine s_val (x_as (v := I (l10.getD (Int.toNat r15) 0)) rfl) ?_
  refine s_nil ?_
  refine W.block ?_
  replace H := H.nilOwn (α := Int) 3
  obtain ⟨ex611z, hi612z, hk613z⟩ := M.e_bind hM
  obtain ⟨m0_, hi612z⟩ := M.e_iter hi612z
  refine W.loop (fun m σ W => ∃ (s12 : Int) (s13 : Int) (s14 : Int) (l14 : List Int) (v_l14 : Value) (ρ : Env), σ = upds ρ [(0, .pointer (some ⟨b_s, 0, none⟩)), (4, .pointer (some ⟨b_1, 0, none⟩)), (5, .pointer (some ⟨b_2, 0, none⟩)), (11, I k2), (12, .pointer (some ⟨b_16, 0, none⟩)), (13, I s14)] /\ M.iterN (zaA s_bytes l) m (s12, s13, s14, l14) = some ex611z /\ St w W [cOwn (α := Int) 3 v_l14 l14, cBlk b_16 [I (l10.getD (Int.toNat r15) 0), v_l14] 67, cBlk b_s [v_s_bytes, I s12, I s13] 71, cOwn (α := Raw 1) 67 v_l17 rw_l17, cRo B_l17, cOwn (α := Town) 54 v_l11 l11, cOwn (α := Int) 3 v_l10 l10, cOwn (α := Span) 27 v_l2 l2, cOwn (α := Int) 3 v_l l, cBlk b_2 [v_l, v_l2, v_l10, v_l11, I r12, I (r12 + r13), v_l17] 30, cBlk b_1 [.slice none 0 0, .slice none 0 0, .slice none 0 0, .slice none 0 0, I 0, I 0, .slice none 0 0] 30] R) ?_ ?_
  ·exact ⟨_, q114, q214, l10.getD (Int.toNat r15) 0, [], (.slice none 0 0), _, upds_of _ _ ⟨rfl, rfl, rfl, rfl, rfl, rfl, trivial⟩, hi612z, H⟩
  rintro m616z σ w614z ⟨s12, s13, s14, l14, v_l14, ρ, rfl, hI615z, H⟩
  obtain ⟨m617z, lt618z, x619z, hM, hN620z⟩ := M.e_iterN hI615z
  simp only [zaA] at hM
  clear hI615z
  refine W.seq ?_
  refine W.seq ?_
  refine W.region rfl ?_
  refine s_val (x_mv (v := I s14) rfl) ?_
  refine s_val (x_cmp (kd := .i64) (a := s14) (b := -1) (r := s14 != (-1)) rfl rfl rfl) ?_
  refine s_nil ?_
  refine W.cond (s14 != (-1)) rfl (fun c621z => ?_) (fun c621z => ?_)
  ·replace hM := M.e_t hM c621z
   simp only [decide_eq_true_eq, decide_eq_false_iff_not, beq_iff_eq, bne_iff_ne, beq_eq_false_iff_ne, bne_eq_false_iff_eq, ne_eq, Decidable.not_not] at c621z
   refine W.skip ?_
   refine W.seq ?_
   refine W.block ?_
   refine W.drawT (fun W => St w W [cOwn (α := Raw 1) 67 v_l17 rw_l17, cRo B_l17, cOwn (α := Town) 54 v_l11 l11, cOwn (α := Int) 3 v_l10 l10, cOwn (α := Span) 27 v_l2 l2, cOwn (α := Int) 3 v_l l, cBlk b_2 [v_l, v_l2, v_l10, v_l11, I r12, I (r12 + r13), v_l17] 30, cBlk b_1 [.slice none 0 0, .slice none 0 0, .slice none 0 0, .slice none 0 0, I 0, I 0, .slice none 0 0] 30] R) (.q 0 (.q 2 (.l2 1 (.l 3 (.l 4 (.l 5 (.q 6 (.l 7 .nil))))) 3 (.l2 1 (.l 4 (.l 5 (.q 6 (.l 7 .nil)))) 4 (.l 1 (.l 5 (.q 6 (.l 7 .nil)))))))) mixed (by decide +kernel) rfl ?_
   intro w622z hx_
   replace H := H.ext hx_
   clear hx_
   refine ⟨(H.pk [3, 4, 5, 6, 7, 8, 9, 10]), ?_⟩
   refine t_q rfl (fun w' H => x_fa (a := .pointer (some ⟨b_16, 0, none⟩)) (v := .pointer (some ⟨b_16, 1, none⟩)) rfl (fa_blk (o := 0) Fd67_1 Sz23)) ?_
   refine t_q rfl (fun w' H => x_mv (v := .pointer (some ⟨b_s, 0, none⟩)) rfl) ?_
   refine t_l2 rfl rfl ?_ ?_
   ·skip
    refine s_val (x_ld (p := .pointer (some ⟨b_16, 1, none⟩)) (v := v_l14) rfl (ldb_sc Sc23 (H.blk (k := 1) rfl) rfl)) ?_
    have hvc_q633z := Sl.cells (ownSl (H.get (k := 0) rfl))
    have hvo_q633z := Sl.oc (ownSl (H.get (k := 0) rfl))
    refine s_nil ⟨(H.pk [3, 4, 5, 6, 7, 8, 9, 10]), ?_⟩
    refine t_l rfl ?_
    obtain ⟨r635z, hx634z, hM⟩ := M.e_bind hM
    refine s_call cf10 [.pointer (some ⟨b_s, 0, none⟩), I 400] rfl (zab s_bytes s12 s13 400 (hC_s_bytes.app _) hs_s_bytes hx634z _ ((H.pk [2, 0, 1, 3, 4, 5, 6, 7, 8, 9, 10]).gt 10)) ?_
    rintro vq w636z ⟨r16, q115, q215, hr637z, hvq, H2_⟩
    subst hr637z
    subst vq
    try dsimp only at hM
    replace H := H.pk [2, 0, 1, 3, 4, 5, 6, 7, 8, 9, 10] |>.bk H2_
    clear H2_
    refine s_nil ⟨(H.pk [3, 4, 5, 6, 7, 8, 9, 10]), ?_⟩
    refine t_l rfl ?_
    refine t_bs (α := Int) T23 [I r16] [(r16 : Int)] H rfl (.cons rfl (Flat.rep_enc _ (r16 : Int)) <| .nil) rfl rfl rfl ?_
    intro v638z w639z H
    have hvc_q640z := Sl.cells (ownSl (H.get (k := 0) rfl))
    have hvo_q640z := Sl.oc (ownSl (H.get (k := 0) rfl))
    refine s_nil ⟨(H.pk [4, 5, 6, 7, 8, 9, 10, 11]), ?_⟩
    refine t_l rfl ?_
    obtain ⟨sd641z, hM⟩ := M.e_grd hM
    simp only [Bool.and_eq_true, decide_eq_true_eq] at sd641z
    refine t_app (α := Int) (k := 2) (l := l14) (l2 := [(r16 : Int)]) (l' := l14 ++ ([(r16 : Int)])) (vy := v638z) T23 rfl H rfl rfl rfl (ownSl (H.get (k := 0) rfl)) (ownLe _ (H.get (k := 0) rfl)) (rfl) (by first | omega | (simp only [List.length_nil] at *; omega)) ?_
    intro v642z w643z H
    replace H := H.nf
    have hvc_q644z := Sl.cells (ownSl (H.get (k := 2) rfl))
    have hvo_q644z := Sl.oc (ownSl (H.get (k := 2) rfl))
    refine s_nil ⟨(H.pk [4, 5, 6, 7, 8, 9, 10, 11]), ?_⟩
    refine t_q rfl (fun w' H => x_fa (a := .pointer (some ⟨b_16, 0, none⟩)) (v := .pointer (some ⟨b_16, 1, none⟩)) rfl (fa_blk (o := 0) Fd67_1 Sz23)) ?_
    refine t_l rfl ?_
    refine t_sw 3 1 [v642z] v642z H rfl rfl Sz23 (Sl.cells (ownSl (H.get (k := 2) rfl))) rfl rfl (by simp only [List.all_cons, List.all_nil, Bool.true_and, Bool.and_true, Sl.oc (ownSl (H.get (k := 2) rfl))]; try rfl) ?_
    intro w645z H
    refine s_nil ⟨(H.pk [4, 5, 6, 7, 8, 9, 10, 11]), ?_⟩
    refine t_nil ?_
    refine W.region rfl ?_
    refine s_val (x_fa (a := .pointer (some ⟨b_2, 0, none⟩)) (v := .pointer (some ⟨b_2, 0, none⟩)) rfl (fa_blk (o := 0) Fd30_0 Sz23)) ?_
    refine s_val (x_ld (p := .pointer (some ⟨b_2, 0, none⟩)) (v := v_l) rfl (ldb_sc Sc23 (H.blk (k := 10) rfl) rfl)) ?_
    refine s_val (x_mv (v := I s14) rfl) ?_
    obtain ⟨sd646z, hM⟩ := M.e_grd hM
    simp only [Bool.and_eq_true, decide_eq_true_eq] at sd646z
    refine s_val (x_ix (a := v_l) (b := I s14) (v := vat v_l 1 (Int.toNat s14)) rfl rfl (Sl.ix (α := Int) T23.und T23.size (ownSl (H.get (k := 9) rfl)) (by omega) (by omega))) ?_
    refine s_val (x_ld (p := vat v_l 1 (Int.toNat s14)) (v := I (l.getD (Int.toNat s14) 0)) rfl (ld_sc Sc3 (At.mono (Int_at (ownSl (H.get (k := 9) rfl)) (i := s14) (by omega) (by omega)) (ownLe _ (H.get (k := 9) rfl))))) ?_
    refine s_val (x_as (v := I (l.getD (Int.toNat s14) 0)) rfl) ?_
    refine s_nil ?_
    exact ⟨m617z, lt618z, q115, q215, l.getD (Int.toNat s14) 0, l14 ++ ([(r16 : Int)]), v642z, _, upds_of _ _ ⟨rfl, rfl, rfl, rfl, rfl, rfl, trivial⟩, M.e_inl hM hN620z, (H.pk [2, 3, 1, 4, 5, 6, 7, 8, 9, 10, 11])⟩
   skip
   obtain ⟨r648z, hx647z, hM⟩ := M.e_bind hM
   refine s_call cf10 [.pointer (some ⟨b_s, 0, none⟩), I 400] rfl (zab s_bytes s12 s13 400 (hC_s_bytes.app _) hs_s_bytes hx647z _ ((H.pk [2, 0, 1, 3, 4, 5, 6, 7, 8, 9, 10]).gt 10)) ?_
   rintro vq w649z ⟨r16, q115, q215, hr650z, hvq, H2_⟩
   subst hr650z
   subst vq
   try dsimp only at hM
   replace H := H.pk [2, 0, 1, 3, 4, 5, 6, 7, 8, 9, 10] |>.bk H2_
   clear H2_
   have hvc_q651z := Sl.cells (ownSl (H.get (k := 1) rfl))
   have hvo_q651z := Sl.oc (ownSl (H.get (k := 1) rfl))
   refine s_nil ⟨(H.pk [3, 4, 5, 6, 7, 8, 9, 10]), ?_⟩
   obtain ⟨sd654z, hM⟩ := M.e_grd hM
   simp only [Bool.and_eq_true, decide_eq_true_eq] at sd654z
   refine t_l2 rfl rfl ?_ ?_
   ·skip
    refine s_val (x_ld (p := .pointer (some ⟨b_16, 1, none⟩)) (v := v_l14) rfl (ldb_sc Sc23 (H.blk (k := 2) rfl) rfl)) ?_
    refine s_nil ⟨(H.pk [3, 4, 5, 6, 7, 8, 9, 10]), ?_⟩
    refine t_l rfl ?_
    refine t_bs (α := Int) T23 [I r16] [(r16 : Int)] H rfl (.cons rfl (Flat.rep_enc _ (r16 : Int)) <| .nil) rfl rfl rfl ?_
    intro v658z w659z H
    have hvc_q660z := Sl.cells (ownSl (H.get (k := 0) rfl))
    have hvo_q660z := Sl.oc (ownSl (H.get (k := 0) rfl))
    refine s_nil ⟨(H.pk [4, 5, 6, 7, 8, 9, 10, 11]), ?_⟩
    refine t_l rfl ?_
    refine t_app (α := Int) (k := 2) (l := l14) (l2 := [(r16 : Int)]) (l' := l14 ++ ([(r16 : Int)])) (vy := v658z) T23 rfl H rfl rfl rfl (ownSl (H.get (k := 0) rfl)) (ownLe _ (H.get (k := 0) rfl)) (rfl) (by first | omega | (simp only [List.length_nil] at *; omega)) ?_
    intro v661z w662z H
    replace H := H.nf
    have hvc_q663z := Sl.cells (ownSl (H.get (k := 2) rfl))
    have hvo_q663z := Sl.oc (ownSl (H.get (k := 2) rfl))
    refine s_nil ⟨(H.pk [4, 5, 6, 7, 8, 9, 10, 11]), ?_⟩
    refine t_q rfl (fun w' H => x_fa (a := .pointer (some ⟨b_16, 0, none⟩)) (v := .pointer (some ⟨b_16, 1, none⟩)) rfl (fa_blk (o := 0) Fd67_1 Sz23)) ?_
    refine t_l rfl ?_
    refine t_sw 3 1 [v661z] v661z H rfl rfl Sz23 (Sl.cells (ownSl (H.get (k := 2) rfl))) rfl rfl (by simp only [List.all_cons, List.all_nil, Bool.true_and, Bool.and_true, Sl.oc (ownSl (H.get (k := 2) rfl))]; try rfl) ?_
    intro w664z H
    refine s_nil ⟨(H.pk [4, 5, 6, 7, 8, 9, 10, 11]), ?_⟩
    refine t_nil ?_
    refine W.region rfl ?_
    refine s_val (x_fa (a := .pointer (some ⟨b_2, 0, none⟩)) (v := .pointer (some ⟨b_2, 0, none⟩)) rfl (fa_blk (o := 0) Fd30_0 Sz23)) ?_
    refine s_val (x_ld (p := .pointer (some ⟨b_2, 0, none⟩)) (v := v_l) rfl (ldb_sc Sc23 (H.blk (k := 10) rfl) rfl)) ?_
    refine s_val (x_mv (v := I s14) rfl) ?_
    obtain ⟨sd665z, hM⟩ := M.e_grd hM
    simp only [Bool.and_eq_true, decide_eq_true_eq] at sd665z
    refine s_val (x_ix (a := v_l) (b := I s14) (v := vat v_l 1 (Int.toNat s14)) rfl rfl (Sl.ix (α := Int) T23.und T23.size (ownSl (H.get (k := 9) rfl)) (by omega) (by omega))) ?_
    refine s_val (x_ld (p := vat v_l 1 (Int.toNat s14)) (v := I (l.getD (Int.toNat s14) 0)) rfl (ld_sc Sc3 (At.mono (Int_at (ownSl (H.get (k := 9) rfl)) (i := s14) (by omega) (by omega)) (ownLe _ (H.get (k := 9) rfl))))) ?_
    refine s_val (x_as (v := I (l.getD (Int.toNat s14) 0)) rfl) ?_
    refine s_nil ?_
    exact ⟨m617z, lt618z, q115, q215, l.getD (Int.toNat s14) 0, l14 ++ ([(r16 : Int)]), v661z, _, upds_of _ _ ⟨rfl, rfl, rfl, rfl, rfl, rfl, trivial⟩, M.e_inl hM hN620z, (H.pk [2, 3, 1, 4, 5, 6, 7, 8, 9, 10, 11])⟩
   skip
   refine t_bs (α := Int) T23 [I r16] [(r16 : Int)] H rfl (.cons rfl (Flat.rep_enc _ (r16 : Int)) <| .nil) rfl rfl rfl ?_
   intro v666z w667z H
   have hvc_q668z := Sl.cells (ownSl (H.get (k := 0) rfl))
   have hvo_q668z := Sl.oc (ownSl (H.get (k := 0) rfl))
   refine s_nil ⟨(H.pk [4, 5, 6, 7, 8, 9, 10, 11]), ?_⟩
   refine t_l rfl ?_
   refine s_val (x_ld (p := .pointer (some ⟨b_16, 1, none⟩)) (v := v_l14) rfl (ldb_sc Sc23 (H.blk (k := 3) rfl) rfl)) ?_
   refine s_nil ⟨(H.pk [4, 5, 6, 7, 8, 9, 10, 11]), ?_⟩
   refine t_l rfl ?_
   refine t_app (α := Int) (k := 2) (l := l14) (l2 := [(r16 : Int)]) (l' := l14 ++ ([(r16 : Int)])) (vy := v666z) T23 rfl H rfl rfl rfl (ownSl (H.get (k := 0) rfl)) (ownLe _ (H.get (k := 0) rfl)) (rfl) (by first | omega | (simp only [List.length_nil] at *; omega)) ?_
   intro v669z w670z H
   replace H := H.nf
   have hvc_q671z := Sl.cells (ownSl (H.get (k := 2) rfl))
   have hvo_q671z := Sl.oc (ownSl (H.get (k := 2) rfl))
   refine s_nil ⟨(H.pk [4, 5, 6, 7, 8, 9, 10, 11]), ?_⟩
   refine t_q rfl (fun w' H => x_fa (a := .pointer (some ⟨b_16, 0, none⟩)) (v := .pointer (some ⟨b_16, 1, none⟩)) rfl (fa_blk (o := 0) Fd67_1 Sz23)) ?_
   refine t_l rfl ?_
   refine t_sw 3 1 [v669z] v669z H rfl rfl Sz23 (Sl.cells (ownSl (H.get (k := 2) rfl))) rfl rfl (by simp only [List.all_cons, List.all_nil, Bool.true_and, Bool.and_true, Sl.oc (ownSl (H.get (k := 2) rfl))]; try rfl) ?_
   intro w672z H
   refine s_nil ⟨(H.pk [4, 5, 6, 7, 8, 9, 10, 11]), ?_⟩
   refine t_nil ?_
   refine W.region rfl ?_
   refine s_val (x_fa (a := .pointer (some ⟨b_2, 0, none⟩)) (v := .pointer (some ⟨b_2, 0, none⟩)) rfl (fa_blk (o := 0) Fd30_0 Sz23)) ?_
   refine s_val (x_ld (p := .pointer (some ⟨b_2, 0, none⟩)) (v := v_l) rfl (ldb_sc Sc23 (H.blk (k := 10) rfl) rfl)) ?_
   refine s_val (x_mv (v := I s14) rfl) ?_
   obtain ⟨sd673z, hM⟩ := M.e_grd hM
   simp only [Bool.and_eq_true, decide_eq_true_eq] at sd673z
   refine s_val (x_ix (a := v_l) (b := I s14) (v := vat v_l 1 (Int.toNat s14)) rfl rfl (Sl.ix (α := Int) T23.und T23.size (ownSl (H.get (k := 9) rfl)) (by omega) (by omega))) ?_
   refine s_val (x_ld (p := vat v_l 1 (Int.toNat s14)) (v := I (l.getD (Int.toNat s14) 0)) rfl (ld_sc Sc3 (At.mono (Int_at (ownSl (H.get (k := 9) rfl)) (i := s14) (by omega) (by omega)) (ownLe _ (H.get (k := 9) rfl))))) ?_
   refine s_val (x_as (v := I (l.getD (Int.toNat s14) 0)) rfl) ?_
   refine s_nil ?_
   exact ⟨m617z, lt618z, q115, q215, l.getD (Int.toNat s14) 0, l14 ++ ([(r16 : Int)]), v669z, _, upds_of _ _ ⟨rfl, rfl, rfl, rfl, rfl, rfl, trivial⟩, M.e_inl hM hN620z, (H.pk [2, 3, 1, 4, 5, 6, 7, 8, 9, 10, 11])⟩
  replace hM := M.e_f hM c621z
  simp only [decide_eq_true_eq, decide_eq_false_iff_not, beq_iff_eq, bne_iff_ne, beq_eq_false_iff_ne, bne_eq_false_iff_eq, ne_eq, Decidable.not_not] at c621z
  refine W.exit ?_
  have hX674z := M.e_inr hM hN620z
  subst hX674z
  replace hM := hk613z
  try dsimp only at hM
  refine W.region rfl ?_
  refine s_val (x_fa (a := .pointer (some ⟨b_2, 0, none⟩)) (v := .pointer (some ⟨b_2, 6, none⟩)) rfl (fa_blk (o := 0) Fd30_5 Sz28)) ?_
  refine s_val (x_ld (p := .pointer (some ⟨b_2, 6, none⟩)) (v := v_l17) rfl (ldb_sc Sc28 (H.blk (k := 9) rfl) rfl)) ?_
  refine s_val (x_ld (p := .pointer (some ⟨b_16, 0, none⟩)) (v := .agg #[I (l10.getD (Int.toNat r15) 0), v_l14]) rfl (ldb_ag (ds := [I (l10.getD (Int.toNat r15) 0), v_l14]) Ag67 Sz67 (H.blk (k := 1) rfl) rfl rfl)) ?_
  obtain ⟨Bs_20, H⟩ := H.emptyE
  obtain ⟨Bs_21, H, hs676z⟩ := H.freezeE (k := 1) rfl
  replace H := H.nf
  have hq675z := hs676z
  obtain ⟨Bs_22, H, le677z, le678z⟩ := H.joinE (i := 0) (j := 1) rfl rfl
  replace hq675z := hq675z.mono le678z
  obtain ⟨rw679z, hrw_rw679z⟩ : ∃ r : Raw 1, r.cs = [I (l10.getD (Int.toNat r15) 0), v_l14] := ⟨Raw.of [I (l10.getD (Int.toNat r15) 0), v_l14] rfl (by simp only [List.all_cons, List.all_nil, Bool.true_and, Bool.and_true, Sl.oc hq675z]; try rfl), rfl⟩
  have hr680z : RepR (α := Flood) Bs_22.cells [rw679z] [(⟨(l10.getD (Int.toNat r15) 0 : Int), l14⟩ : Flood)] := .cons (by rw [hrw_rw679z]; exact ⟨_, rfl, hq675z⟩) <| .nil
  refine t_bs (α := Raw 1) T28 [.agg #[I (l10.getD (Int.toNat r15) 0), v_l14]] [rw679z] H rfl (.cons (by rw [show (Flat.enc rw679z : List Value) = rw679z.cs from rfl, hrw_rw679z]; rfl) (Flat.rep_enc _ _) <| .nil) rfl rfl rfl ?_
  intro v681z w682z H
  replace H := H.nf
  obtain ⟨sd683z, hM⟩ := M.e_grd hM
  simp only [Bool.and_eq_true, decide_eq_true_eq] at sd683z
  have hr684z := hr680z
  obtain ⟨Bs_26, H, le685z, le686z⟩ := H.joinE (i := 7) (j := 1) rfl rfl
  replace hr_l17 := hr_l17.mono le685z
  replace hr684z := hr684z.mono le686z
  have hr689z := hr_l17.app hr684z
  refine t_app (α := Raw 1) (k := 7) (l := rw_l17) (l2 := [rw679z]) (l' := rw_l17 ++ ([rw679z])) (vy := v681z) T28 rfl H rfl rfl rfl (ownSl (H.get (k := 1) rfl)) (ownLe _ (H.get (k := 1) rfl)) (rfl) (by have a_ := hr_l17.len; have b_ := hr684z.len; (try simp only [List.length_nil] at *); first | omega | (rw [a_, b_]; omega)) ?_
  intro v687z w688z H
  replace H := H.nf
  refine s_val (x_fa (a := .pointer (some ⟨b_2, 0, none⟩)) (v := .pointer (some ⟨b_2, 6, none⟩)) rfl (fa_blk (o := 0) Fd30_5 Sz28)) ?_
  refine t_sw 13 6 [v687z] v687z H rfl rfl Sz28 (Sl.cells (rowSl rfl (H.get (k := 7) rfl) (roLe _ (H.get (k := 0) rfl)) hr689z)) rfl rfl (by simp only [List.all_cons, List.all_nil, Bool.true_and, Bool.and_true, Sl.oc (rowSl rfl (H.get (k := 7) rfl) (roLe _ (H.get (k := 0) rfl)) hr689z)]; try rfl) ?_
  intro w690z H
  refine s_nil ?_
  replace H := H.pk [0, 6, 7, 8, 9, 10, 11, 12, 13, 14]
  refine W.region rfl ?_
  refine s_val (x_mv (v := I k2) rfl) ?_
  obtain ⟨sd691z, hM⟩ := M.e_grd hM
  simp only [Bool.and_eq_true, decide_eq_true_eq] at sd691z
  refine s_val (x_ari (a := k2) (b := 1) (r := k2 - 1) rfl rfl rfl (by omega)) ?_
  refine s_val (x_as (v := I (k2 - 1)) rfl) ?_
  refine s_nil ?_
  exact ⟨m577z, lt578z, s12, s13, k2 - 1, l17 ++ ([(⟨(l10.getD (Int.toNat r15) 0 : Int), l14⟩ : Flood)]), v687z, rw_l17 ++ ([rw679z]), Bs_26, _, upds_of _ _ ⟨rfl, rfl, rfl, rfl, trivial⟩, M.e_inl hM hN580z, (H.pk [2, 0, 1, 4, 5, 6, 7, 8, 9]), hr689z⟩
 replace hM := M.e_f hM c581z
 simp only [decide_eq_true_eq, decide_eq_false_iff_not, beq_iff_eq, bne_iff_ne, beq_eq_false_iff_ne, bne_eq_false_iff_eq, ne_eq, Decidable.not_not] at c581z
 refine W.exit ?_
 have hX692z := M.e_inr hM hN580z
 subst hX692z
 replace hM := hk573z
 try dsimp only at hM
 refine W.seq ?_
 refine W.region rfl ?_
 refine s_val (x_ld (p := .pointer (some ⟨b_2, 0, none⟩)) (v := .agg #[v_l, v_l2, v_l10, v_l11, I r12, I (r12 + r13), v_l17]) rfl (ldb_ag (ds := [v_l, v_l2, v_l10, v_l11, I r12, I (r12 + r13), v_l17]) Ag30 Sz30 (H.blk (k := 7) rfl) rfl rfl)) ?_
 refine t_sw 8 0 [v_l, v_l2, v_l10, v_l11, I r12, I (r12 + r13), v_l17] (.agg #[v_l, v_l2, v_l10, v_l11, I r12, I (r12 + r13), v_l17]) H rfl rfl Sz30 rfl rfl rfl (by simp only [List.all_cons, List.all_nil, Bool.true_and, Bool.and_true, Sl.oc (ownSl (H.get (k := 6) rfl)), Sl.oc (ownSl (H.get (k := 5) rfl)), Sl.oc (ownSl (H.get (k := 4) rfl)), Sl.oc (ownSl (H.get (k := 3) rfl)), Sl.oc (rowSl rfl (H.get (k := 0) rfl) (roLe _ (H.get (k := 1) rfl)) hr_l17)]; try rfl) ?_
 intro w693z H
 refine s_nil ?_
 refine W.ret ?_
 have hb694z := (H.blk (k := 8) rfl)
 have hr_ := M.e_pure hM
 exact ⟨_, (resE_of1 (v := .agg #[v_l, v_l2, v_l10, v_l11, I r12, I (r12 + r13), v_l17]) rfl (.cell (v := .agg #[v_l, v_l2, v_l10, v_l11, I r12, I (r12 + r13), v_l17]) rfl (run_loadVar_ag (ds := [v_l, v_l2, v_l10, v_l11, I r12, I (r12 + r13), v_l17]) Ag30 Sz30 hb694z rfl rfl) <| .nil)), ⟨l, l2, l10, l11, r12, (r12 + r13), l17, s17, s18, v_l, v_l2, v_l10, v_l11, v_l17, rw_l17, B_l17, hr_, rfl, (H.pk [6, 5, 4, 3, 0, 1, 2]), hr_l17⟩⟩

end Go.Proofs.Ytbaehghammbjdaa
end
namespace Go.Proofs.Ytbaehghammbjdaa
open Go Go.Nm
end Go.Proofs.Ytbaehghammbjdaa
namespace Go.Nm
namespace Wn
/-- What is made so far of the first stations. -/
structure Mk (n i : Nat) (l : List Int) (l2 : List Span) (l3 : List Int) : Prop where
  z1 : l.length = i
  z2 : l2.length = i
  nx : ∀ j, j < i -> l.getD j 0 = -1 ∨ ((j : Int) + 1 <= l.getD j 0 /\ l.getD j 0 < n)
  hr : ∀ j, j < i -> 0 <= (l2.getD j default).lo /\ (l2.getD j default).lo <= (l2.getD j default).hi /\ (l2.getD j default).hi <= 1000
  s8 : l3.length <= 8
  sr : l3.Pairwise (· < ·)
  si : ∀ x ∈ l3, 0 <= x /\ x < (i : Int)
theorem getD_app {α : Type} {l : List α} {x d : α} {j : Nat} (h : j < l.length) : (l ++ [x]).getD j d = l.getD j d := by
  simp [List.getD, List.getElem?_append_left h]
theorem getD_appE {α : Type} {l : List α} {x d : α} {j : Nat} (h : l.length = j) : (l ++ [x]).getD j d = x := by
  subst h
  simp [List.getD]
theorem Mk.step {n i : Nat} {l : List Int} {l2 : List Span} {l3 l3' : List Int} {d : Int} {s : Span} (h : Mk n i l l2 l3) (hd : d = -1 ∨ ((i : Int) + 1 <= d /\ d < n)) (hs : 0 <= s.lo /\ s.lo <= s.hi /\ s.hi <= 1000)
    (h3 : l3' = l3 ∨ (l3' = l3 ++ [(i : Int)] /\ l3.length < 8)) : Mk n (i + 1) (l ++ [d]) (l2 ++ [s]) l3' := by
  refine ⟨by simp [h.z1], by simp [h.z2], fun j hj => ?_, fun j hj => ?_, ?_, ?_, fun x hx => ?_⟩
  · rcases Nat.lt_or_eq_of_le (Nat.le_of_lt_succ hj) with e | e
    · rw [getD_app (by rw [h.z1]; exact e)]
      exact h.nx j e
    · subst e
      rw [getD_appE h.z1]
      exact hd
  · rcases Nat.lt_or_eq_of_le (Nat.le_of_lt_succ hj) with e | e
    · rw [getD_app (by rw [h.z2]; exact e)]
      exact h.hr j e
    · subst e
      rw [getD_appE h.z2]
      exact hs
  · rcases h3 with rfl | ⟨rfl, h3⟩
    · exact h.s8
    · simp; omega
  · rcases h3 with rfl | ⟨rfl, h3⟩
    · exact h.sr
    · rw [List.pairwise_append]
      exact ⟨h.sr, List.pairwise_singleton _ _, fun a ha b hb => by
        rw [List.mem_singleton] at hb
        subst hb
        exact (h.si a ha).2⟩
  · rcases h3 with rfl | ⟨rfl, h3⟩
    · have := h.si x hx
      omega
    · rcases List.mem_append.1 hx with hx | hx
      · have := h.si x hx
        omega
      · rw [List.mem_singleton] at hx
        omega
end Wn
end Go.Nm
namespace Go.Proofs.Ytbaehghammbjdaa
open Go Go.Nm
theorem made_j5 {b : List UInt8} {n i : Nat} {l : List Int} {l2 : List Span} {l3 : List Int} {c u x d : Int} (h : Wn.Mk n i l l2 l3) (hi : i < n) (hn : n <= 12) (hS : SOk c u x) (hc : c <= 100000) (hd : d = -1 ∨ ((i : Int) + 1 <= d /\ d < n)) :
    (zao b i l l2 l3 u x d).Out (fun r => match r with | .inl (u', x', i', a1, a2, a3) => i' = i + 1 /\ SOk (c + 3) u' x' /\ Wn.Mk n (i + 1) a1 a2 a3 | .inr _ => False) := by
  have e1 := h.z1
  have e2 := h.z2
  have e8 := h.s8
  unfold zao
  refine M.o_bind (next_out hS (by omega) (by omega)) ?_
  rintro ⟨r5, u5, x5⟩ ⟨k5, g5, _⟩
  have g5 := g5 (by omega)
  dsimp only at k5 g5 ⊢
  refine M.o_grdD (by simp; omega) (M.o_bind (next_out k5 (by omega) (by omega)) ?_)
  rintro ⟨r6, u6, x6⟩ ⟨k6, g6, _⟩
  have g6 := g6 (by omega)
  dsimp only at k6 g6 ⊢
  refine M.o_grd (gA2 (by omega) (by omega)) (M.o_grdD (by simp; omega) ?_)
  unfold zbB
  have hs : 0 <= (⟨r5, r5 + r6⟩ : Span).lo /\ (⟨r5, r5 + r6⟩ : Span).lo <= (⟨r5, r5 + r6⟩ : Span).hi /\ (⟨r5, r5 + r6⟩ : Span).hi <= 1000 := by dsimp only; omega
  refine M.o_if (fun hb => ?_) (fun hb => ?_)
  · have hb' := of_decide_eq_true hb
    refine M.o_bind (next_out k6 (by omega) (by omega)) ?_
    rintro ⟨r7, u7, x7⟩ ⟨k7, g7, _⟩
    dsimp only at k7 g7 ⊢
    refine M.o_if (fun hq => ?_) (fun hq => ?_)
    · exact M.o_grdD (by simp; omega) (M.o_grd (gA2 (by omega) (by omega)) (M.o_pure ⟨rfl, k7.mono (by omega), h.step hd hs (.inr ⟨rfl, by omega⟩)⟩))
    · exact M.o_grd (gA2 (by omega) (by omega)) (M.o_pure ⟨rfl, k7.mono (by omega), h.step hd hs (.inl rfl)⟩)
  · exact M.o_grd (gA2 (by omega) (by omega)) (M.o_pure ⟨rfl, k6.mono (by omega), h.step hd hs (.inl rfl)⟩)
theorem made_stations {b : List UInt8} {n : Nat} {c u x : Int} (h1 : 1 <= n) (hn : n <= 12) (hS : SOk c u x) (hc : c <= 1000) :
    (M.iter (zaN b (n : Int)) (u, x, 0, [], [], [])).Out (fun r => SOk (c + 100) r.1 r.2.1 /\ ∃ l l2 l3, r.2.2 = (l, l2, l3, l3, l2, l) /\ Wn.Mk n n l l2 l3) := by
  refine M.o_for n (fun i (s : Int × Int × Nat × List Int × List Span × List Int) => s.2.2.1 = i /\ SOk (c + 6 * i) s.1 s.2.1 /\ Wn.Mk n i s.2.2.2.1 s.2.2.2.2.1 s.2.2.2.2.2) ?_ ?_ ⟨rfl, hS.mono (by omega), rfl, rfl, fun j hj => by omega, fun j hj => by omega, by simp, List.Pairwise.nil, fun x hx => by cases hx⟩
  · rintro i ⟨u, x, q, l, l2, l3⟩ hi ⟨e1, hS, hM⟩
    dsimp only at e1 hS hM
    subst e1
    simp only [zaN]
    have fin : ∀ {c' u' x' d : Int}, SOk c' u' x' -> c' + 3 <= c + 6 * ((q + 1 : Nat) : Int) -> (d = -1 ∨ ((q : Int) + 1 <= d /\ d < n)) →
        ∀ {Q : ((Int × Int × Nat × List Int × List Span × List Int) ⊕ (Int × Int × List Int × List Span × List Int × List Int × List Span × List Int)) -> Prop}, (∀ s', s'.2.2.1 = q + 1 /\ SOk (c + 6 * ((q + 1 : Nat) : Int)) s'.1 s'.2.1 /\ Wn.Mk n (q + 1) s'.2.2.2.1 s'.2.2.2.2.1 s'.2.2.2.2.2 -> Q (.inl s')) →
        (zao b q l l2 l3 u' x' d).Out Q := by
      intro c' u' x' d k1 k2 k3 Q kQ
      refine M.o_mono (made_j5 (b := b) hM hi hn k1 (by omega) k3) ?_
      rintro (⟨u2, x2, i2, a1, a2, a3⟩ | r) hr
      · exact kQ _ ⟨hr.1, hr.2.1.mono k2, hr.2.2⟩
      · exact hr.elim
    refine M.o_t (decide_eq_true (by omega)) (M.o_grd (gA2 (by omega) (by omega)) (M.o_if (fun hb => ?_) (fun hb => fin hS (by omega) (.inl rfl) fun s' h => h)))
    have hb' := of_decide_eq_true hb
    refine M.o_bind (next_out hS (by omega) (by omega)) ?_
    rintro ⟨r, u7, x7⟩ ⟨k7, g7, _⟩
    dsimp only at k7 g7 ⊢
    refine M.o_if (fun hq => ?_) (fun hq => fin k7 (by omega) (.inl rfl) fun s' h => h)
    refine M.o_grd (gA2 (by omega) (by omega)) (M.o_grd (gA2 (by omega) (by omega)) (M.o_bind (within_out k7 (by omega) (by omega) (by omega) (by omega)) ?_))
    rintro ⟨r4, u8, x8⟩ ⟨k8, g8, g9⟩
    dsimp only at k8 g8 g9 ⊢
    have g10 := Int.le_trans g9 (Int.min_le_left ((n : Int) - 1) ((q : Int) + 3))
    exact fin k8 (by omega) (.inr ⟨g8, by omega⟩) fun s' h => h
  · rintro ⟨u, x, q, l, l2, l3⟩ ⟨e1, hS, hM⟩
    dsimp only at e1 hS hM
    subst e1
    simp only [zaN]
    exact M.o_f (decide_eq_false (by omega)) (M.o_pure ⟨hS.mono (by omega), l, l2, l3, rfl, hM⟩)
def TwOk (n : Nat) (tw : List Town) : Prop := ∀ t ∈ tw, (0 <= t.station /\ t.station < n) /\ (0 <= t.lead /\ t.lead <= 1000) /\ 0 <= t.alarm /\ t.alarm <= 2000
theorem made_towns {b : List UInt8} {n : Nat} {c u x k : Int} (h1 : 1 <= n) (hn : n <= 12) (hS : SOk c u x) (hc : c <= 10000) (hk : 0 <= k /\ k < 8) :
    (M.iter (za8 b (n : Int)) (u, x, k, [])).Out (fun r => SOk (c + 100) r.1 r.2.1 /\ r.2.2.2.length <= 8 /\ TwOk n r.2.2.2) := by
  refine M.o_iter (fun m (s : Int × Int × Int × List Town) => s.2.2.1 = (m : Int) /\ m <= 8 /\ SOk (c + 4 * (8 - (m : Int))) s.1 s.2.1 /\ s.2.2.2.length + m <= 8 /\ TwOk n s.2.2.2) ?_ (Int.toNat k) _ ⟨by dsimp only; omega, by omega, hS.mono (by omega), by simp; omega, fun t ht => by cases ht⟩
  rintro m ⟨u, x, k, l⟩ ⟨e1, hm, hS, hl, hT⟩
  dsimp only at e1 hS hl hT
  subst e1
  simp only [za8]
  refine M.o_if (fun hb => ?_) (fun hb => M.o_pure ⟨hS.mono (by omega), by dsimp only; omega, hT⟩)
  have hb := of_decide_eq_true hb
  refine M.o_bind (next_out hS (by omega) (by omega)) ?_
  rintro ⟨r1, u1, x1⟩ ⟨k1, g1, _⟩
  have g1 := g1 (by omega)
  dsimp only at k1 g1 ⊢
  refine M.o_bind (next_out k1 (by omega) (by omega)) ?_
  rintro ⟨r2, u2, x2⟩ ⟨k2, g2, _⟩
  have g2 := g2 (by omega)
  dsimp only at k2 g2 ⊢
  refine M.o_bind (within_out k2 (by omega) (by omega) (by omega) (by omega)) ?_
  rintro ⟨r3, u3, x3⟩ ⟨k3, g3, g4⟩
  dsimp only at k3 g3 g4 ⊢
  refine M.o_grdD (by simp; omega) (M.o_grd (gA2 (by omega) (by omega)) (M.o_pure ⟨m - 1, by omega, by dsimp only; omega, by omega, k3.mono (by omega), by simp; omega, fun t ht => ?_⟩))
  rcases List.mem_append.1 ht with ht | ht
  · exact hT t ht
  · rw [List.mem_singleton] at ht
    subst ht
    dsimp only
    omega
def FlOk (dn sp : List Int) (fl : List Flood) : Prop := ∀ f ∈ fl, f.spring ∈ sp /\ f.stages.length = (Wn.P dn f.spring).length /\ ∀ x ∈ f.stages, 0 <= x /\ x <= 2000
theorem made_stages {b : List UInt8} {dn : List Int} {c u x s : Int} (hd : Wn.Dn dn) (hn : dn.length <= 12) (hs : 0 <= s /\ s < dn.length) (hS : SOk c u x) (hc : c <= 100000) :
    (M.iter (zaA b dn) (u, x, s, [])).Out (fun r => SOk (c + 12) r.1 r.2.1 /\ r.2.2.2.length = (Wn.P dn s).length /\ ∀ x ∈ r.2.2.2, 0 <= x /\ x <= 2000) := by
  have hst : Wn.Stn dn s := .inr hs
  have hsh := Wn.P_short hd hst
  refine M.o_for (Wn.P dn s).length (fun i (t : Int × Int × Int × List Int) => (Wn.P dn t.2.2.1 = (Wn.P dn s).drop i /\ Wn.Stn dn t.2.2.1) /\ SOk (c + i) t.1 t.2.1 /\ t.2.2.2.length = i /\ ∀ x ∈ t.2.2.2, 0 <= x /\ x <= 2000) ?_ ?_ ⟨⟨by rw [List.drop_zero], hst⟩, hS.mono (by omega), rfl, fun x hx => by cases hx⟩
  · rintro i ⟨u, x, q, l⟩ hi ⟨⟨e2, e3⟩, hS, hl, hx⟩
    dsimp only at e2 e3 hS hl hx
    subst hl
    simp only [zaA]
    have hdr : (Wn.P dn s).drop l.length = (Wn.P dn s)[l.length] :: (Wn.P dn s).drop (l.length + 1) := List.drop_eq_getElem_cons hi
    have hq : 0 <= q /\ q < dn.length := by
      rcases e3 with rfl | e3
      · rw [Wn.P_none, hdr] at e2
        cases e2
      · exact e3
    rw [Wn.P_cons hd hq.1 hq.2, hdr] at e2
    obtain ⟨_, g2⟩ := List.cons.inj e2
    refine M.o_t (by simp; omega) (M.o_bind (next_out hS (by omega) (by omega)) ?_)
    rintro ⟨r, u1, x1⟩ ⟨k1, g1, _⟩
    have g1 := g1 (by omega)
    dsimp only at k1 g1 ⊢
    refine M.o_grdD (by simp; omega) (M.o_grd (gA2 (by omega) (by omega)) (M.o_pure ⟨⟨g2, hd.next_st hq.1 hq.2⟩, k1.mono (by omega), by simp, fun y hy => ?_⟩))
    rcases List.mem_append.1 hy with hy | hy
    · exact hx y hy
    · rw [List.mem_singleton] at hy
      omega
  · rintro ⟨u, x, q, l⟩ ⟨⟨e2, e3⟩, hS, hl, hx⟩
    dsimp only at e2 e3 hS hl hx
    simp only [zaA]
    rw [List.drop_length] at e2
    have hq : q = -1 := by
      rcases e3 with e3 | e3
      · exact e3
      · rw [Wn.P_cons hd e3.1 e3.2] at e2
        cases e2
    subst hq
    exact M.o_f rfl (M.o_pure ⟨hS.mono (by omega), hl, hx⟩)
theorem made_floods {b : List UInt8} {dn sp : List Int} {c u x k : Int} (hd : Wn.Dn dn) (hn : dn.length <= 12) (h1 : 1 <= sp.length) (h8 : sp.length <= 8) (hsp : ∀ x ∈ sp, 0 <= x /\ x < dn.length) (hS : SOk c u x) (hc : c <= 10000) (hk : 0 <= k /\ k < 10) :
    (M.iter (zbe b dn sp) (u, x, k, [])).Out (fun r => SOk (c + 1000) r.2.2.1 r.2.2.2 /\ r.2.1.length <= 20 /\ FlOk dn sp r.2.1) := by
  refine M.o_iter (fun m (s : Int × Int × Int × List Flood) => s.2.2.1 = (m : Int) /\ m <= 10 /\ SOk (c + 20 * (10 - (m : Int))) s.1 s.2.1 /\ s.2.2.2.length + m <= 10 /\ FlOk dn sp s.2.2.2) ?_ (Int.toNat k) _ ⟨by dsimp only; omega, by omega, hS.mono (by omega), by simp; omega, fun t ht => by cases ht⟩
  rintro m ⟨u, x, k, l⟩ ⟨e1, hm, hS, hl, hF⟩
  dsimp only at e1 hS hl hF
  subst e1
  simp only [zbe]
  refine M.o_if (fun hb => ?_) (fun hb => M.o_pure ⟨hS.mono (by omega), by dsimp only; omega, hF⟩)
  have hb := of_decide_eq_true hb
  refine M.o_bind (next_out hS (by omega) (by omega)) ?_
  rintro ⟨r, u1, x1⟩ ⟨k1, g1, _⟩
  have g1 := g1 (by omega)
  dsimp only at k1 g1 ⊢
  refine M.o_grd (gA2 (by omega) (by omega)) ?_
  unfold zbi
  have hm' : sp.getD (Int.toNat r) 0 ∈ sp := by
    have hi : Int.toNat r < sp.length := by omega
    rw [List.getD_eq_getElem?_getD, List.getElem?_eq_getElem hi, Option.getD_some]
    exact List.getElem_mem hi
  refine M.o_bind (made_stages hd hn (hsp _ hm') k1 (by omega)) ?_
  rintro ⟨u2, x2, q2, l2⟩ ⟨k2, g2, g3⟩
  dsimp only at k2 g2 g3 ⊢
  refine M.o_grdD (by simp; omega) (M.o_grd (gA2 (by omega) (by omega)) (M.o_pure ⟨m - 1, by omega, by dsimp only; omega, by omega, k2.mono (by omega), by simp; omega, fun f hf => ?_⟩))
  rcases List.mem_append.1 hf with hf | hf
  · exact hF f hf
  · rw [List.mem_singleton] at hf
    subst hf
    exact ⟨hm', g2, g3⟩
end Go.Proofs.Ytbaehghammbjdaa
namespace Go.Proofs.Ytbaehghammbjdaa
open Go Go.Nm
theorem made_j16 {b : List UInt8} {n : Nat} {l : List Int} {l2 : List Span} {sp : List Int} {c u x : Int} (h1 : 1 <= n) (hn : n <= 12) (hl : l.length = n) (hl2 : l2.length = n) (hd : Wn.Dn l) (ht : ∀ i, i < n -> 0 <= (l2.getD i default).lo /\ (l2.getD i default).lo <= (l2.getD i default).hi /\ (l2.getD i default).hi <= 1000)
    (s1 : 1 <= sp.length) (s8 : sp.length <= 8) (sr : sp.Pairwise (· < ·)) (si : ∀ x ∈ sp, 0 <= x /\ x < (n : Int)) (hS : SOk c u x) (hc : c <= 1000) :
    (zaR b (n : Int) u x l2 l sp).Out (fun y => Wn.Rv y.1 y.2.1 y.2.2.1 y.2.2.2.1 y.2.2.2.2.1 y.2.2.2.2.2.1 y.2.2.2.2.2.2.1 /\ (y.2.2.2.2.1 <= 2 /\ y.2.2.2.2.2.1 <= 4) /\ SOk (c + 5000) y.2.2.2.2.2.2.2.1 y.2.2.2.2.2.2.2.2) := by
  unfold zaR
  refine M.o_bind (next_out hS (by omega) (by omega)) ?_
  rintro ⟨r1, u1, x1⟩ ⟨k1, g1, _⟩
  have g1 := g1 (by omega)
  dsimp only at k1 g1 ⊢
  refine M.o_bind (made_towns h1 hn k1 (by omega) g1) ?_
  rintro ⟨u2, x2, a1, tw⟩ ⟨k2, t8, tok⟩
  dsimp only at k2 t8 tok ⊢
  refine M.o_bind (next_out k2 (by omega) (by omega)) ?_
  rintro ⟨r3, u3, x3⟩ ⟨k3, g3, _⟩
  have g3 := g3 (by omega)
  dsimp only at k3 g3 ⊢
  refine M.o_bind (next_out k3 (by omega) (by omega)) ?_
  rintro ⟨r4, u4, x4⟩ ⟨k4, g4, _⟩
  have g4 := g4 (by omega)
  dsimp only at k4 g4 ⊢
  refine M.o_grd (gA2 (by omega) (by omega)) ?_
  unfold zbg
  refine M.o_bind (next_out k4 (by omega) (by omega)) ?_
  rintro ⟨r5, u5, x5⟩ ⟨k5, g5, _⟩
  have g5 := g5 (by omega)
  dsimp only at k5 g5 ⊢
  refine M.o_bind (made_floods hd (by omega) s1 s8 (by rw [hl]; exact si) k5 (by omega) g5) ?_
  rintro ⟨a2, fl, u6, x6⟩ ⟨k6, f20, fok⟩
  dsimp only at k6 f20 fok ⊢
  exact M.o_pure ⟨⟨by rw [hl]; exact h1, by rw [hl]; exact hn, hd, by rw [hl, hl2], fun i hi => ht i (by dsimp only at hi; omega), s1, s8, sr, by rw [hl]; exact si, t8, by rw [hl]; exact tok, g3.1, by dsimp only; omega, by dsimp only; omega, f20, fok⟩, ⟨by dsimp only; omega, by dsimp only; omega⟩, k6.mono (by omega)⟩
theorem made_out {b : List UInt8} {u x : Int} (hS : SOk 0 u x) : (zbz b u x 12).Out (fun y => Wn.Rv y.1 y.2.1 y.2.2.1 y.2.2.2.1 y.2.2.2.2.1 y.2.2.2.2.2.1 y.2.2.2.2.2.2.1 /\ (y.2.2.2.2.1 <= 2 /\ y.2.2.2.2.2.1 <= 4) /\ SOk 10000 y.2.2.2.2.2.2.2.1 y.2.2.2.2.2.2.2.2) := by
  unfold zbz
  refine M.o_bind (within_out hS (by omega) (by omega) (by omega) (by omega)) ?_
  rintro ⟨r, u1, x1⟩ ⟨k1, g1, g2⟩
  dsimp only at k1 g1 g2 ⊢
  obtain ⟨n, rfl⟩ := Int.eq_ofNat_of_zero_le (show 0 <= r by omega)
  refine M.o_bind (made_stations (by omega) (by omega) k1 (by omega)) ?_
  rintro ⟨u2, x2, z⟩ ⟨k2, l, l2, l3, e, hM⟩
  dsimp only at k2 e ⊢
  subst e
  dsimp only
  have hd : Wn.Dn l := fun i hi => by
    have := hM.nx i (by have := hM.z1; omega)
    have := hM.z1
    omega
  refine M.o_if (fun hb => ?_) (fun hb => ?_)
  · refine M.o_mono (made_j16 (b := b) (by omega) (by omega) hM.z1 hM.z2 hd (fun i hi => hM.hr i hi) (by simp) (by simp) (List.pairwise_singleton _ _) (fun x hx => ?_) k2 (by omega)) fun y hy => ⟨hy.1, hy.2.1, hy.2.2.mono (by omega)⟩
    rw [List.mem_singleton] at hx
    omega
  · have hb : l3.length ≠ 0 := by
      have := beq_eq_false_iff_ne.1 hb
      omega
    refine M.o_mono (made_j16 (b := b) (by omega) (by omega) hM.z1 hM.z2 hd (fun i hi => hM.hr i hi) (by omega) hM.s8 hM.sr hM.si k2 (by omega)) fun y hy => ⟨hy.1, hy.2.1, hy.2.2.mono (by omega)⟩
end Go.Proofs.Ytbaehghammbjdaa
section
set_option maxRecDepth 100000
set_option maxHeartbeats 16000000
namespace Go.Proofs.Ytbaehghammbjdaa
open Go Go.Nm
def zaZ (r__Down : List Int) (r__Travel : List Span) (r__Springs : List Int) (r__Towns : List Town) (r__Delay_Lo : Int) (r__Delay_Hi : Int) (r__Floods : List Flood) (watches : List Int) (flood : Int) : M (Int × Bool × Int) :=
  M.bind (zaq r__Down r__Travel r__Springs r__Towns r__Delay_Lo r__Delay_Hi r__Floods watches) fun x_ => match x_ with
  | (.inl (r1, r2)) => (
  M.bind (M.opt (r2 == 0) (zad flood 0 ((r__Floods.length : Int) - 1)) false) fun r3 =>
  bif ((r2 == 0) && (!r3)) then (
  M.pure (0, false, 2))
  else (
  bif r2 != 0 then (
  M.pure (0, false, r2))
  else (
  M.fail)))
  | (.inr (r04, r05, r12, r22)) => (
  M.bind (M.opt (r22 == 0) (zad flood 0 ((r__Floods.length : Int) - 1)) false) fun r3 =>
  bif ((r22 == 0) && (!r3)) then (
  M.pure (0, false, 2))
  else (
  bif r22 != 0 then (
  M.fail)
  else (
  M.grd (decide ((0 : Int) <= flood) && decide (flood < (r__Floods.length : Int))) <|
  M.bind (zai r__Down r__Travel r__Springs r__Towns r04 r05 r__Floods (r__Floods.getD (Int.toNat flood) default) r12) fun (r0, r13, r23) =>
  M.pure (r0, r23, 0))))
theorem zcq {R : List Chunk} {C_r__Down : Cells} {v_r__Down : Value} {C_r__Travel : Cells} {v_r__Travel : Value} {C_r__Springs : Cells} {v_r__Springs : Value} {C_r__Towns : Cells} {v_r__Towns : Value} {C_r__Floods : Cells} {v_r__Floods : Value} {C_watches : Cells} {v_watches : Value} (r__Down : List Int) (r__Travel : List Span) (r__Springs : List Int) (r__Towns : List Town) (r__Delay_Lo : Int) (r__Delay_Hi : Int) (r__Floods : List Flood) (watches : List Int) (flood : Int) (hC_r__Down : Reads R C_r__Down) (hs_r__Down : Sl C_r__Down v_r__Down r__Down) (hC_r__Travel : Reads R C_r__Travel) (hs_r__Travel : Sl C_r__Travel v_r__Travel r__Travel) (hC_r__Springs : Reads R C_r__Springs) (hs_r__Springs : Sl C_r__Springs v_r__Springs r__Springs) (hC_r__Towns : Reads R C_r__Towns) (hs_r__Towns : Sl C_r__Towns v_r__Towns r__Towns) (hC_r__Floods : Reads R C_r__Floods) (hs_r__Floods : Sl C_r__Floods v_r__Floods r__Floods) (hC_watches : Reads R C_watches) (hs_watches : Sl C_watches v_watches watches) {r : (Int × Bool × Int)} (hM : (zaZ r__Down r__Travel r__Springs r__Towns r__Delay_Lo r__Delay_Hi r__Floods watches flood).Ends r) (w : World) (H : St w w [] R) : Ret Try.prog 13 #[.agg #[v_r__Down, v_r__Travel, v_r__Springs, v_r__Towns, I r__Delay_Lo, I r__Delay_Hi, v_r__Floods], v_watches, I flood] w fun v w' => ∃ (y0 : Int) (y1 : Bool) (y2 : Int), (y0, y1, y2) = r /\ v = .tuple #[I y0, B y1, I y2] /\ St w w' [] R := by
 refine ret_of_W Try.func13 rfl rfl rfl ?_
 refine W.seq ?_
 refine W.region rfl ?_
 refine t_box (v := .agg #[v_r__Down, v_r__Travel, v_r__Springs, v_r__Towns, I r__Delay_Lo, I r__Delay_Hi, v_r__Floods]) (cs := [v_r__Down, v_r__Travel, v_r__Springs, v_r__Towns, I r__Delay_Lo, I r__Delay_Hi, v_r__Floods]) H rfl rfl ?_
 intro b_1 w1z H
 refine s_val (x_as (v := I 0) rfl) ?_
 refine s_val (x_as (v := B false) rfl) ?_
 refine s_val (x_as (v := I 0) rfl) ?_
 refine s_nil ?_
 refine W.seq ?_
 refine W.region rfl ?_
 refine s_val (x_ld (p := .pointer (some ⟨b_1, 0, none⟩)) (v := .agg #[v_r__Down, v_r__Travel, v_r__Springs, v_r__Towns, I r__Delay_Lo, I r__Delay_Hi, v_r__Floods]) rfl (ldb_ag (ds := [v_r__Down, v_r__Travel, v_r__Springs, v_r__Towns, I r__Delay_Lo, I r__Delay_Hi, v_r__Floods]) Ag30 Sz30 (H.blk (k := 0) rfl) rfl rfl)) ?_
 refine s_val (x_mv (v := v_watches) rfl) ?_
 obtain ⟨r3z, hx2z, hM⟩ := M.e_bind hM
 refine s_call cf31 [.agg #[v_r__Down, v_r__Travel, v_r__Springs, v_r__Towns, I r__Delay_Lo, I r__Delay_Hi, v_r__Floods], v_watches] rfl (zbX r__Down r__Travel r__Springs r__Towns r__Delay_Lo r__Delay_Hi r__Floods watches (hC_r__Down.app _) hs_r__Down (hC_r__Travel.app _) hs_r__Travel (hC_r__Springs.app _) hs_r__Springs (hC_r__Towns.app _) hs_r__Towns (hC_r__Floods.app _) hs_r__Floods (hC_watches.app _) hs_watches hx2z _ (H.gt 1)) ?_
 rintro vq w4z (⟨r1, r2, hr5z, hvq, H2_, hf6z⟩ | ⟨r04, r05, r12, r22, nb0_2, nb1_3, Bs2_4, hr7z, hvq, H2_, hf8z⟩)
 ·subst hr5z
  subst vq
  try dsimp only at hM
  replace H := H.bk H2_
  clear H2_
  refine s_val (x_mv (v := .tuple #[.pointer none, .agg (encB r1).toArray, I r2]) rfl) ?_
  refine s_val (x_ext (vs := [.pointer none, .agg (encB r1).toArray, I r2]) (v := .pointer none) rfl rfl) ?_
  refine s_val (x_ext (vs := [.pointer none, .agg (encB r1).toArray, I r2]) (v := .agg (encB r1).toArray) rfl rfl) ?_
  refine s_val (x_ext (vs := [.pointer none, .agg (encB r1).toArray, I r2]) (v := I r2) rfl rfl) ?_
  refine t_alloc (cs := encB (List.replicate 12 false)) H Al74 rfl ?_
  intro b_5 w9z H
  have hl_b_5 : (List.replicate 12 false).length = 12 := by simp
  refine s_val (x_as (v := .pointer none) rfl) ?_
  refine t_stArrA (k := 0) (b := b_5) (l := List.replicate 12 false) (l' := r1) (L' := [cBlk b_5 (encB r1) 74, cBlk b_1 [v_r__Down, v_r__Travel, v_r__Springs, v_r__Towns, I r__Delay_Lo, I r__Delay_Hi, v_r__Floods] 30]) H rfl rfl rfl Sz74 hl_b_5 hf6z rfl ?_
  intro w10z H
  refine s_val (x_as (v := I r2) rfl) ?_
  refine s_nil ?_
  refine W.seq ?_
  refine W.seq ?_
  refine W.region rfl ?_
  refine s_val (x_mv (v := I r2) rfl) ?_
  refine s_val (x_cmp (kd := .i64) (a := r2) (b := 0) (r := r2 == 0) rfl rfl rfl) ?_
  refine s_val (x_mv (v := B (r2 == 0)) rfl) ?_
  refine g_val (r2 == 0) (gy_t rfl) (fun hg => x_mv (v := I flood) rfl) ?_
  refine g_val (r2 == 0) (gy_t rfl) (fun hg => x_fa (a := .pointer (some ⟨b_1, 0, none⟩)) (v := .pointer (some ⟨b_1, 6, none⟩)) rfl (fa_blk (o := 0) Fd30_5 Sz28)) ?_
  refine g_val (r2 == 0) (gy_t rfl) (fun hg => x_ld (p := .pointer (some ⟨b_1, 6, none⟩)) (v := v_r__Floods) (gd_of (c := r2 == 0) hg (.pointer (some ⟨b_1, 6, none⟩))) (ldb_sc Sc28 (H.blk (k := 1) rfl) rfl)) ?_
  have hl11z := (hs_r__Floods).len_le
  refine g_val (r2 == 0) (gy_t rfl) (fun hg => x_lenS T28.und (gd_of (c := r2 == 0) hg (v_r__Floods)) hs_r__Floods) ?_
  refine g_val (r2 == 0) (gy_t rfl) (fun hg => x_ari (a := (r__Floods.length : Int)) (b := 1) (r := (r__Floods.length : Int) - 1) (gd_of (c := r2 == 0) hg (I (r__Floods.length : Int))) rfl rfl (by first | omega | (have hx_ := hg; simp at hx_; omega))) ?_
  obtain ⟨r3, hx12z, hM⟩ := M.e_bind hM
  refine t_gcall (r2 == 0) (gy_t rfl) cf37 (B r3) (fun _ => [I flood, I 0, I ((r__Floods.length : Int) - 1)]) (fun hg => lst3 (gd_of (c := r2 == 0) hg (I flood)) rfl (gd_of (c := r2 == 0) hg (I ((r__Floods.length : Int) - 1)))) H (fun hg => (zag flood 0 ((r__Floods.length : Int) - 1) (M.e_opt hx12z hg) _ (H.give (A := []) rfl)).mono fun v_ w_ ⟨y_, hr_, hv_, H_⟩ => by subst hr_; exact ⟨hv_, H.via H_⟩) ?_
  intro w13z H
  refine g_val (r2 == 0) (gy_t rfl) (fun hg => x_not (b := r3) (gd_of (c := r2 == 0) hg (B r3))) ?_
  refine s_val (x_pand (b := r2 == 0) (r := !r3) rfl (fun hb => gd_of (c := r2 == 0) (by first | exact hb | (rw [hb]; rfl) | simp_all) (B (!r3))) rfl) ?_
  refine s_nil ?_
  refine W.cond ((r2 == 0) && (!r3)) rfl (fun c14z => ?_) (fun c14z => ?_)
  ·replace hM := M.e_t hM c14z
   refine W.region rfl ?_
   refine s_val (x_as (v := I 2) rfl) ?_
   refine s_nil ?_
   refine W.seq ?_
   refine W.seq ?_
   refine W.region rfl ?_
   refine s_val (x_mv (v := I 2) rfl) ?_
   refine s_val (x_cmp (kd := .i64) (a := 2) (b := 0) (r := (2 : Int) != 0) rfl rfl rfl) ?_
   refine s_nil ?_
   refine W.cond ((2 : Int) != 0) rfl (fun c15z => ?_) (fun c15z => ?_)
   ·skip
    refine W.seq ?_
    refine W.region rfl ?_
    refine s_val (x_mv (v := I 2) rfl) ?_
    refine s_val (x_as (v := I 0) rfl) ?_
    refine s_val (x_as (v := B false) rfl) ?_
    refine s_val (x_as (v := I 2) rfl) ?_
    refine s_nil ?_
    replace H := H.pk []
    refine W.ret ?_
    have hr_ := M.e_pure hM
    exact ⟨_, resE_tmp3 rfl, ⟨0, false, 2, hr_, rfl, H⟩⟩
   skip
   exact absurd c15z (by decide)
  replace hM := M.e_f hM c14z
  refine W.skip ?_
  refine W.seq ?_
  refine W.seq ?_
  refine W.region rfl ?_
  refine s_val (x_mv (v := I r2) rfl) ?_
  refine s_val (x_cmp (kd := .i64) (a := r2) (b := 0) (r := r2 != 0) rfl rfl rfl) ?_
  refine s_nil ?_
  refine W.cond (r2 != 0) rfl (fun c16z => ?_) (fun c16z => ?_)
  ·replace hM := M.e_t hM c16z
   simp only [decide_eq_true_eq, decide_eq_false_iff_not, beq_iff_eq, bne_iff_ne, beq_eq_false_iff_ne, bne_eq_false_iff_eq, ne_eq, Decidable.not_not] at c16z
   refine W.seq ?_
   refine W.region rfl ?_
   refine s_val (x_mv (v := I r2) rfl) ?_
   refine s_val (x_as (v := I 0) rfl) ?_
   refine s_val (x_as (v := B false) rfl) ?_
   refine s_val (x_as (v := I r2) rfl) ?_
   refine s_nil ?_
   replace H := H.pk []
   refine W.ret ?_
   have hr_ := M.e_pure hM
   exact ⟨_, resE_tmp3 rfl, ⟨0, false, r2, hr_, rfl, H⟩⟩
  replace hM := M.e_f hM c16z
  exact (M.e_fail hM).elim
 subst hr7z
 subst vq
 try dsimp only at hM
 replace H := H.bk H2_
 clear H2_
 refine s_val (x_mv (v := .tuple #[.pointer (some ⟨nb0_2, 0, none⟩), .agg (encB r12).toArray, I r22]) rfl) ?_
 refine s_val (x_ext (vs := [.pointer (some ⟨nb0_2, 0, none⟩), .agg (encB r12).toArray, I r22]) (v := .pointer (some ⟨nb0_2, 0, none⟩)) rfl rfl) ?_
 refine s_val (x_ext (vs := [.pointer (some ⟨nb0_2, 0, none⟩), .agg (encB r12).toArray, I r22]) (v := .agg (encB r12).toArray) rfl rfl) ?_
 refine s_val (x_ext (vs := [.pointer (some ⟨nb0_2, 0, none⟩), .agg (encB r12).toArray, I r22]) (v := I r22) rfl rfl) ?_
 refine t_alloc (cs := encB (List.replicate 12 false)) H Al74 rfl ?_
 intro b_5 w17z H
 have hl_b_5 : (List.replicate 12 false).length = 12 := by simp
 refine s_val (x_as (v := .pointer (some ⟨nb0_2, 0, none⟩)) rfl) ?_
 refine t_stArrA (k := 0) (b := b_5) (l := List.replicate 12 false) (l' := r12) (L' := [cBlk b_5 (encB r12) 74, cBlk nb0_2 [v_r__Down, v_r__Travel, v_r__Springs, v_r__Towns, I r04, I r05, v_r__Floods, .map (some nb1_3)] 86, cMem encDm nb1_3 Bs2_4 (zaa r__Down r__Travel r__Springs r__Towns r04 r05 r__Floods), cBlk b_1 [v_r__Down, v_r__Travel, v_r__Springs, v_r__Towns, I r__Delay_Lo, I r__Delay_Hi, v_r__Floods] 30]) H rfl rfl rfl Sz74 hl_b_5 hf8z rfl ?_
 intro w18z H
 refine s_val (x_as (v := I r22) rfl) ?_
 refine s_nil ?_
 refine W.seq ?_
 refine W.seq ?_
 refine W.region rfl ?_
 refine s_val (x_mv (v := I r22) rfl) ?_
 refine s_val (x_cmp (kd := .i64) (a := r22) (b := 0) (r := r22 == 0) rfl rfl rfl) ?_
 refine s_val (x_mv (v := B (r22 == 0)) rfl) ?_
 refine g_val (r22 == 0) (gy_t rfl) (fun hg => x_mv (v := I flood) rfl) ?_
 refine g_val (r22 == 0) (gy_t rfl) (fun hg => x_fa (a := .pointer (some ⟨b_1, 0, none⟩)) (v := .pointer (some ⟨b_1, 6, none⟩)) rfl (fa_blk (o := 0) Fd30_5 Sz28)) ?_
 refine g_val (r22 == 0) (gy_t rfl) (fun hg => x_ld (p := .pointer (some ⟨b_1, 6, none⟩)) (v := v_r__Floods) (gd_of (c := r22 == 0) hg (.pointer (some ⟨b_1, 6, none⟩))) (ldb_sc Sc28 (H.blk (k := 3) rfl) rfl)) ?_
 have hl19z := (hs_r__Floods).len_le
 refine g_val (r22 == 0) (gy_t rfl) (fun hg => x_lenS T28.und (gd_of (c := r22 == 0) hg (v_r__Floods)) hs_r__Floods) ?_
 refine g_val (r22 == 0) (gy_t rfl) (fun hg => x_ari (a := (r__Floods.length : Int)) (b := 1) (r := (r__Floods.length : Int) - 1) (gd_of (c := r22 == 0) hg (I (r__Floods.length : Int))) rfl rfl (by first | omega | (have hx_ := hg; simp at hx_; omega))) ?_
 obtain ⟨r3, hx20z, hM⟩ := M.e_bind hM
 refine t_gcall (r22 == 0) (gy_t rfl) cf37 (B r3) (fun _ => [I flood, I 0, I ((r__Floods.length : Int) - 1)]) (fun hg => lst3 (gd_of (c := r22 == 0) hg (I flood)) rfl (gd_of (c := r22 == 0) hg (I ((r__Floods.length : Int) - 1)))) H (fun hg => (zag flood 0 ((r__Floods.length : Int) - 1) (M.e_opt hx20z hg) _ (H.give (A := []) rfl)).mono fun v_ w_ ⟨y_, hr_, hv_, H_⟩ => by subst hr_; exact ⟨hv_, H.via H_⟩) ?_
 intro w21z H
 refine g_val (r22 == 0) (gy_t rfl) (fun hg => x_not (b := r3) (gd_of (c := r22 == 0) hg (B r3))) ?_
 refine s_val (x_pand (b := r22 == 0) (r := !r3) rfl (fun hb => gd_of (c := r22 == 0) (by first | exact hb | (rw [hb]; rfl) | simp_all) (B (!r3))) rfl) ?_
 refine s_nil ?_
 refine W.cond ((r22 == 0) && (!r3)) rfl (fun c22z => ?_) (fun c22z => ?_)
 ·replace hM := M.e_t hM c22z
  refine W.region rfl ?_
  refine s_val (x_as (v := I 2) rfl) ?_
  refine s_nil ?_
  refine W.seq ?_
  refine W.seq ?_
  refine W.region rfl ?_
  refine s_val (x_mv (v := I 2) rfl) ?_
  refine s_val (x_cmp (kd := .i64) (a := 2) (b := 0) (r := (2 : Int) != 0) rfl rfl rfl) ?_
  refine s_nil ?_
  refine W.cond ((2 : Int) != 0) rfl (fun c23z => ?_) (fun c23z => ?_)
  ·skip
   refine W.seq ?_
   refine W.region rfl ?_
   refine s_val (x_mv (v := I 2) rfl) ?_
   refine s_val (x_as (v := I 0) rfl) ?_
   refine s_val (x_as (v := B false) rfl) ?_
   refine s_val (x_as (v := I 2) rfl) ?_
   refine s_nil ?_
   replace H := H.pk []
   refine W.ret ?_
   have hr_ := M.e_pure hM
   exact ⟨_, resE_tmp3 rfl, ⟨0, false, 2, hr_, rfl, H⟩⟩
  skip
  exact absurd c23z (by decide)
 replace hM := M.e_f hM c22z
 refine W.skip ?_
 refine W.seq ?_
 refine W.seq ?_
 refine W.region rfl ?_
 refine s_val (x_mv (v := I r22) rfl) ?_
 refine s_val (x_cmp (kd := .i64) (a := r22) (b := 0) (r := r22 != 0) rfl rfl rfl) ?_
 refine s_nil ?_
 refine W.cond (r22 != 0) rfl (fun c24z => ?_) (fun c24z => ?_)
 ·replace hM := M.e_t hM c24z
  exact (M.e_fail hM).elim
 replace hM := M.e_f hM c24z
 simp only [decide_eq_true_eq, decide_eq_false_iff_not, beq_iff_eq, bne_iff_ne, beq_eq_false_iff_ne, bne_eq_false_iff_eq, ne_eq, Decidable.not_not] at c24z
 refine W.skip ?_
 refine W.seq ?_
 refine W.drawT (fun W => St w W [cBlk b_5 (encB r12) 74, cBlk nb0_2 [v_r__Down, v_r__Travel, v_r__Springs, v_r__Towns, I r04, I r05, v_r__Floods, .map (some nb1_3)] 86, cMem encDm nb1_3 Bs2_4 (zaa r__Down r__Travel r__Springs r__Towns r04 r05 r__Floods), cBlk b_1 [v_r__Down, v_r__Travel, v_r__Springs, v_r__Towns, I r__Delay_Lo, I r__Delay_Hi, v_r__Floods] 30] R) (.q 0 (.q 1 (.q 2 (.q 3 (.q 4 (.q 5 (.q 6 (.l2 7 (.l 8 (.l 9 .nil)) 8 (.l 7 (.l 9 .nil)))))))))) mixed (by decide +kernel) rfl ?_
 intro w25z hx_
 replace H := H.ext hx_
 clear hx_
 refine ⟨(H.pk [0, 1, 2, 3]), ?_⟩
 refine t_q rfl (fun w' H => x_mv (v := .pointer (some ⟨nb0_2, 0, none⟩)) rfl) ?_
 refine t_q rfl (fun w' H => x_fa (a := .pointer (some ⟨b_1, 0, none⟩)) (v := .pointer (some ⟨b_1, 6, none⟩)) rfl (fa_blk (o := 0) Fd30_5 Sz28)) ?_
 refine t_q rfl (fun w' H => x_ld (p := .pointer (some ⟨b_1, 6, none⟩)) (v := v_r__Floods) rfl (ldb_sc Sc28 (H.blk (k := 3) rfl) rfl)) ?_
 refine t_q rfl (fun w' H => x_mv (v := I flood) rfl) ?_
 obtain ⟨sd26z, hM⟩ := M.e_grd hM
 simp only [Bool.and_eq_true, decide_eq_true_eq] at sd26z
 refine t_q rfl (fun w' H => x_ix (a := v_r__Floods) (b := I flood) (v := vat v_r__Floods 2 (Int.toNat flood)) rfl rfl (Sl.ix (α := Flood) T28.und T28.size hs_r__Floods (by omega) (by omega))) ?_
 obtain ⟨u27z, ha29z, hs28z⟩ := Flood_atA hs_r__Floods (i := flood) (by omega) (by omega)
 replace hs28z : Sl _ u27z (r__Floods.getD (Int.toNat flood) default).stages := hs28z
 have hl_hs28z := hs28z.len_le
 refine t_q rfl (fun w' H => x_ld (p := vat v_r__Floods 2 (Int.toNat flood)) (v := .agg #[I ((r__Floods.getD (Int.toNat flood) default).spring), u27z]) rfl (ld_ag Ag67 Sz67 (At.mono ha29z (hC_r__Floods.at H)))) ?_
 refine t_q rfl (fun w' H => x_ld (p := .pointer (some ⟨b_5, 0, none⟩)) (v := .agg (encB r12).toArray) rfl (ldArrA Ag74 Sz74 hf8z (H.blk (k := 0) rfl))) ?_
 refine t_l2 rfl rfl ?_ ?_
 ·skip
  obtain ⟨r42z, hx41z, hM⟩ := M.e_bind hM
  refine s_call cf34 [.pointer (some ⟨nb0_2, 0, none⟩), .agg #[I ((r__Floods.getD (Int.toNat flood) default).spring), u27z], .agg (encB r12).toArray] rfl (zay r__Down r__Travel r__Springs r__Towns r04 r05 r__Floods (r__Floods.getD (Int.toNat flood) default) r12 (hC_r__Down.app _) hs_r__Down (hC_r__Travel.app _) hs_r__Travel (hC_r__Springs.app _) hs_r__Springs (hC_r__Towns.app _) hs_r__Towns (hC_r__Floods.app _) hs_r__Floods (Has.here (k := 1) rfl) (hC_r__Floods.app _) hs28z hf8z hx41z _ (H.gt 4)) ?_
  rintro vq w43z ⟨r0, r13, r23, hr44z, hvq, H2_⟩
  subst hr44z
  subst vq
  try dsimp only at hM
  replace H := H.bk H2_
  clear H2_
  refine s_nil ⟨(H.pk [0, 1, 2, 3]), ?_⟩
  refine t_l rfl ?_
  refine t_alloc (cs := [I 0, I 0, B false]) H Al79 rfl ?_
  intro b_6 w45z H
  refine s_nil ⟨(H.pk [1, 2, 3, 4]), ?_⟩
  refine t_l rfl ?_
  refine t_sw 0 0 [I r0, I r13, B r23] (.agg #[I r0, I r13, B r23]) H rfl rfl Sz79 rfl rfl rfl rfl ?_
  intro w46z H
  refine s_nil ⟨(H.pk [1, 2, 3, 4]), ?_⟩
  refine t_nil ?_
  replace H := H.pk [0]
  refine W.seq ?_
  refine W.draw (fun W => St w W [cBlk b_6 [I r0, I r13, B r23] 79] R) [(0, true), (1, true), (2, true), (3, true), (4, true), (5, true), (6, true)] mixed (by decide +kernel) rfl ?_
  intro w47z hx_
  replace H := H.ext hx_
  clear hx_
  refine ⟨(H.pk [0]), ?_⟩
  refine d_q rfl (fun w' H => x_fa (a := .pointer (some ⟨b_6, 0, none⟩)) (v := .pointer (some ⟨b_6, 0, none⟩)) rfl (fa_blk (o := 0) Fd79_0 Sz3)) ?_
  refine d_q rfl (fun w' H => x_ld (p := .pointer (some ⟨b_6, 0, none⟩)) (v := I r0) rfl (ldb_sc Sc3 (H.blk (k := 0) rfl) rfl)) ?_
  refine d_q rfl (fun w' H => x_fa (a := .pointer (some ⟨b_6, 0, none⟩)) (v := .pointer (some ⟨b_6, 2, none⟩)) rfl (fa_blk (o := 0) Fd79_2 Sz4)) ?_
  refine d_q rfl (fun w' H => x_ld (p := .pointer (some ⟨b_6, 2, none⟩)) (v := B r23) rfl (ldb_sc Sc4 (H.blk (k := 0) rfl) rfl)) ?_
  refine d_q rfl (fun w' H => x_as (v := I r0) rfl) ?_
  refine d_q rfl (fun w' H => x_as (v := B r23) rfl) ?_
  refine d_q rfl (fun w' H => x_as (v := I 0) rfl) ?_
  refine d_nil ?_
  refine W.ret ?_
  have hr_ := M.e_pure hM
  exact ⟨_, resE_tmp3 rfl, ⟨r0, r23, 0, hr_, rfl, (H.pk [])⟩⟩
 skip
 refine t_alloc (cs := [I 0, I 0, B false]) H Al79 rfl ?_
 intro b_6 w48z H
 refine s_nil ⟨(H.pk [1, 2, 3, 4]), ?_⟩
 refine t_l rfl ?_
 obtain ⟨r50z, hx49z, hM⟩ := M.e_bind hM
 refine s_call cf34 [.pointer (some ⟨nb0_2, 0, none⟩), .agg #[I ((r__Floods.getD (Int.toNat flood) default).spring), u27z], .agg (encB r12).toArray] rfl (zay r__Down r__Travel r__Springs r__Towns r04 r05 r__Floods (r__Floods.getD (Int.toNat flood) default) r12 (hC_r__Down.app _) hs_r__Down (hC_r__Travel.app _) hs_r__Travel (hC_r__Springs.app _) hs_r__Springs (hC_r__Towns.app _) hs_r__Towns (hC_r__Floods.app _) hs_r__Floods (Has.here (k := 2) rfl) (hC_r__Floods.app _) hs28z hf8z hx49z _ (H.gt 5)) ?_
 rintro vq w51z ⟨r0, r13, r23, hr52z, hvq, H2_⟩
 subst hr52z
 subst vq
 try dsimp only at hM
 replace H := H.bk H2_
 clear H2_
 refine s_nil ⟨(H.pk [1, 2, 3, 4]), ?_⟩
 refine t_l rfl ?_
 refine t_sw 0 0 [I r0, I r13, B r23] (.agg #[I r0, I r13, B r23]) H rfl rfl Sz79 rfl rfl rfl rfl ?_
 intro w53z H
 refine s_nil ⟨(H.pk [1, 2, 3, 4]), ?_⟩
 refine t_nil ?_
 replace H := H.pk [0]
 refine W.seq ?_
 refine W.draw (fun W => St w W [cBlk b_6 [I r0, I r13, B r23] 79] R) [(0, true), (1, true), (2, true), (3, true), (4, true), (5, true), (6, true)] mixed (by decide +kernel) rfl ?_
 intro w54z hx_
 replace H := H.ext hx_
 clear hx_
 refine ⟨(H.pk [0]), ?_⟩
 refine d_q rfl (fun w' H => x_fa (a := .pointer (some ⟨b_6, 0, none⟩)) (v := .pointer (some ⟨b_6, 0, none⟩)) rfl (fa_blk (o := 0) Fd79_0 Sz3)) ?_
 refine d_q rfl (fun w' H => x_ld (p := .pointer (some ⟨b_6, 0, none⟩)) (v := I r0) rfl (ldb_sc Sc3 (H.blk (k := 0) rfl) rfl)) ?_
 refine d_q rfl (fun w' H => x_fa (a := .pointer (some ⟨b_6, 0, none⟩)) (v := .pointer (some ⟨b_6, 2, none⟩)) rfl (fa_blk (o := 0) Fd79_2 Sz4)) ?_
 refine d_q rfl (fun w' H => x_ld (p := .pointer (some ⟨b_6, 2, none⟩)) (v := B r23) rfl (ldb_sc Sc4 (H.blk (k := 0) rfl) rfl)) ?_
 refine d_q rfl (fun w' H => x_as (v := I r0) rfl) ?_
 refine d_q rfl (fun w' H => x_as (v := B r23) rfl) ?_
 refine d_q rfl (fun w' H => x_as (v := I 0) rfl) ?_
 refine d_nil ?_
 refine W.ret ?_
 have hr_ := M.e_pure hM
 exact ⟨_, resE_tmp3 rfl, ⟨r0, r23, 0, hr_, rfl, (H.pk [])⟩⟩

def zbn (l : List Int) : M (List Int) :=
  M.grd (decide ((([] : List Int).length + l.length) * 8 <= 140737488355328)) <|
  M.pure l
theorem zcs {R : List Chunk} {C_l : Cells} {v_l : Value} (l : List Int) (hC_l : Reads R C_l) (hs_l : Sl C_l v_l l) {r : (List Int)} (hM : (zbn l).Ends r) (w : World) (H : St w w [] R) : Ret Try.prog 14 #[v_l] w fun v w' => ∃ (y0 : List Int) (u0 : Value), y0 = r /\ v = u0 /\ St w w' [cOwn (α := Int) 3 u0 y0] R := by
 refine ret_of_W Try.func14 rfl rfl rfl ?_
 refine W.seq ?_
 refine W.region rfl ?_
 refine s_val (x_as (v := .slice none 0 0) rfl) ?_
 refine s_nil ?_
 refine W.seq ?_
 refine W.region rfl ?_
 refine s_val (x_as (v := .slice none 0 0) rfl) ?_
 refine s_nil ?_
 refine W.seq ?_
 refine W.region rfl ?_
 refine s_val (x_mv (v := .slice none 0 0) rfl) ?_
 refine s_val (x_mv (v := v_l) rfl) ?_
 replace H := H.nilOwn (α := Int) 3
 obtain ⟨sd1z, hM⟩ := M.e_grd hM
 simp only [Bool.and_eq_true, decide_eq_true_eq] at sd1z
 refine t_app (α := Int) (k := 0) (l := []) (l2 := l) (l' := l) (vy := v_l) T23 rfl H rfl rfl rfl hs_l (hC_l.at H) (List.nil_append _) (by first | omega | (simp only [List.length_nil] at *; omega)) ?_
 intro v2z w3z H
 replace H := H.nf
 refine s_val (x_as (v := v2z) rfl) ?_
 refine s_nil ?_
 refine W.ret ?_
 have hr_ := M.e_pure hM
 exact ⟨_, resE_tmp rfl, ⟨l, v2z, hr_, rfl, H⟩⟩

def zaE (tries : List UInt8) (r0 : List Int) : (Int × Int × Nat × (List Int)) -> M ((Int × Int × Nat × (List Int)) ⊕ (Int × Int × (List Int) × (List Int))) := fun (s, s2, s3, l) =>
  bif decide ((s3 : Int) < (r0.length : Int)) then (
  M.bind (zac tries s s2 3) fun (r7, q12, q22) =>
  bif decide (0 < r7) then (
  M.grd (decide ((l.length + ([(s3 : Int)]).length) * 8 <= 140737488355328)) <|
  M.pure (.inl (q12, q22, s3 + 1, l ++ ([(s3 : Int)]))))
  else (
  M.pure (.inl (q12, q22, s3 + 1, l))))
  else (
  M.pure (.inr (s, s2, l, l)))
def zaM (r0 : List Int) (r12 : List Span) (r22 : List Int) (r3 : List Town) (r4 : Int) (r5 : Int) (r6 : List Flood) (l3 : List Int) (r03 : List Int) : Nat -> M (Nat ⊕ (Unit ⊕ Unit)) := fun i =>
  bif decide ((i : Int) < (r03.length : Int)) then (
  M.grd (decide ((i : Int) < (r03.length : Int))) <|
  M.bind (zaZ r0 r12 r22 r3 r4 r5 r6 l3 (r03.getD i 0)) fun (r04, r16, r26) =>
  bif (((r26 != 0) || (r04 != (-1))) || (!r16)) then (
  M.pure (.inr (.inl ())))
  else (
  M.pure (.inl (i + 1))))
  else (
  M.pure (.inr (.inr ())))
def zaL (r0 : List Int) (r12 : List Span) (r22 : List Int) (r3 : List Town) (r4 : Int) (r5 : Int) (r6 : List Flood) (l3 : List Int) (r15 : List Int) : Nat -> M (Nat ⊕ (Unit ⊕ Unit)) := fun i2 =>
  bif decide ((i2 : Int) < (r15.length : Int)) then (
  M.grd (decide ((i2 : Int) < (r15.length : Int))) <|
  M.bind (zaZ r0 r12 r22 r3 r4 r5 r6 l3 (r15.getD i2 0)) fun (r05, r17, r27) =>
  bif (((r27 != 0) || (r05 == (-1))) || r17) then (
  M.pure (.inr (.inl ())))
  else (
  M.pure (.inl (i2 + 1))))
  else (
  M.pure (.inr (.inr ())))
def zaJ (r14 : List Int) (k : Nat) (r06 : List Int) : (Bool × Nat) -> M ((Bool × Nat) ⊕ Bool) := fun (met, i3) =>
  bif decide ((i3 : Int) < (r06.length : Int)) then (
  M.grd ((!(!met) || (decide ((i3 : Int) < (r06.length : Int))))) <|
  M.pure (.inl ((met || ((r06.getD i3 0) == (r14.getD k 0))), i3 + 1)))
  else (
  M.pure (.inr met))
def zaC (r0 : List Int) (r12 : List Span) (r22 : List Int) (r3 : List Town) (r4 : Int) (r5 : Int) (r6 : List Flood) (l3 : List Int) (r02 : List Int) (r14 : List Int) (r03 : List Int) : Nat -> M (Nat ⊕ (Unit ⊕ Unit)) := fun k =>
  bif decide ((k : Int) < (r02.length : Int)) then (
  M.grd (decide ((k : Int) < (r14.length : Int))) <|
  bif (((r14.getD k 0) == (-1)) != ((r02.getD k 0) == 2001)) then (
  M.pure (.inr (.inl ())))
  else (
  bif (((r14.getD k 0) == (-1)) || (decide (2000 < (r02.getD k 0)))) then (
  M.pure (.inl (k + 1)))
  else (
  M.bind (zbn r02) fun r8 =>
  M.grd (decide ((k : Int) < (r8.length : Int))) <|
  M.grd (decide ((-9223372036854775808 : Int) <= ((r8.getD k 0) + 1)) && decide (((r8.getD k 0) + 1) <= (9223372036854775807 : Int))) <|
  M.bind (zah r0 r12 r22 r3 r4 r5 r6 l3 (r8.set k ((r8.getD k 0) + 1 : Int))) fun (r06, r18, r28) =>
  M.bind (M.iter (zaJ r14 k r06) (false, 0)) fun met2 =>
  bif (((r28 != 0) || (!met2)) || (decide ((r06.length : Int) <= (r03.length : Int)))) then (
  M.pure (.inr (.inl ())))
  else (
  M.pure (.inl (k + 1))))))
  else (
  M.pure (.inr (.inr ())))
def zaQ (tries : List UInt8) : (Int × Int × (List Int) × Nat) -> M ((Int × Int × (List Int) × Nat) ⊕ (Int × Int × (List Int) × (List Int))) := fun (s6, s7, l4, k2) =>
  bif decide ((k2 : Int) < (l4.length : Int)) then (
  M.bind (zac tries s6 s7 4) fun (r10, q13, q23) =>
  bif r10 == 0 then (
  M.bind (zac tries q13 q23 400) fun (r11, q14, q24) =>
  M.grd (decide ((k2 : Int) < (l4.length : Int))) <|
  M.pure (.inl (q14, q24, l4.set k2 (r11 : Int), k2 + 1)))
  else (
  bif r10 == 1 then (
  M.grd (decide ((k2 : Int) < (l4.length : Int))) <|
  M.bind (zac tries q13 q23 30) fun (r19, q15, q25) =>
  M.grd (decide ((-9223372036854775808 : Int) <= ((l4.getD k2 0) - r19)) && decide (((l4.getD k2 0) - r19) <= (9223372036854775807 : Int))) <|
  M.pure (.inl (q15, q25, l4.set k2 (max 0 ((l4.getD k2 0) - r19) : Int), k2 + 1)))
  else (
  M.pure (.inl (q13, q23, l4, k2 + 1)))))
  else (
  M.pure (.inr (s6, s7, l4, l4)))
def zaH (tries : List UInt8) (r0 : List Int) (r12 : List Span) (r22 : List Int) (r3 : List Town) (r4 : Int) (r5 : Int) (r6 : List Flood) (l3 : List Int) (r02 : List Int) (r03 : List Int) (r15 : List Int) : (Int × Int × Nat) -> M ((Int × Int × Nat) ⊕ ((Int × Int) ⊕ (Int × Int))) := fun (s10, s11, n) =>
  bif decide ((n : Int) < 6) then (
  M.bind (zbn r02) fun r9 =>
  M.bind (M.iter (zaQ tries) (s10, s11, r9, 0)) fun (s8, s9, l5, l6) =>
  M.bind (zah r0 r12 r22 r3 r4 r5 r6 l3 l6) fun (r07, r110, r29) =>
  bif (((r29 != 0) || (decide ((r07.length : Int) < (r03.length : Int)))) || (((r07.length : Int) == (r03.length : Int)) && (decide ((r110.length : Int) < (r15.length : Int))))) then (
  M.pure (.inr (.inl (s8, s9))))
  else (
  M.pure (.inl (s8, s9, n + 1))))
  else (
  M.pure (.inr (.inr (s10, s11))))
def zbT (numbers : List UInt8) (tries : List UInt8) : M Bool :=
  M.bind (zbA numbers) fun (r1, r2) =>
  M.bind (zbz numbers r1 r2 12) fun (r0, r12, r22, r3, r4, r5, r6, q1, q2) =>
  M.bind (zbA tries) fun (r13, r23) =>
  M.bind (M.iter (zaE tries r0) (r13, r23, 0, [])) fun (s4, s5, l2, l3) =>
  M.bind (zaS r0 r12 r22 r3 r4 r5 r6 l3) fun (r02, r14, r24) =>
  M.bind (zah r0 r12 r22 r3 r4 r5 r6 l3 r02) fun (r03, r15, r25) =>
  bif ((((r24 != 0) || (r25 != 0)) || ((r02.length : Int) != (l3.length : Int))) || ((r14.length : Int) != (l3.length : Int))) then (
  M.pure false)
  else (
  M.bind (M.iter (zaM r0 r12 r22 r3 r4 r5 r6 l3 r03) 0) fun x_ => match x_ with
  | (.inl (_ : Unit)) => (
  M.pure false)
  | (.inr (_ : Unit)) => (
  M.bind (M.iter (zaL r0 r12 r22 r3 r4 r5 r6 l3 r15) 0) fun x_ => match x_ with
  | (.inl (_ : Unit)) => (
  M.pure false)
  | (.inr (_ : Unit)) => (
  M.bind (M.iter (zaC r0 r12 r22 r3 r4 r5 r6 l3 r02 r14 r03) 0) fun x_ => match x_ with
  | (.inl (_ : Unit)) => (
  M.pure false)
  | (.inr (_ : Unit)) => (
  M.bind (M.iter (zaH tries r0 r12 r22 r3 r4 r5 r6 l3 r02 r03 r15) (s4, s5, 0)) fun x_ => match x_ with
  | (.inl (s12, s13)) => (
  M.pure false)
  | (.inr (s14, s15)) => (
  M.bind (zbW) fun r20 =>
  M.pure r20)))))
theorem zc2 {R : List Chunk} {C_numbers : Cells} {v_numbers : Value} {C_tries : Cells} {v_tries : Value} (numbers : List UInt8) (tries : List UInt8) (hC_numbers : Reads R C_numbers) (hs_numbers : Sl C_numbers v_numbers numbers) (hC_tries : Reads R C_tries) (hs_tries : Sl C_tries v_tries tries) {r : Bool} (hM : (zbT numbers tries).Ends r) (w : World) (H : St w w [] R) : Ret Try.prog 3 #[v_numbers, v_tries] w fun v w' => ∃ (y0 : Bool), y0 = r /\ v = B y0 /\ St w w' [] R := by
 refine ret_of_W Try.func3 rfl rfl rfl ?_
 refine W.seq ?_
 refine W.region rfl ?_
 refine s_val (x_as (v := B false) rfl) ?_
 refine s_nil ?_
 refine W.seq ?_
 refine W.region rfl ?_
 refine s_val (x_mv (v := v_numbers) rfl) ?_
 obtain ⟨r2z, hx1z, hM⟩ := M.e_bind hM
 refine s_call cf9 [v_numbers] rfl (zb8 numbers (hC_numbers.app _) hs_numbers hx1z _ (H.gt 0)) ?_
 rintro vq w3z ⟨r1, r2, nb0_1, hr4z, hvq, H2_⟩
 subst hr4z
 subst vq
 try dsimp only at hM
 replace H := H.bk H2_
 clear H2_
 obtain ⟨r6z, hx5z, hM⟩ := M.e_bind hM
 refine s_call cf8 [.pointer (some ⟨nb0_1, 0, none⟩), I 12] rfl (zc3 numbers r1 r2 12 (hC_numbers.app _) hs_numbers hx5z _ (H.gt 0)) ?_
 rintro vq w7z ⟨r0, r12, r22, r3, r4, r5, r6, q1, q2, u0_2, u1_3, u2_4, u3_5, u4_6, rr5_7, Bs6_8, hr8z, hvq, H2_, hf9z⟩
 subst hr8z
 subst vq
 try dsimp only at hM
 replace H := H.bk H2_
 clear H2_
 refine t_alloc (cs := [.slice none 0 0, .slice none 0 0, .slice none 0 0, .slice none 0 0, I 0, I 0, .slice none 0 0]) H Al30 rfl ?_
 intro b_9 w10z H
 refine t_sw 0 0 [u0_2, u1_3, u2_4, u3_5, I r4, I r5, u4_6] (.agg #[u0_2, u1_3, u2_4, u3_5, I r4, I r5, u4_6]) H rfl rfl Sz30 rfl rfl rfl (by simp only [List.all_cons, List.all_nil, Bool.true_and, Bool.and_true, Sl.oc (ownSl (H.get (k := 1) rfl)), Sl.oc (ownSl (H.get (k := 2) rfl)), Sl.oc (ownSl (H.get (k := 3) rfl)), Sl.oc (ownSl (H.get (k := 4) rfl)), Sl.oc (rowSl rfl (H.get (k := 5) rfl) (roLe _ (H.get (k := 6) rfl)) hf9z)]; try rfl) ?_
 intro w11z H
 refine s_nil ?_
 refine W.seq ?_
 refine W.region rfl ?_
 refine s_val (x_mv (v := v_tries) rfl) ?_
 obtain ⟨r13z, hx12z, hM⟩ := M.e_bind hM
 refine s_call cf9 [v_tries] rfl (zb8 tries (hC_tries.app _) hs_tries hx12z _ (H.gt 8)) ?_
 rintro vq w14z ⟨r13, r23, nb0_10, hr15z, hvq, H2_⟩
 subst hr15z
 subst vq
 try dsimp only at hM
 replace H := H.bk H2_
 clear H2_
 refine s_val (x_as (v := .pointer (some ⟨nb0_10, 0, none⟩)) rfl) ?_
 refine s_nil ?_
 refine W.seq ?_
 refine W.region rfl ?_
 refine s_val (x_as (v := .slice none 0 0) rfl) ?_
 refine s_nil ?_
 refine W.seq ?_
 refine W.seq ?_
 refine W.region rfl ?_
 refine s_val (x_as (v := I 0) rfl) ?_
 refine s_nil ?_
 refine W.block ?_
 replace H := H.nilOwn (α := Int) 3
 obtain ⟨ex16z, hi17z, hk18z⟩ := M.e_bind hM
 obtain ⟨m0_, hi17z⟩ := M.e_iter hi17z
 refine W.loop (fun m σ W => ∃ (s : Int) (s2 : Int) (s3 : Nat) (l : List Int) (v_l : Value) (ρ : Env), σ = upds ρ [(5, .pointer (some ⟨b_9, 0, none⟩)), (6, .pointer (some ⟨nb0_10, 0, none⟩)), (7, v_l), (8, I (s3 : Int))] /\ M.iterN (zaE tries r0) m (s, s2, s3, l) = some ex16z /\ St w W [cOwn (α := Int) 3 v_l l, cBlk nb0_10 [v_tries, I s, I s2] 71, cBlk b_9 [u0_2, u1_3, u2_4, u3_5, I r4, I r5, u4_6] 30, cOwn (α := Int) 3 u0_2 r0, cOwn (α := Span) 27 u1_3 r12, cOwn (α := Int) 3 u2_4 r22, cOwn (α := Town) 54 u3_5 r3, cOwn (α := Raw 1) 67 u4_6 rr5_7, cRo Bs6_8, cBlk nb0_1 [v_numbers, I q1, I q2] 71] R) ?_ ?_
 ·exact ⟨_, r13, r23, 0, [], (.slice none 0 0), _, upds_of _ _ ⟨rfl, rfl, rfl, rfl, trivial⟩, hi17z, H⟩
 rintro m21z σ w19z ⟨s, s2, s3, l, v_l, ρ, rfl, hI20z, H⟩
 obtain ⟨m22z, lt23z, x24z, hM, hN25z⟩ := M.e_iterN hI20z
 simp only [zaE] at hM
 clear hI20z
 refine W.seq ?_
 refine W.seq ?_
 refine W.region rfl ?_
 refine s_val (x_mv (v := I (s3 : Int)) rfl) ?_
 refine s_val (x_fa (a := .pointer (some ⟨b_9, 0, none⟩)) (v := .pointer (some ⟨b_9, 0, none⟩)) rfl (fa_blk (o := 0) Fd30_0 Sz23)) ?_
 refine s_val (x_ld (p := .pointer (some ⟨b_9, 0, none⟩)) (v := u0_2) rfl (ldb_sc Sc23 (H.blk (k := 2) rfl) rfl)) ?_
 have hl26z := ((ownSl (H.get (k := 3) rfl))).len_le
 refine s_val (x_lenS T23.und rfl (ownSl (H.get (k := 3) rfl))) ?_
 refine s_val (x_cmp (kd := .i64) (a := (s3 : Int)) (b := (r0.length : Int)) (r := decide ((s3 : Int) < (r0.length : Int))) rfl rfl rfl) ?_
 refine s_nil ?_
 refine W.cond (decide ((s3 : Int) < (r0.length : Int))) rfl (fun c27z => ?_) (fun c27z => ?_)
 ·replace hM := M.e_t hM c27z
  simp only [decide_eq_true_eq, decide_eq_false_iff_not, beq_iff_eq, bne_iff_ne, beq_eq_false_iff_ne, bne_eq_false_iff_eq, ne_eq, Decidable.not_not] at c27z
  refine W.skip ?_
  refine W.seq ?_
  refine W.block ?_
  refine W.seq ?_
  refine W.region rfl ?_
  refine s_val (x_mv (v := .pointer (some ⟨nb0_10, 0, none⟩)) rfl) ?_
  obtain ⟨r29z, hx28z, hM⟩ := M.e_bind hM
  refine s_call cf10 [.pointer (some ⟨nb0_10, 0, none⟩), I 3] rfl (zab tries s s2 3 (hC_tries.app _) hs_tries hx28z _ ((H.pk [1, 0, 2, 3, 4, 5, 6, 7, 8, 9]).gt 9)) ?_
  rintro vq w30z ⟨r7, q12, q22, hr31z, hvq, H2_⟩
  subst hr31z
  subst vq
  try dsimp only at hM
  replace H := H.pk [1, 0, 2, 3, 4, 5, 6, 7, 8, 9] |>.bk H2_
  clear H2_
  refine s_val (x_cmp (kd := .i64) (a := r7) (b := 0) (r := decide (0 < r7)) rfl rfl rfl) ?_
  refine s_nil ?_
  refine W.cond (decide (0 < r7)) rfl (fun c32z => ?_) (fun c32z => ?_)
  ·replace hM := M.e_t hM c32z
   simp only [decide_eq_true_eq, decide_eq_false_iff_not, beq_iff_eq, bne_iff_ne, beq_eq_false_iff_ne, bne_eq_false_iff_eq, ne_eq, Decidable.not_not] at c32z
   refine W.region rfl ?_
   refine s_val (x_mv (v := v_l) rfl) ?_
   refine s_val (x_mv (v := I (s3 : Int)) rfl) ?_
   refine t_bs (α := Int) T23 [I (s3 : Int)] [(s3 : Int)] H rfl (.cons rfl (Flat.rep_enc _ (s3 : Int)) <| .nil) rfl rfl rfl ?_
   intro v33z w34z H
   obtain ⟨sd35z, hM⟩ := M.e_grd hM
   simp only [Bool.and_eq_true, decide_eq_true_eq] at sd35z
   refine t_app (α := Int) (k := 2) (l := l) (l2 := [(s3 : Int)]) (l' := l ++ ([(s3 : Int)])) (vy := v33z) T23 rfl H rfl rfl rfl (ownSl (H.get (k := 0) rfl)) (ownLe _ (H.get (k := 0) rfl)) (rfl) (by first | omega | (simp only [List.length_nil] at *; omega)) ?_
   intro v36z w37z H
   replace H := H.nf
   refine s_val (x_as (v := v36z) rfl) ?_
   refine s_nil ?_
   refine W.region rfl ?_
   refine s_val (x_mv (v := I (s3 : Int)) rfl) ?_
   refine s_val (x_ari (a := (s3 : Int)) (b := 1) (r := (s3 : Int) + 1) rfl rfl rfl (by omega)) ?_
   refine s_val (x_as (v := I ((s3 : Int) + 1)) rfl) ?_
   refine s_nil ?_
   exact ⟨m22z, lt23z, q12, q22, s3 + 1, l ++ ([(s3 : Int)]), v36z, _, upds_of _ _ ⟨rfl, rfl, rfl, rfl, trivial⟩, M.e_inl hM hN25z, (H.pk [2, 1, 3, 4, 5, 6, 7, 8, 9, 10])⟩
  replace hM := M.e_f hM c32z
  simp only [decide_eq_true_eq, decide_eq_false_iff_not, beq_iff_eq, bne_iff_ne, beq_eq_false_iff_ne, bne_eq_false_iff_eq, ne_eq, Decidable.not_not] at c32z
  refine W.skip ?_
  refine W.region rfl ?_
  refine s_val (x_mv (v := I (s3 : Int)) rfl) ?_
  refine s_val (x_ari (a := (s3 : Int)) (b := 1) (r := (s3 : Int) + 1) rfl rfl rfl (by omega)) ?_
  refine s_val (x_as (v := I ((s3 : Int) + 1)) rfl) ?_
  refine s_nil ?_
  exact ⟨m22z, lt23z, q12, q22, s3 + 1, l, v_l, _, upds_of _ _ ⟨rfl, rfl, rfl, rfl, trivial⟩, M.e_inl hM hN25z, (H.pk [1, 0, 2, 3, 4, 5, 6, 7, 8, 9])⟩
 replace hM := M.e_f hM c27z
 simp only [decide_eq_true_eq, decide_eq_false_iff_not, beq_iff_eq, bne_iff_ne, beq_eq_false_iff_ne, bne_eq_false_iff_eq, ne_eq, Decidable.not_not] at c27z
 refine W.exit ?_
 have hX38z := M.e_inr hM hN25z
 subst hX38z
 replace hM := hk18z
 try dsimp only at hM
 refine W.seq ?_
 refine W.region rfl ?_
 refine s_val (x_ld (p := .pointer (some ⟨b_9, 0, none⟩)) (v := .agg #[u0_2, u1_3, u2_4, u3_5, I r4, I r5, u4_6]) rfl (ldb_ag (ds := [u0_2, u1_3, u2_4, u3_5, I r4, I r5, u4_6]) Ag30 Sz30 (H.blk (k := 2) rfl) rfl rfl)) ?_
 refine s_val (x_mv (v := v_l) rfl) ?_
 obtain ⟨r40z, hx39z, hM⟩ := M.e_bind hM
 refine s_call cf11 [.agg #[u0_2, u1_3, u2_4, u3_5, I r4, I r5, u4_6], v_l] rfl (zbC r0 r12 r22 r3 r4 r5 r6 l (Reads.of (k := 3) rfl ownLe) (ownSl (H.get (k := 3) rfl)) (Reads.of (k := 4) rfl ownLe) (ownSl (H.get (k := 4) rfl)) (Reads.of (k := 5) rfl ownLe) (ownSl (H.get (k := 5) rfl)) (Reads.of (k := 6) rfl ownLe) (ownSl (H.get (k := 6) rfl)) (Reads.sup (Reads.of (k := 7) rfl ownLe) (Reads.of (k := 8) rfl roLe)) (rowSl rfl (H.get (k := 7) rfl) (roLe _ (H.get (k := 8) rfl)) hf9z) (Reads.of (k := 0) rfl ownLe) (ownSl (H.get (k := 0) rfl)) hx39z _ (H.gt 10)) ?_
 rintro vq w41z ⟨r02, r14, r24, u0_14, u1_15, hr42z, hvq, H2_⟩
 subst hr42z
 subst vq
 try dsimp only at hM
 replace H := H.bk H2_
 clear H2_
 refine s_val (x_mv (v := .tuple #[u0_14, u1_15, I r24]) rfl) ?_
 refine s_val (x_ext (vs := [u0_14, u1_15, I r24]) (v := u0_14) rfl rfl) ?_
 refine s_val (x_ext (vs := [u0_14, u1_15, I r24]) (v := u1_15) rfl rfl) ?_
 refine s_val (x_ext (vs := [u0_14, u1_15, I r24]) (v := I r24) rfl rfl) ?_
 refine s_val (x_as (v := u0_14) rfl) ?_
 refine s_val (x_as (v := u1_15) rfl) ?_
 refine s_val (x_as (v := I r24) rfl) ?_
 refine s_nil ?_
 refine W.seq ?_
 refine W.region rfl ?_
 refine s_val (x_ld (p := .pointer (some ⟨b_9, 0, none⟩)) (v := .agg #[u0_2, u1_3, u2_4, u3_5, I r4, I r5, u4_6]) rfl (ldb_ag (ds := [u0_2, u1_3, u2_4, u3_5, I r4, I r5, u4_6]) Ag30 Sz30 (H.blk (k := 4) rfl) rfl rfl)) ?_
 refine s_val (x_mv (v := v_l) rfl) ?_
 refine s_val (x_mv (v := u0_14) rfl) ?_
 obtain ⟨r44z, hx43z, hM⟩ := M.e_bind hM
 refine s_call cf12 [.agg #[u0_2, u1_3, u2_4, u3_5, I r4, I r5, u4_6], v_l, u0_14] rfl (zal r0 r12 r22 r3 r4 r5 r6 l r02 (Reads.of (k := 5) rfl ownLe) (ownSl (H.get (k := 5) rfl)) (Reads.of (k := 6) rfl ownLe) (ownSl (H.get (k := 6) rfl)) (Reads.of (k := 7) rfl ownLe) (ownSl (H.get (k := 7) rfl)) (Reads.of (k := 8) rfl ownLe) (ownSl (H.get (k := 8) rfl)) (Reads.sup (Reads.of (k := 9) rfl ownLe) (Reads.of (k := 10) rfl roLe)) (rowSl rfl (H.get (k := 9) rfl) (roLe _ (H.get (k := 10) rfl)) hf9z) (Reads.of (k := 2) rfl ownLe) (ownSl (H.get (k := 2) rfl)) (Reads.of (k := 0) rfl ownLe) (ownSl (H.get (k := 0) rfl)) hx43z _ (H.gt 12)) ?_
 rintro vq w45z ⟨r03, r15, r25, u0_16, u1_17, hr46z, hvq, H2_⟩
 subst hr46z
 subst vq
 try dsimp only at hM
 replace H := H.bk H2_
 clear H2_
 refine s_val (x_mv (v := .tuple #[u0_16, u1_17, I r25]) rfl) ?_
 refine s_val (x_ext (vs := [u0_16, u1_17, I r25]) (v := u0_16) rfl rfl) ?_
 refine s_val (x_ext (vs := [u0_16, u1_17, I r25]) (v := u1_17) rfl rfl) ?_
 refine s_val (x_ext (vs := [u0_16, u1_17, I r25]) (v := I r25) rfl rfl) ?_
 refine s_val (x_as (v := u0_16) rfl) ?_
 refine s_val (x_as (v := u1_17) rfl) ?_
 refine s_val (x_as (v := I r25) rfl) ?_
 refine s_nil ?_
 refine W.seq ?_
 refine W.seq ?_
 refine W.region rfl ?_
 refine s_val (x_mv (v := I r24) rfl) ?_
 refine s_val (x_cmp (kd := .i64) (a := r24) (b := 0) (r := r24 != 0) rfl rfl rfl) ?_
 refine s_val (x_mv (v := B (r24 != 0)) rfl) ?_
 refine g_val (!(r24 != 0)) (gy_f rfl) (fun hg => x_mv (v := I r25) rfl) ?_
 refine g_val (!(r24 != 0)) (gy_f rfl) (fun hg => x_cmp (kd := .i64) (a := r25) (b := 0) (r := r25 != 0) (gd_of (c := !(r24 != 0)) hg (I r25)) rfl rfl) ?_
 refine s_val (x_por (b := r24 != 0) (r := r25 != 0) rfl rfl (fun hb => gd_of (c := !(r24 != 0)) (by first | exact hb | (rw [hb]; rfl) | simp_all) (B (r25 != 0)))) ?_
 refine s_val (x_mv (v := B ((r24 != 0) || (r25 != 0))) rfl) ?_
 refine g_val (!((r24 != 0) || (r25 != 0))) (gy_f rfl) (fun hg => x_mv (v := u0_14) rfl) ?_
 refine g_val (!((r24 != 0) || (r25 != 0))) (gy_f rfl) (fun hg => x_lenS T23.und (gd_of (c := !((r24 != 0) || (r25 != 0))) hg (u0_14)) (ownSl (H.get (k := 2) rfl))) ?_
 refine g_val (!((r24 != 0) || (r25 != 0))) (gy_f rfl) (fun hg => x_mv (v := v_l) rfl) ?_
 refine g_val (!((r24 != 0) || (r25 != 0))) (gy_f rfl) (fun hg => x_lenS T23.und (gd_of (c := !((r24 != 0) || (r25 != 0))) hg (v_l)) (ownSl (H.get (k := 4) rfl))) ?_
 refine g_val (!((r24 != 0) || (r25 != 0))) (gy_f rfl) (fun hg => x_cmp (kd := .i64) (a := (r02.length : Int)) (b := (l.length : Int)) (r := (r02.length : Int) != (l.length : Int)) (gd_of (c := !((r24 != 0) || (r25 != 0))) hg (I (r02.length : Int))) (gd_of (c := !((r24 != 0) || (r25 != 0))) hg (I (l.length : Int))) rfl) ?_
 refine s_val (x_por (b := ((r24 != 0) || (r25 != 0))) (r := (r02.length : Int) != (l.length : Int)) rfl rfl (fun hb => gd_of (c := !((r24 != 0) || (r25 != 0))) (by first | exact hb | (rw [hb]; rfl) | simp_all) (B ((r02.length : Int) != (l.length : Int))))) ?_
 refine s_val (x_mv (v := B (((r24 != 0) || (r25 != 0)) || ((r02.length : Int) != (l.length : Int)))) rfl) ?_
 refine g_val (!(((r24 != 0) || (r25 != 0)) || ((r02.length : Int) != (l.length : Int)))) (gy_f rfl) (fun hg => x_mv (v := u1_15) rfl) ?_
 refine g_val (!(((r24 != 0) || (r25 != 0)) || ((r02.length : Int) != (l.length : Int)))) (gy_f rfl) (fun hg => x_lenS T23.und (gd_of (c := !(((r24 != 0) || (r25 != 0)) || ((r02.length : Int) != (l.length : Int)))) hg (u1_15)) (ownSl (H.get (k := 3) rfl))) ?_
 refine g_val (!(((r24 != 0) || (r25 != 0)) || ((r02.length : Int) != (l.length : Int)))) (gy_f rfl) (fun hg => x_mv (v := v_l) rfl) ?_
 refine g_val (!(((r24 != 0) || (r25 != 0)) || ((r02.length : Int) != (l.length : Int)))) (gy_f rfl) (fun hg => x_lenS T23.und (gd_of (c := !(((r24 != 0) || (r25 != 0)) || ((r02.length : Int) != (l.length : Int)))) hg (v_l)) (ownSl (H.get (k := 4) rfl))) ?_
 refine g_val (!(((r24 != 0) || (r25 != 0)) || ((r02.length : Int) != (l.length : Int)))) (gy_f rfl) (fun hg => x_cmp (kd := .i64) (a := (r14.length : Int)) (b := (l.length : Int)) (r := (r14.length : Int) != (l.length : Int)) (gd_of (c := !(((r24 != 0) || (r25 != 0)) || ((r02.length : Int) != (l.length : Int)))) hg (I (r14.length : Int))) (gd_of (c := !(((r24 != 0) || (r25 != 0)) || ((r02.length : Int) != (l.length : Int)))) hg (I (l.length : Int))) rfl) ?_
 refine s_val (x_por (b := (((r24 != 0) || (r25 != 0)) || ((r02.length : Int) != (l.length : Int)))) (r := (r14.length : Int) != (l.length : Int)) rfl rfl (fun hb => gd_of (c := !(((r24 != 0) || (r25 != 0)) || ((r02.length : Int) != (l.length : Int)))) (by first | exact hb | (rw [hb]; rfl) | simp_all) (B ((r14.length : Int) != (l.length : Int))))) ?_
 refine s_nil ?_
 refine W.cond ((((r24 != 0) || (r25 != 0)) || ((r02.length : Int) != (l.length : Int))) || ((r14.length : Int) != (l.length : Int))) rfl (fun c51z => ?_) (fun c51z => ?_)
 ·replace hM := M.e_t hM c51z
  refine W.seq ?_
  refine W.region rfl ?_
  refine s_val (x_as (v := B false) rfl) ?_
  refine s_nil ?_
  replace H := H.pk []
  refine W.ret ?_
  have hr_ := M.e_pure hM
  exact ⟨_, resE_tmp rfl, ⟨false, hr_, rfl, H⟩⟩
 replace hM := M.e_f hM c51z
 refine W.skip ?_
 refine W.seq ?_
 refine W.seq ?_
 refine W.region rfl ?_
 refine s_val (x_as (v := I 0) rfl) ?_
 refine s_nil ?_
 refine W.block ?_
 obtain ⟨ex52z, hi53z, hk54z⟩ := M.e_bind hM
 obtain ⟨m0_, hi53z⟩ := M.e_iter hi53z
 refine W.loop (fun m σ W => ∃ (i : Nat) (ρ : Env), σ = upds ρ [(5, .pointer (some ⟨b_9, 0, none⟩)), (6, .pointer (some ⟨nb0_10, 0, none⟩)), (7, v_l), (9, u0_14), (10, u1_15), (12, u0_16), (13, u1_17), (15, I (i : Int))] /\ M.iterN (zaM r0 r12 r22 r3 r4 r5 r6 l r03) m i = some ex52z /\ St w W [cOwn (α := Int) 3 u0_16 r03, cOwn (α := Int) 3 u1_17 r15, cOwn (α := Int) 3 u0_14 r02, cOwn (α := Int) 3 u1_15 r14, cOwn (α := Int) 3 v_l l, cBlk nb0_10 [v_tries, I s, I s2] 71, cBlk b_9 [u0_2, u1_3, u2_4, u3_5, I r4, I r5, u4_6] 30, cOwn (α := Int) 3 u0_2 r0, cOwn (α := Span) 27 u1_3 r12, cOwn (α := Int) 3 u2_4 r22, cOwn (α := Town) 54 u3_5 r3, cOwn (α := Raw 1) 67 u4_6 rr5_7, cRo Bs6_8, cBlk nb0_1 [v_numbers, I q1, I q2] 71] R) ?_ ?_
 ·exact ⟨_, 0, _, upds_of _ _ ⟨rfl, rfl, rfl, rfl, rfl, rfl, rfl, rfl, trivial⟩, hi53z, H⟩
 rintro m57z σ w55z ⟨i, ρ, rfl, hI56z, H⟩
 obtain ⟨m58z, lt59z, x60z, hM, hN61z⟩ := M.e_iterN hI56z
 simp only [zaM] at hM
 clear hI56z
 refine W.seq ?_
 refine W.seq ?_
 refine W.region rfl ?_
 refine s_val (x_mv (v := I (i : Int)) rfl) ?_
 refine s_val (x_mv (v := u0_16) rfl) ?_
 have hl62z := ((ownSl (H.get (k := 0) rfl))).len_le
 refine s_val (x_lenS T23.und rfl (ownSl (H.get (k := 0) rfl))) ?_
 refine s_val (x_cmp (kd := .i64) (a := (i : Int)) (b := (r03.length : Int)) (r := decide ((i : Int) < (r03.length : Int))) rfl rfl rfl) ?_
 refine s_nil ?_
 refine W.cond (decide ((i : Int) < (r03.length : Int))) rfl (fun c63z => ?_) (fun c63z => ?_)
 ·replace hM := M.e_t hM c63z
  simp only [decide_eq_true_eq, decide_eq_false_iff_not, beq_iff_eq, bne_iff_ne, beq_eq_false_iff_ne, bne_eq_false_iff_eq, ne_eq, Decidable.not_not] at c63z
  refine W.skip ?_
  refine W.seq ?_
  refine W.block ?_
  refine W.seq ?_
  refine W.draw (fun W => St w W [cOwn (α := Int) 3 u0_16 r03, cOwn (α := Int) 3 u1_17 r15, cOwn (α := Int) 3 u0_14 r02, cOwn (α := Int) 3 u1_15 r14, cOwn (α := Int) 3 v_l l, cBlk nb0_10 [v_tries, I s, I s2] 71, cBlk b_9 [u0_2, u1_3, u2_4, u3_5, I r4, I r5, u4_6] 30, cOwn (α := Int) 3 u0_2 r0, cOwn (α := Span) 27 u1_3 r12, cOwn (α := Int) 3 u2_4 r22, cOwn (α := Town) 54 u3_5 r3, cOwn (α := Raw 1) 67 u4_6 rr5_7, cRo Bs6_8, cBlk nb0_1 [v_numbers, I q1, I q2] 71] R) [(0, true), (1, true), (2, true), (3, true), (4, true), (5, true), (6, false), (7, true), (8, true), (9, true), (10, true), (11, true), (12, true), (13, true)] mixed (by decide +kernel) rfl ?_
  intro w64z hx_
  replace H := H.ext hx_
  clear hx_
  refine ⟨(H.pk [0, 1, 2, 3, 4, 5, 6, 7, 8, 9, 10, 11, 12, 13]), ?_⟩
  refine d_q rfl (fun w' H => x_ld (p := .pointer (some ⟨b_9, 0, none⟩)) (v := .agg #[u0_2, u1_3, u2_4, u3_5, I r4, I r5, u4_6]) rfl (ldb_ag (ds := [u0_2, u1_3, u2_4, u3_5, I r4, I r5, u4_6]) Ag30 Sz30 (H.blk (k := 6) rfl) rfl rfl)) ?_
  refine d_q rfl (fun w' H => x_mv (v := v_l) rfl) ?_
  refine d_q rfl (fun w' H => x_mv (v := u0_16) rfl) ?_
  refine d_q rfl (fun w' H => x_mv (v := I (i : Int)) rfl) ?_
  obtain ⟨sd65z, hM⟩ := M.e_grd hM
  simp only [Bool.and_eq_true, decide_eq_true_eq] at sd65z
  refine d_q rfl (fun w' H => x_ix (a := u0_16) (b := I (i : Int)) (v := vat u0_16 1 (Int.toNat (i : Int))) rfl rfl (Sl.ix (α := Int) T23.und T23.size (ownSl (H.get (k := 0) rfl)) (by omega) (by omega))) ?_
  refine d_q rfl (fun w' H => x_ld (p := vat u0_16 1 (Int.toNat (i : Int))) (v := I (r03.getD i 0)) rfl (ld_sc Sc3 (At.mono (Int_at (ownSl (H.get (k := 0) rfl)) (i := (i : Int)) (by omega) (by omega)) (ownLe _ (H.get (k := 0) rfl))))) ?_
  refine d_l rfl ?_
  obtain ⟨r67z, hx66z, hM⟩ := M.e_bind hM
  refine s_call cf13 [.agg #[u0_2, u1_3, u2_4, u3_5, I r4, I r5, u4_6], v_l, I (r03.getD i 0)] rfl (zcq r0 r12 r22 r3 r4 r5 r6 l (r03.getD i 0) (Reads.of (k := 7) rfl ownLe) (ownSl (H.get (k := 7) rfl)) (Reads.of (k := 8) rfl ownLe) (ownSl (H.get (k := 8) rfl)) (Reads.of (k := 9) rfl ownLe) (ownSl (H.get (k := 9) rfl)) (Reads.of (k := 10) rfl ownLe) (ownSl (H.get (k := 10) rfl)) (Reads.sup (Reads.of (k := 11) rfl ownLe) (Reads.of (k := 12) rfl roLe)) (rowSl rfl (H.get (k := 11) rfl) (roLe _ (H.get (k := 12) rfl)) hf9z) (Reads.of (k := 4) rfl ownLe) (ownSl (H.get (k := 4) rfl)) hx66z _ (H.gt 14)) ?_
  rintro vq w68z ⟨r04, r16, r26, hr69z, hvq, H2_⟩
  subst hr69z
  subst vq
  try dsimp only at hM
  replace H := H.bk H2_
  clear H2_
  refine s_nil ⟨(H.pk [0, 1, 2, 3, 4, 5, 6, 7, 8, 9, 10, 11, 12, 13]), ?_⟩
  refine d_q rfl (fun w' H => x_mv (v := .tuple #[I r04, B r16, I r26]) rfl) ?_
  refine d_q rfl (fun w' H => x_ext (vs := [I r04, B r16, I r26]) (v := I r04) rfl rfl) ?_
  refine d_q rfl (fun w' H => x_ext (vs := [I r04, B r16, I r26]) (v := B r16) rfl rfl) ?_
  refine d_q rfl (fun w' H => x_ext (vs := [I r04, B r16, I r26]) (v := I r26) rfl rfl) ?_
  refine d_q rfl (fun w' H => x_as (v := I r04) rfl) ?_
  refine d_q rfl (fun w' H => x_as (v := B r16) rfl) ?_
  refine d_q rfl (fun w' H => x_as (v := I r26) rfl) ?_
  refine d_nil ?_
  refine W.seq ?_
  refine W.region rfl ?_
  refine s_val (x_mv (v := I r26) rfl) ?_
  refine s_val (x_cmp (kd := .i64) (a := r26) (b := 0) (r := r26 != 0) rfl rfl rfl) ?_
  refine s_val (x_mv (v := B (r26 != 0)) rfl) ?_
  refine g_val (!(r26 != 0)) (gy_f rfl) (fun hg => x_mv (v := I r04) rfl) ?_
  refine g_val (!(r26 != 0)) (gy_f rfl) (fun hg => x_cmp (kd := .i64) (a := r04) (b := -1) (r := r04 != (-1)) (gd_of (c := !(r26 != 0)) hg (I r04)) rfl rfl) ?_
  refine s_val (x_por (b := r26 != 0) (r := r04 != (-1)) rfl rfl (fun hb => gd_of (c := !(r26 != 0)) (by first | exact hb | (rw [hb]; rfl) | simp_all) (B (r04 != (-1))))) ?_
  refine s_val (x_mv (v := B ((r26 != 0) || (r04 != (-1)))) rfl) ?_
  refine g_val (!((r26 != 0) || (r04 != (-1)))) (gy_f rfl) (fun hg => x_mv (v := B r16) rfl) ?_
  refine g_val (!((r26 != 0) || (r04 != (-1)))) (gy_f rfl) (fun hg => x_not (b := r16) (gd_of (c := !((r26 != 0) || (r04 != (-1)))) hg (B r16))) ?_
  refine s_val (x_por (b := ((r26 != 0) || (r04 != (-1)))) (r := !r16) rfl rfl (fun hb => gd_of (c := !((r26 != 0) || (r04 != (-1)))) (by first | exact hb | (rw [hb]; rfl) | simp_all) (B (!r16)))) ?_
  refine s_nil ?_
  refine W.cond (((r26 != 0) || (r04 != (-1))) || (!r16)) rfl (fun c70z => ?_) (fun c70z => ?_)
  ·replace hM := M.e_t hM c70z
   refine W.seq ?_
   refine W.region rfl ?_
   refine s_val (x_as (v := B false) rfl) ?_
   refine s_nil ?_
   refine W.ret ?_
   have hX71z := M.e_inr hM hN61z
   subst hX71z
   replace hM := hk54z
   try dsimp only at hM
   have hr_ := M.e_pure hM
   exact ⟨_, resE_tmp rfl, ⟨false, hr_, rfl, (H.pk [])⟩⟩
  replace hM := M.e_f hM c70z
  refine W.skip ?_
  refine W.region rfl ?_
  refine s_val (x_mv (v := I (i : Int)) rfl) ?_
  refine s_val (x_ari (a := (i : Int)) (b := 1) (r := (i : Int) + 1) rfl rfl rfl (by omega)) ?_
  refine s_val (x_as (v := I ((i : Int) + 1)) rfl) ?_
  refine s_nil ?_
  exact ⟨m58z, lt59z, i + 1, _, upds_of _ _ ⟨rfl, rfl, rfl, rfl, rfl, rfl, rfl, rfl, trivial⟩, M.e_inl hM hN61z, H⟩
 replace hM := M.e_f hM c63z
 simp only [decide_eq_true_eq, decide_eq_false_iff_not, beq_iff_eq, bne_iff_ne, beq_eq_false_iff_ne, bne_eq_false_iff_eq, ne_eq, Decidable.not_not] at c63z
 refine W.exit ?_
 have hX72z := M.e_inr hM hN61z
 subst hX72z
 replace hM := hk54z
 try dsimp only at hM
 refine W.seq ?_
 refine W.seq ?_
 refine W.region rfl ?_
 refine s_val (x_as (v := I 0) rfl) ?_
 refine s_nil ?_
 refine W.block ?_
 obtain ⟨ex73z, hi74z, hk75z⟩ := M.e_bind hM
 obtain ⟨m0_, hi74z⟩ := M.e_iter hi74z
 refine W.loop (fun m σ W => ∃ (i2 : Nat) (ρ : Env), σ = upds ρ [(5, .pointer (some ⟨b_9, 0, none⟩)), (6, .pointer (some ⟨nb0_10, 0, none⟩)), (7, v_l), (9, u0_14), (10, u1_15), (12, u0_16), (13, u1_17), (19, I (i2 : Int))] /\ M.iterN (zaL r0 r12 r22 r3 r4 r5 r6 l r15) m i2 = some ex73z /\ St w W [cOwn (α := Int) 3 u0_16 r03, cOwn (α := Int) 3 u1_17 r15, cOwn (α := Int) 3 u0_14 r02, cOwn (α := Int) 3 u1_15 r14, cOwn (α := Int) 3 v_l l, cBlk nb0_10 [v_tries, I s, I s2] 71, cBlk b_9 [u0_2, u1_3, u2_4, u3_5, I r4, I r5, u4_6] 30, cOwn (α := Int) 3 u0_2 r0, cOwn (α := Span) 27 u1_3 r12, cOwn (α := Int) 3 u2_4 r22, cOwn (α := Town) 54 u3_5 r3, cOwn (α := Raw 1) 67 u4_6 rr5_7, cRo Bs6_8, cBlk nb0_1 [v_numbers, I q1, I q2] 71] R) ?_ ?_
 ·exact ⟨_, 0, _, upds_of _ _ ⟨rfl, rfl, rfl, rfl, rfl, rfl, rfl, rfl, trivial⟩, hi74z, H⟩
 rintro m78z σ w76z ⟨i2, ρ, rfl, hI77z, H⟩
 obtain ⟨m79z, lt80z, x81z, hM, hN82z⟩ := M.e_iterN hI77z
 simp only [zaL] at hM
 clear hI77z
 refine W.seq ?_
 refine W.seq ?_
 refine W.region rfl ?_
 refine s_val (x_mv (v := I (i2 : Int)) rfl) ?_
 refine s_val (x_mv (v := u1_17) rfl) ?_
 have hl83z := ((ownSl (H.get (k := 1) rfl))).len_le
 refine s_val (x_lenS T23.und rfl (ownSl (H.get (k := 1) rfl))) ?_
 refine s_val (x_cmp (kd := .i64) (a := (i2 : Int)) (b := (r15.length : Int)) (r := decide ((i2 : Int) < (r15.length : Int))) rfl rfl rfl) ?_
 refine s_nil ?_
 refine W.cond (decide ((i2 : Int) < (r15.length : Int))) rfl (fun c84z => ?_) (fun c84z => ?_)
 ·replace hM := M.e_t hM c84z
  simp only [decide_eq_true_eq, decide_eq_false_iff_not, beq_iff_eq, bne_iff_ne, beq_eq_false_iff_ne, bne_eq_false_iff_eq, ne_eq, Decidable.not_not] at c84z
  refine W.skip ?_
  refine W.seq ?_
  refine W.block ?_
  refine W.seq ?_
  refine W.draw (fun W => St w W [cOwn (α := Int) 3 u0_16 r03, cOwn (α := Int) 3 u1_17 r15, cOwn (α := Int) 3 u0_14 r02, cOwn (α := Int) 3 u1_15 r14, cOwn (α := Int) 3 v_l l, cBlk nb0_10 [v_tries, I s, I s2] 71, cBlk b_9 [u0_2, u1_3, u2_4, u3_5, I r4, I r5, u4_6] 30, cOwn (α := Int) 3 u0_2 r0, cOwn (α := Span) 27 u1_3 r12, cOwn (α := Int) 3 u2_4 r22, cOwn (α := Town) 54 u3_5 r3, cOwn (α := Raw 1) 67 u4_6 rr5_7, cRo Bs6_8, cBlk nb0_1 [v_numbers, I q1, I q2] 71] R) [(0, true), (1, true), (2, true), (3, true), (4, true), (5, true), (6, false), (7, true), (8, true), (9, true), (10, true), (11, true), (12, true), (13, true)] mixed (by decide +kernel) rfl ?_
  intro w85z hx_
  replace H := H.ext hx_
  clear hx_
  refine ⟨(H.pk [0, 1, 2, 3, 4, 5, 6, 7, 8, 9, 10, 11, 12, 13]), ?_⟩
  refine d_q rfl (fun w' H => x_ld (p := .pointer (some ⟨b_9, 0, none⟩)) (v := .agg #[u0_2, u1_3, u2_4, u3_5, I r4, I r5, u4_6]) rfl (ldb_ag (ds := [u0_2, u1_3, u2_4, u3_5, I r4, I r5, u4_6]) Ag30 Sz30 (H.blk (k := 6) rfl) rfl rfl)) ?_
  refine d_q rfl (fun w' H => x_mv (v := v_l) rfl) ?_
  refine d_q rfl (fun w' H => x_mv (v := u1_17) rfl) ?_
  refine d_q rfl (fun w' H => x_mv (v := I (i2 : Int)) rfl) ?_
  obtain ⟨sd86z, hM⟩ := M.e_grd hM
  simp only [Bool.and_eq_true, decide_eq_true_eq] at sd86z
  refine d_q rfl (fun w' H => x_ix (a := u1_17) (b := I (i2 : Int)) (v := vat u1_17 1 (Int.toNat (i2 : Int))) rfl rfl (Sl.ix (α := Int) T23.und T23.size (ownSl (H.get (k := 1) rfl)) (by omega) (by omega))) ?_
  refine d_q rfl (fun w' H => x_ld (p := vat u1_17 1 (Int.toNat (i2 : Int))) (v := I (r15.getD i2 0)) rfl (ld_sc Sc3 (At.mono (Int_at (ownSl (H.get (k := 1) rfl)) (i := (i2 : Int)) (by omega) (by omega)) (ownLe _ (H.get (k := 1) rfl))))) ?_
  refine d_l rfl ?_
  obtain ⟨r88z, hx87z, hM⟩ := M.e_bind hM
  refine s_call cf13 [.agg #[u0_2, u1_3, u2_4, u3_5, I r4, I r5, u4_6], v_l, I (r15.getD i2 0)] rfl (zcq r0 r12 r22 r3 r4 r5 r6 l (r15.getD i2 0) (Reads.of (k := 7) rfl ownLe) (ownSl (H.get (k := 7) rfl)) (Reads.of (k := 8) rfl ownLe) (ownSl (H.get (k := 8) rfl)) (Reads.of (k := 9) rfl ownLe) (ownSl (H.get (k := 9) rfl)) (Reads.of (k := 10) rfl ownLe) (ownSl (H.get (k := 10) rfl)) (Reads.sup (Reads.of (k := 11) rfl ownLe) (Reads.of (k := 12) rfl roLe)) (rowSl rfl (H.get (k := 11) rfl) (roLe _ (H.get (k := 12) rfl)) hf9z) (Reads.of (k := 4) rfl ownLe) (ownSl (H.get (k := 4) rfl)) hx87z _ (H.gt 14)) ?_
  rintro vq w89z ⟨r05, r17, r27, hr90z, hvq, H2_⟩
  subst hr90z
  subst vq
  try dsimp only at hM
  replace H := H.bk H2_
  clear H2_
  refine s_nil ⟨(H.pk [0, 1, 2, 3, 4, 5, 6, 7, 8, 9, 10, 11, 12, 13]), ?_⟩
  refine d_q rfl (fun w' H => x_mv (v := .tuple #[I r05, B r17, I r27]) rfl) ?_
  refine d_q rfl (fun w' H => x_ext (vs := [I r05, B r17, I r27]) (v := I r05) rfl rfl) ?_
  refine d_q rfl (fun w' H => x_ext (vs := [I r05, B r17, I r27]) (v := B r17) rfl rfl) ?_
  refine d_q rfl (fun w' H => x_ext (vs := [I r05, B r17, I r27]) (v := I r27) rfl rfl) ?_
  refine d_q rfl (fun w' H => x_as (v := I r05) rfl) ?_
  refine d_q rfl (fun w' H => x_as (v := B r17) rfl) ?_
  refine d_q rfl (fun w' H => x_as (v := I r27) rfl) ?_
  refine d_nil ?_
  refine W.seq ?_
  refine W.region rfl ?_
  refine s_val (x_mv (v := I r27) rfl) ?_
  refine s_val (x_cmp (kd := .i64) (a := r27) (b := 0) (r := r27 != 0) rfl rfl rfl) ?_
  refine s_val (x_mv (v := B (r27 != 0)) rfl) ?_
  refine g_val (!(r27 != 0)) (gy_f rfl) (fun hg => x_mv (v := I r05) rfl) ?_
  refine g_val (!(r27 != 0)) (gy_f rfl) (fun hg => x_cmp (kd := .i64) (a := r05) (b := -1) (r := r05 == (-1)) (gd_of (c := !(r27 != 0)) hg (I r05)) rfl rfl) ?_
  refine s_val (x_por (b := r27 != 0) (r := r05 == (-1)) rfl rfl (fun hb => gd_of (c := !(r27 != 0)) (by first | exact hb | (rw [hb]; rfl) | simp_all) (B (r05 == (-1))))) ?_
  refine s_val (x_mv (v := B ((r27 != 0) || (r05 == (-1)))) rfl) ?_
  refine g_val (!((r27 != 0) || (r05 == (-1)))) (gy_f rfl) (fun hg => x_mv (v := B r17) rfl) ?_
  refine s_val (x_por (b := ((r27 != 0) || (r05 == (-1)))) (r := r17) rfl rfl (fun hb => gd_of (c := !((r27 != 0) || (r05 == (-1)))) (by first | exact hb | (rw [hb]; rfl) | simp_all) (B r17))) ?_
  refine s_nil ?_
  refine W.cond (((r27 != 0) || (r05 == (-1))) || r17) rfl (fun c91z => ?_) (fun c91z => ?_)
  ·replace hM := M.e_t hM c91z
   refine W.seq ?_
   refine W.region rfl ?_
   refine s_val (x_as (v := B false) rfl) ?_
   refine s_nil ?_
   refine W.ret ?_
   have hX92z := M.e_inr hM hN82z
   subst hX92z
   replace hM := hk75z
   try dsimp only at hM
   have hr_ := M.e_pure hM
   exact ⟨_, resE_tmp rfl, ⟨false, hr_, rfl, (H.pk [])⟩⟩
  replace hM := M.e_f hM c91z
  refine W.skip ?_
  refine W.region rfl ?_
  refine s_val (x_mv (v := I (i2 : Int)) rfl) ?_
  refine s_val (x_ari (a := (i2 : Int)) (b := 1) (r := (i2 : Int) + 1) rfl rfl rfl (by omega)) ?_
  refine s_val (x_as (v := I ((i2 : Int) + 1)) rfl) ?_
  refine s_nil ?_
  exact ⟨m79z, lt80z, i2 + 1, _, upds_of _ _ ⟨rfl, rfl, rfl, rfl, rfl, rfl, rfl, rfl, trivial⟩, M.e_inl hM hN82z, H⟩
 replace hM := M.e_f hM c84z
 simp only [decide_eq_true_eq, decide_eq_false_iff_not, beq_iff_eq, bne_iff_ne, beq_eq_false_iff_ne, bne_eq_false_iff_eq, ne_eq, Decidable.not_not] at c84z
 refine W.exit ?_
 have hX93z := M.e_inr hM hN82z
 subst hX93z
 replace hM := hk75z
 try dsimp only at hM
 refine W.seq ?_
 refine W.seq ?_
 refine W.region rfl ?_
 refine s_val (x_as (v := I 0) rfl) ?_
 refine s_nil ?_
 refine W.block ?_
 obtain ⟨ex94z, hi95z, hk96z⟩ := M.e_bind hM
 obtain ⟨m0_, hi95z⟩ := M.e_iter hi95z
 refine W.loop (fun m σ W => ∃ (k : Nat) (ρ : Env), σ = upds ρ [(5, .pointer (some ⟨b_9, 0, none⟩)), (6, .pointer (some ⟨nb0_10, 0, none⟩)), (7, v_l), (9, u0_14), (10, u1_15), (12, u0_16), (13, u1_17), (23, I (k : Int))] /\ M.iterN (zaC r0 r12 r22 r3 r4 r5 r6 l r02 r14 r03) m k = some ex94z /\ St w W [cOwn (α := Int) 3 u0_16 r03, cOwn (α := Int) 3 u1_17 r15, cOwn (α := Int) 3 u0_14 r02, cOwn (α := Int) 3 u1_15 r14, cOwn (α := Int) 3 v_l l, cBlk nb0_10 [v_tries, I s, I s2] 71, cBlk b_9 [u0_2, u1_3, u2_4, u3_5, I r4, I r5, u4_6] 30, cOwn (α := Int) 3 u0_2 r0, cOwn (α := Span) 27 u1_3 r12, cOwn (α := Int) 3 u2_4 r22, cOwn (α := Town) 54 u3_5 r3, cOwn (α := Raw 1) 67 u4_6 rr5_7, cRo Bs6_8, cBlk nb0_1 [v_numbers, I q1, I q2] 71] R) ?_ ?_
 ·exact ⟨_, 0, _, upds_of _ _ ⟨rfl, rfl, rfl, rfl, rfl, rfl, rfl, rfl, trivial⟩, hi95z, H⟩
 rintro m99z σ w97z ⟨k, ρ, rfl, hI98z, H⟩
 obtain ⟨m100z, lt101z, x102z, hM, hN103z⟩ := M.e_iterN hI98z
 simp only [zaC] at hM
 clear hI98z
 refine W.seq ?_
 refine W.seq ?_
 refine W.region rfl ?_
 refine s_val (x_mv (v := I (k : Int)) rfl) ?_
 refine s_val (x_mv (v := u0_14) rfl) ?_
 have hl104z := ((ownSl (H.get (k := 2) rfl))).len_le
 refine s_val (x_lenS T23.und rfl (ownSl (H.get (k := 2) rfl))) ?_
 refine s_val (x_cmp (kd := .i64) (a := (k : Int)) (b := (r02.length : Int)) (r := decide ((k : Int) < (r02.length : Int))) rfl rfl rfl) ?_
 refine s_nil ?_
 refine W.cond (decide ((k : Int) < (r02.length : Int))) rfl (fun c105z => ?_) (fun c105z => ?_)
 ·replace hM := M.e_t hM c105z
  simp only [decide_eq_true_eq, decide_eq_false_iff_not, beq_iff_eq, bne_iff_ne, beq_eq_false_iff_ne, bne_eq_false_iff_eq, ne_eq, Decidable.not_not] at c105z
  refine W.skip ?_
  refine W.seq ?_
  refine W.block ?_
  refine W.seq ?_
  refine W.seq ?_
  refine W.draw (fun W => St w W [cOwn (α := Int) 3 u0_16 r03, cOwn (α := Int) 3 u1_17 r15, cOwn (α := Int) 3 u0_14 r02, cOwn (α := Int) 3 u1_15 r14, cOwn (α := Int) 3 v_l l, cBlk nb0_10 [v_tries, I s, I s2] 71, cBlk b_9 [u0_2, u1_3, u2_4, u3_5, I r4, I r5, u4_6] 30, cOwn (α := Int) 3 u0_2 r0, cOwn (α := Span) 27 u1_3 r12, cOwn (α := Int) 3 u2_4 r22, cOwn (α := Town) 54 u3_5 r3, cOwn (α := Raw 1) 67 u4_6 rr5_7, cRo Bs6_8, cBlk nb0_1 [v_numbers, I q1, I q2] 71] R) [(0, true), (1, true), (2, true), (3, true), (4, true), (5, true), (6, true), (7, true), (8, true), (9, true), (10, true)] mixed (by decide +kernel) rfl ?_
  intro w106z hx_
  replace H := H.ext hx_
  clear hx_
  refine ⟨(H.pk [0, 1, 2, 3, 4, 5, 6, 7, 8, 9, 10, 11, 12, 13]), ?_⟩
  refine d_q rfl (fun w' H => x_mv (v := u1_15) rfl) ?_
  refine d_q rfl (fun w' H => x_mv (v := I (k : Int)) rfl) ?_
  obtain ⟨sd107z, hM⟩ := M.e_grd hM
  simp only [Bool.and_eq_true, decide_eq_true_eq] at sd107z
  refine d_q rfl (fun w' H => x_ix (a := u1_15) (b := I (k : Int)) (v := vat u1_15 1 (Int.toNat (k : Int))) rfl rfl (Sl.ix (α := Int) T23.und T23.size (ownSl (H.get (k := 3) rfl)) (by omega) (by omega))) ?_
  refine d_q rfl (fun w' H => x_ld (p := vat u1_15 1 (Int.toNat (k : Int))) (v := I (r14.getD k 0)) rfl (ld_sc Sc3 (At.mono (Int_at (ownSl (H.get (k := 3) rfl)) (i := (k : Int)) (by omega) (by omega)) (ownLe _ (H.get (k := 3) rfl))))) ?_
  refine d_q rfl (fun w' H => x_cmp (kd := .i64) (a := r14.getD k 0) (b := -1) (r := (r14.getD k 0) == (-1)) rfl rfl rfl) ?_
  refine d_q rfl (fun w' H => x_mv (v := u0_14) rfl) ?_
  refine d_q rfl (fun w' H => x_mv (v := I (k : Int)) rfl) ?_
  refine d_q rfl (fun w' H => x_ix (a := u0_14) (b := I (k : Int)) (v := vat u0_14 1 (Int.toNat (k : Int))) rfl rfl (Sl.ix (α := Int) T23.und T23.size (ownSl (H.get (k := 2) rfl)) (by omega) (by omega))) ?_
  refine d_q rfl (fun w' H => x_ld (p := vat u0_14 1 (Int.toNat (k : Int))) (v := I (r02.getD k 0)) rfl (ld_sc Sc3 (At.mono (Int_at (ownSl (H.get (k := 2) rfl)) (i := (k : Int)) (by omega) (by omega)) (ownLe _ (H.get (k := 2) rfl))))) ?_
  refine d_q rfl (fun w' H => x_cmp (kd := .i64) (a := r02.getD k 0) (b := 2001) (r := (r02.getD k 0) == 2001) rfl rfl rfl) ?_
  refine d_q rfl (fun w' H => x_eqb (a := (r14.getD k 0) == (-1)) (b := (r02.getD k 0) == 2001) (r := (((r14.getD k 0) == (-1)) != ((r02.getD k 0) == 2001))) rfl rfl Try.underlying4 rfl) ?_
  refine d_nil ?_
  refine W.cond (((r14.getD k 0) == (-1)) != ((r02.getD k 0) == 2001)) rfl (fun c108z => ?_) (fun c108z => ?_)
  ·replace hM := M.e_t hM c108z
   simp only [decide_eq_true_eq, decide_eq_false_iff_not, beq_iff_eq, bne_iff_ne, beq_eq_false_iff_ne, bne_eq_false_iff_eq, ne_eq, Decidable.not_not] at c108z
   refine W.seq ?_
   refine W.region rfl ?_
   refine s_val (x_as (v := B false) rfl) ?_
   refine s_nil ?_
   refine W.ret ?_
   have hX109z := M.e_inr hM hN103z
   subst hX109z
   replace hM := hk96z
   try dsimp only at hM
   have hr_ := M.e_pure hM
   exact ⟨_, resE_tmp rfl, ⟨false, hr_, rfl, (H.pk [])⟩⟩
  replace hM := M.e_f hM c108z
  simp only [decide_eq_true_eq, decide_eq_false_iff_not, beq_iff_eq, bne_iff_ne, beq_eq_false_iff_ne, bne_eq_false_iff_eq, ne_eq, Decidable.not_not] at c108z
  refine W.skip ?_
  refine W.seq ?_
  refine W.seq ?_
  refine W.region rfl ?_
  refine s_val (x_mv (v := u1_15) rfl) ?_
  refine s_val (x_mv (v := I (k : Int)) rfl) ?_
  refine s_val (x_ix (a := u1_15) (b := I (k : Int)) (v := vat u1_15 1 (Int.toNat (k : Int))) rfl rfl (Sl.ix (α := Int) T23.und T23.size (ownSl (H.get (k := 3) rfl)) (by omega) (by omega))) ?_
  refine s_val (x_ld (p := vat u1_15 1 (Int.toNat (k : Int))) (v := I (r14.getD k 0)) rfl (ld_sc Sc3 (At.mono (Int_at (ownSl (H.get (k := 3) rfl)) (i := (k : Int)) (by omega) (by omega)) (ownLe _ (H.get (k := 3) rfl))))) ?_
  refine s_val (x_cmp (kd := .i64) (a := r14.getD k 0) (b := -1) (r := (r14.getD k 0) == (-1)) rfl rfl rfl) ?_
  refine s_val (x_mv (v := B ((r14.getD k 0) == (-1))) rfl) ?_
  refine g_val (!((r14.getD k 0) == (-1))) (gy_f rfl) (fun hg => x_mv (v := u0_14) rfl) ?_
  refine g_val (!((r14.getD k 0) == (-1))) (gy_f rfl) (fun hg => x_mv (v := I (k : Int)) rfl) ?_
  refine g_val (!((r14.getD k 0) == (-1))) (gy_f rfl) (fun hg => x_ix (a := u0_14) (b := I (k : Int)) (v := vat u0_14 1 (Int.toNat (k : Int))) (gd_of (c := !((r14.getD k 0) == (-1))) hg (u0_14)) (gd_of (c := !((r14.getD k 0) == (-1))) hg (I (k : Int))) (Sl.ix (α := Int) T23.und T23.size (ownSl (H.get (k := 2) rfl)) (by first | omega | (have hx_ := hg; simp at hx_; omega)) (by first | omega | (have hx_ := hg; simp at hx_; omega)))) ?_
  refine g_val (!((r14.getD k 0) == (-1))) (gy_f rfl) (fun hg => x_ld (p := vat u0_14 1 (Int.toNat (k : Int))) (v := I (r02.getD k 0)) (gd_of (c := !((r14.getD k 0) == (-1))) hg (vat u0_14 1 (Int.toNat (k : Int)))) (ld_sc Sc3 (At.mono (Int_at (ownSl (H.get (k := 2) rfl)) (i := (k : Int)) (by first | omega | (have hx_ := hg; simp at hx_; omega)) (by first | omega | (have hx_ := hg; simp at hx_; omega))) (ownLe _ (H.get (k := 2) rfl))))) ?_
  refine g_val (!((r14.getD k 0) == (-1))) (gy_f rfl) (fun hg => x_cmp (kd := .i64) (a := r02.getD k 0) (b := 2000) (r := decide (2000 < (r02.getD k 0))) (gd_of (c := !((r14.getD k 0) == (-1))) hg (I (r02.getD k 0))) rfl rfl) ?_
  refine s_val (x_por (b := (r14.getD k 0) == (-1)) (r := decide (2000 < (r02.getD k 0))) rfl rfl (fun hb => gd_of (c := !((r14.getD k 0) == (-1))) (by first | exact hb | (rw [hb]; rfl) | simp_all) (B (decide (2000 < (r02.getD k 0)))))) ?_
  refine s_nil ?_
  refine W.cond (((r14.getD k 0) == (-1)) || (decide (2000 < (r02.getD k 0)))) rfl (fun c110z => ?_) (fun c110z => ?_)
  ·replace hM := M.e_t hM c110z
   refine W.exit ?_
   refine W.region rfl ?_
   refine s_val (x_mv (v := I (k : Int)) rfl) ?_
   refine s_val (x_ari (a := (k : Int)) (b := 1) (r := (k : Int) + 1) rfl rfl rfl (by omega)) ?_
   refine s_val (x_as (v := I ((k : Int) + 1)) rfl) ?_
   refine s_nil ?_
   exact ⟨m100z, lt101z, k + 1, _, upds_of _ _ ⟨rfl, rfl, rfl, rfl, rfl, rfl, rfl, rfl, trivial⟩, M.e_inl hM hN103z, H⟩
  replace hM := M.e_f hM c110z
  refine W.skip ?_
  refine W.seq ?_
  refine W.region rfl ?_
  refine s_val (x_mv (v := u0_14) rfl) ?_
  obtain ⟨r112z, hx111z, hM⟩ := M.e_bind hM
  refine s_call cf14 [u0_14] rfl (zcs r02 (Reads.of (k := 2) rfl ownLe) (ownSl (H.get (k := 2) rfl)) hx111z _ (H.gt 14)) ?_
  rintro vq w113z ⟨r8, u0_18, hr114z, hvq, H2_⟩
  subst hr114z
  subst vq
  try dsimp only at hM
  replace H := H.bk H2_
  clear H2_
  refine s_val (x_as (v := u0_18) rfl) ?_
  refine s_nil ?_
  refine W.seq ?_
  refine W.region rfl ?_
  refine s_val (x_mv (v := u0_18) rfl) ?_
  refine s_val (x_mv (v := I (k : Int)) rfl) ?_
  obtain ⟨sd115z, hM⟩ := M.e_grd hM
  simp only [Bool.and_eq_true, decide_eq_true_eq] at sd115z
  refine s_val (x_ix (a := u0_18) (b := I (k : Int)) (v := vat u0_18 1 (Int.toNat (k : Int))) rfl rfl (Sl.ix (α := Int) T23.und T23.size (ownSl (H.get (k := 0) rfl)) (by omega) (by omega))) ?_
  refine s_val (x_ld (p := vat u0_18 1 (Int.toNat (k : Int))) (v := I (r8.getD k 0)) rfl (ld_sc Sc3 (At.mono (Int_at (ownSl (H.get (k := 0) rfl)) (i := (k : Int)) (by omega) (by omega)) (ownLe _ (H.get (k := 0) rfl))))) ?_
  obtain ⟨sd116z, hM⟩ := M.e_grd hM
  simp only [Bool.and_eq_true, decide_eq_true_eq] at sd116z
  refine s_val (x_ari (a := r8.getD k 0) (b := 1) (r := (r8.getD k 0) + 1) rfl rfl rfl (by omega)) ?_
  refine s_val (x_ix (a := u0_18) (b := I (k : Int)) (v := vat u0_18 1 (Int.toNat (k : Int))) rfl rfl (Sl.ix (α := Int) T23.und T23.size (ownSl (H.get (k := 0) rfl)) (by omega) (by omega))) ?_
  refine t_ost (k := 0) (i := (k : Int)) (l := r8) (l' := r8.set k ((r8.getD k 0) + 1 : Int)) (val := I ((r8.getD k 0) + 1)) (L' := [cOwn (α := Int) 3 u0_18 (r8.set k ((r8.getD k 0) + 1 : Int)), cOwn (α := Int) 3 u0_16 r03, cOwn (α := Int) 3 u1_17 r15, cOwn (α := Int) 3 u0_14 r02, cOwn (α := Int) 3 u1_15 r14, cOwn (α := Int) 3 v_l l, cBlk nb0_10 [v_tries, I s, I s2] 71, cBlk b_9 [u0_2, u1_3, u2_4, u3_5, I r4, I r5, u4_6] 30, cOwn (α := Int) 3 u0_2 r0, cOwn (α := Span) 27 u1_3 r12, cOwn (α := Int) 3 u2_4 r22, cOwn (α := Town) 54 u3_5 r3, cOwn (α := Raw 1) 67 u4_6 rr5_7, cRo Bs6_8, cBlk nb0_1 [v_numbers, I q1, I q2] 71]) H rfl Sz3 (by omega) (by omega) ((r8.getD k 0) + 1 : Int) rfl rfl rfl rfl rfl ?_
  intro w117z H
  refine s_nil ?_
  refine W.seq ?_
  refine W.region rfl ?_
  refine s_val (x_ld (p := .pointer (some ⟨b_9, 0, none⟩)) (v := .agg #[u0_2, u1_3, u2_4, u3_5, I r4, I r5, u4_6]) rfl (ldb_ag (ds := [u0_2, u1_3, u2_4, u3_5, I r4, I r5, u4_6]) Ag30 Sz30 (H.blk (k := 7) rfl) rfl rfl)) ?_
  refine s_val (x_mv (v := v_l) rfl) ?_
  refine s_val (x_mv (v := u0_18) rfl) ?_
  obtain ⟨r119z, hx118z, hM⟩ := M.e_bind hM
  refine s_call cf12 [.agg #[u0_2, u1_3, u2_4, u3_5, I r4, I r5, u4_6], v_l, u0_18] rfl (zal r0 r12 r22 r3 r4 r5 r6 l (r8.set k ((r8.getD k 0) + 1 : Int)) (Reads.of (k := 8) rfl ownLe) (ownSl (H.get (k := 8) rfl)) (Reads.of (k := 9) rfl ownLe) (ownSl (H.get (k := 9) rfl)) (Reads.of (k := 10) rfl ownLe) (ownSl (H.get (k := 10) rfl)) (Reads.of (k := 11) rfl ownLe) (ownSl (H.get (k := 11) rfl)) (Reads.sup (Reads.of (k := 12) rfl ownLe) (Reads.of (k := 13) rfl roLe)) (rowSl rfl (H.get (k := 12) rfl) (roLe _ (H.get (k := 13) rfl)) hf9z) (Reads.of (k := 5) rfl ownLe) (ownSl (H.get (k := 5) rfl)) (Reads.of (k := 0) rfl ownLe) (ownSl (H.get (k := 0) rfl)) hx118z _ (H.gt 15)) ?_
  rintro vq w120z ⟨r06, r18, r28, u0_19, u1_20, hr121z, hvq, H2_⟩
  subst hr121z
  subst vq
  try dsimp only at hM
  replace H := H.bk H2_
  clear H2_
  refine s_val (x_mv (v := .tuple #[u0_19, u1_20, I r28]) rfl) ?_
  refine s_val (x_ext (vs := [u0_19, u1_20, I r28]) (v := u0_19) rfl rfl) ?_
  refine s_val (x_ext (vs := [u0_19, u1_20, I r28]) (v := u1_20) rfl rfl) ?_
  refine s_val (x_ext (vs := [u0_19, u1_20, I r28]) (v := I r28) rfl rfl) ?_
  refine s_val (x_as (v := u0_19) rfl) ?_
  refine s_val (x_as (v := u1_20) rfl) ?_
  refine s_val (x_as (v := I r28) rfl) ?_
  refine s_nil ?_
  replace H := H.pk [0, 3, 4, 5, 6, 7, 8, 9, 10, 11, 12, 13, 14, 15, 16]
  refine W.seq ?_
  refine W.region rfl ?_
  refine s_val (x_as (v := B false) rfl) ?_
  refine s_nil ?_
  refine W.seq ?_
  refine W.seq ?_
  refine W.region rfl ?_
  refine s_val (x_as (v := I 0) rfl) ?_
  refine s_nil ?_
  refine W.block ?_
  obtain ⟨ex122z, hi123z, hk124z⟩ := M.e_bind hM
  obtain ⟨m0_, hi123z⟩ := M.e_iter hi123z
  refine W.loop (fun m σ W => ∃ (met : Bool) (i3 : Nat) (ρ : Env), σ = upds ρ [(5, .pointer (some ⟨b_9, 0, none⟩)), (6, .pointer (some ⟨nb0_10, 0, none⟩)), (7, v_l), (9, u0_14), (10, u1_15), (12, u0_16), (13, u1_17), (23, I (k : Int)), (25, u0_19), (27, I r28), (28, B met), (29, I (i3 : Int)), (166, gd (!((r14.getD k 0) == (-1))) u0_14), (167, gd (!((r14.getD k 0) == (-1))) (I (k : Int))), (168, gd (!((r14.getD k 0) == (-1))) (vat u0_14 1 (Int.toNat (k : Int)))), (169, gd (!((r14.getD k 0) == (-1))) (I (r02.getD k 0))), (170, gd (!((r14.getD k 0) == (-1))) (B (decide (2000 < (r02.getD k 0)))))] /\ M.iterN (zaJ r14 k r06) m (met, i3) = some ex122z /\ St w W [cOwn (α := Int) 3 u0_19 r06, cOwn (α := Int) 3 u0_16 r03, cOwn (α := Int) 3 u1_17 r15, cOwn (α := Int) 3 u0_14 r02, cOwn (α := Int) 3 u1_15 r14, cOwn (α := Int) 3 v_l l, cBlk nb0_10 [v_tries, I s, I s2] 71, cBlk b_9 [u0_2, u1_3, u2_4, u3_5, I r4, I r5, u4_6] 30, cOwn (α := Int) 3 u0_2 r0, cOwn (α := Span) 27 u1_3 r12, cOwn (α := Int) 3 u2_4 r22, cOwn (α := Town) 54 u3_5 r3, cOwn (α := Raw 1) 67 u4_6 rr5_7, cRo Bs6_8, cBlk nb0_1 [v_numbers, I q1, I q2] 71] R) ?_ ?_
  ·exact ⟨_, false, 0, _, upds_of _ _ ⟨rfl, rfl, rfl, rfl, rfl, rfl, rfl, rfl, rfl, rfl, rfl, rfl, rfl, rfl, rfl, rfl, rfl, trivial⟩, hi123z, H⟩
  rintro m127z σ w125z ⟨met, i3, ρ, rfl, hI126z, H⟩
  obtain ⟨m128z, lt129z, x130z, hM, hN131z⟩ := M.e_iterN hI126z
  simp only [zaJ] at hM
  clear hI126z
  refine W.seq ?_
  refine W.seq ?_
  refine W.region rfl ?_
  refine s_val (x_mv (v := I (i3 : Int)) rfl) ?_
  refine s_val (x_mv (v := u0_19) rfl) ?_
  have hl132z := ((ownSl (H.get (k := 0) rfl))).len_le
  refine s_val (x_lenS T23.und rfl (ownSl (H.get (k := 0) rfl))) ?_
  refine s_val (x_cmp (kd := .i64) (a := (i3 : Int)) (b := (r06.length : Int)) (r := decide ((i3 : Int) < (r06.length : Int))) rfl rfl rfl) ?_
  refine s_nil ?_
  refine W.cond (decide ((i3 : Int) < (r06.length : Int))) rfl (fun c133z => ?_) (fun c133z => ?_)
  ·replace hM := M.e_t hM c133z
   simp only [decide_eq_true_eq, decide_eq_false_iff_not, beq_iff_eq, bne_iff_ne, beq_eq_false_iff_ne, bne_eq_false_iff_eq, ne_eq, Decidable.not_not] at c133z
   refine W.skip ?_
   refine W.seq ?_
   refine W.block ?_
   refine W.draw (fun W => St w W [cOwn (α := Int) 3 u0_19 r06, cOwn (α := Int) 3 u0_16 r03, cOwn (α := Int) 3 u1_17 r15, cOwn (α := Int) 3 u0_14 r02, cOwn (α := Int) 3 u1_15 r14, cOwn (α := Int) 3 v_l l, cBlk nb0_10 [v_tries, I s, I s2] 71, cBlk b_9 [u0_2, u1_3, u2_4, u3_5, I r4, I r5, u4_6] 30, cOwn (α := Int) 3 u0_2 r0, cOwn (α := Span) 27 u1_3 r12, cOwn (α := Int) 3 u2_4 r22, cOwn (α := Town) 54 u3_5 r3, cOwn (α := Raw 1) 67 u4_6 rr5_7, cRo Bs6_8, cBlk nb0_1 [v_numbers, I q1, I q2] 71] R) [(0, true), (1, true), (2, true), (3, true), (4, true), (5, true), (6, true), (7, true), (8, true), (9, true), (10, true), (11, true), (12, true)] mixed (by decide +kernel) rfl ?_
   intro w134z hx_
   replace H := H.ext hx_
   clear hx_
   refine ⟨(H.pk [0, 1, 2, 3, 4, 5, 6, 7, 8, 9, 10, 11, 12, 13, 14]), ?_⟩
   refine d_q rfl (fun w' H => x_mv (v := B met) rfl) ?_
   refine d_q rfl (fun w' H => x_mv (v := B met) rfl) ?_
   refine d_qg (!met) rfl (gy_f rfl) (fun hg => (fun w' H => x_mv (v := u0_19) rfl)) ?_
   refine d_qg (!met) rfl (gy_f rfl) (fun hg => (fun w' H => x_mv (v := I (i3 : Int)) rfl)) ?_
   obtain ⟨sd135z, hM⟩ := M.e_grd hM
   replace sd135z := M.imp_of sd135z
   simp only [Bool.and_eq_true, decide_eq_true_eq] at sd135z
   refine d_qg (!met) rfl (gy_f rfl) (fun hg => (fun w' H => x_ix (a := u0_19) (b := I (i3 : Int)) (v := vat u0_19 1 (Int.toNat (i3 : Int))) (gd_of (c := !met) hg (u0_19)) (gd_of (c := !met) hg (I (i3 : Int))) (Sl.ix (α := Int) T23.und T23.size (ownSl (H.get (k := 0) rfl)) (by have h1_ := sd135z.resolve_left (by rw [hg]; decide); first | exact h1_ | exact h1_.1 | exact h1_.2 | omega | (have hx_ := hg; simp at hx_; omega)) (by have h1_ := sd135z.resolve_left (by rw [hg]; decide); first | exact h1_ | exact h1_.1 | exact h1_.2 | omega | (have hx_ := hg; simp at hx_; omega))))) ?_
   refine d_qg (!met) rfl (gy_f rfl) (fun hg => (fun w' H => x_ld (p := vat u0_19 1 (Int.toNat (i3 : Int))) (v := I (r06.getD i3 0)) (gd_of (c := !met) hg (vat u0_19 1 (Int.toNat (i3 : Int)))) (ld_sc Sc3 (At.mono (Int_at (ownSl (H.get (k := 0) rfl)) (i := (i3 : Int)) (by have h1_ := sd135z.resolve_left (by rw [hg]; decide); first | exact h1_ | exact h1_.1 | exact h1_.2 | omega | (have hx_ := hg; simp at hx_; omega)) (by have h1_ := sd135z.resolve_left (by rw [hg]; decide); first | exact h1_ | exact h1_.1 | exact h1_.2 | omega | (have hx_ := hg; simp at hx_; omega))) (ownLe _ (H.get (k := 0) rfl)))))) ?_
   refine d_qg (!met) rfl (gy_f rfl) (fun hg => (fun w' H => x_mv (v := u1_15) rfl)) ?_
   refine d_qg (!met) rfl (gy_f rfl) (fun hg => (fun w' H => x_mv (v := I (k : Int)) rfl)) ?_
   refine d_qg (!met) rfl (gy_f rfl) (fun hg => (fun w' H => x_ix (a := u1_15) (b := I (k : Int)) (v := vat u1_15 1 (Int.toNat (k : Int))) (gd_of (c := !met) hg (u1_15)) (gd_of (c := !met) hg (I (k : Int))) (Sl.ix (α := Int) T23.und T23.size (ownSl (H.get (k := 4) rfl)) (by have h1_ := sd135z.resolve_left (by rw [hg]; decide); first | exact h1_ | exact h1_.1 | exact h1_.2 | omega | (have hx_ := hg; simp at hx_; omega)) (by have h1_ := sd135z.resolve_left (by rw [hg]; decide); first | exact h1_ | exact h1_.1 | exact h1_.2 | omega | (have hx_ := hg; simp at hx_; omega))))) ?_
   refine d_qg (!met) rfl (gy_f rfl) (fun hg => (fun w' H => x_ld (p := vat u1_15 1 (Int.toNat (k : Int))) (v := I (r14.getD k 0)) (gd_of (c := !met) hg (vat u1_15 1 (Int.toNat (k : Int)))) (ld_sc Sc3 (At.mono (Int_at (ownSl (H.get (k := 4) rfl)) (i := (k : Int)) (by have h1_ := sd135z.resolve_left (by rw [hg]; decide); first | exact h1_ | exact h1_.1 | exact h1_.2 | omega | (have hx_ := hg; simp at hx_; omega)) (by have h1_ := sd135z.resolve_left (by rw [hg]; decide); first | exact h1_ | exact h1_.1 | exact h1_.2 | omega | (have hx_ := hg; simp at hx_; omega))) (ownLe _ (H.get (k := 4) rfl)))))) ?_
   refine d_qg (!met) rfl (gy_f rfl) (fun hg => (fun w' H => x_cmp (kd := .i64) (a := r06.getD i3 0) (b := r14.getD k 0) (r := (r06.getD i3 0) == (r14.getD k 0)) (gd_of (c := !met) hg (I (r06.getD i3 0))) (gd_of (c := !met) hg (I (r14.getD k 0))) rfl)) ?_
   refine d_q rfl (fun w' H => x_por (b := met) (r := (r06.getD i3 0) == (r14.getD k 0)) rfl rfl (fun hb => gd_of (c := !met) (by first | exact hb | (rw [hb]; rfl) | simp_all) (B ((r06.getD i3 0) == (r14.getD k 0))))) ?_
   refine d_q rfl (fun w' H => x_as (v := B (met || ((r06.getD i3 0) == (r14.getD k 0)))) rfl) ?_
   refine d_nil ?_
   refine W.region rfl ?_
   refine s_val (x_mv (v := I (i3 : Int)) rfl) ?_
   refine s_val (x_ari (a := (i3 : Int)) (b := 1) (r := (i3 : Int) + 1) rfl rfl rfl (by omega)) ?_
   refine s_val (x_as (v := I ((i3 : Int) + 1)) rfl) ?_
   refine s_nil ?_
   exact ⟨m128z, lt129z, (met || ((r06.getD i3 0) == (r14.getD k 0))), i3 + 1, _, upds_of _ _ ⟨rfl, rfl, rfl, rfl, rfl, rfl, rfl, rfl, rfl, rfl, rfl, rfl, rfl, rfl, rfl, rfl, rfl, trivial⟩, M.e_inl hM hN131z, H⟩
  replace hM := M.e_f hM c133z
  simp only [decide_eq_true_eq, decide_eq_false_iff_not, beq_iff_eq, bne_iff_ne, beq_eq_false_iff_ne, bne_eq_false_iff_eq, ne_eq, Decidable.not_not] at c133z
  refine W.exit ?_
  have hX136z := M.e_inr hM hN131z
  subst hX136z
  replace hM := hk124z
  try dsimp only at hM
  refine W.seq ?_
  refine W.region rfl ?_
  refine s_val (x_mv (v := I r28) rfl) ?_
  refine s_val (x_cmp (kd := .i64) (a := r28) (b := 0) (r := r28 != 0) rfl rfl rfl) ?_
  refine s_val (x_mv (v := B (r28 != 0)) rfl) ?_
  refine g_val (!(r28 != 0)) (gy_f rfl) (fun hg => x_mv (v := B met) rfl) ?_
  refine g_val (!(r28 != 0)) (gy_f rfl) (fun hg => x_not (b := met) (gd_of (c := !(r28 != 0)) hg (B met))) ?_
  refine s_val (x_por (b := r28 != 0) (r := !met) rfl rfl (fun hb => gd_of (c := !(r28 != 0)) (by first | exact hb | (rw [hb]; rfl) | simp_all) (B (!met)))) ?_
  refine s_val (x_mv (v := B ((r28 != 0) || (!met))) rfl) ?_
  refine g_val (!((r28 != 0) || (!met))) (gy_f rfl) (fun hg => x_mv (v := u0_19) rfl) ?_
  refine g_val (!((r28 != 0) || (!met))) (gy_f rfl) (fun hg => x_lenS T23.und (gd_of (c := !((r28 != 0) || (!met))) hg (u0_19)) (ownSl (H.get (k := 0) rfl))) ?_
  refine g_val (!((r28 != 0) || (!met))) (gy_f rfl) (fun hg => x_mv (v := u0_16) rfl) ?_
  refine g_val (!((r28 != 0) || (!met))) (gy_f rfl) (fun hg => x_lenS T23.und (gd_of (c := !((r28 != 0) || (!met))) hg (u0_16)) (ownSl (H.get (k := 1) rfl))) ?_
  refine g_val (!((r28 != 0) || (!met))) (gy_f rfl) (fun hg => x_cmp (kd := .i64) (a := (r06.length : Int)) (b := (r03.length : Int)) (r := decide ((r06.length : Int) <= (r03.length : Int))) (gd_of (c := !((r28 != 0) || (!met))) hg (I (r06.length : Int))) (gd_of (c := !((r28 != 0) || (!met))) hg (I (r03.length : Int))) rfl) ?_
  refine s_val (x_por (b := ((r28 != 0) || (!met))) (r := decide ((r06.length : Int) <= (r03.length : Int))) rfl rfl (fun hb => gd_of (c := !((r28 != 0) || (!met))) (by first | exact hb | (rw [hb]; rfl) | simp_all) (B (decide ((r06.length : Int) <= (r03.length : Int)))))) ?_
  refine s_nil ?_
  refine W.cond (((r28 != 0) || (!met)) || (decide ((r06.length : Int) <= (r03.length : Int)))) rfl (fun c139z => ?_) (fun c139z => ?_)
  ·replace hM := M.e_t hM c139z
   refine W.seq ?_
   refine W.region rfl ?_
   refine s_val (x_as (v := B false) rfl) ?_
   refine s_nil ?_
   refine W.ret ?_
   have hX140z := M.e_inr hM hN103z
   subst hX140z
   replace hM := hk96z
   try dsimp only at hM
   have hr_ := M.e_pure hM
   exact ⟨_, resE_tmp rfl, ⟨false, hr_, rfl, (H.pk [])⟩⟩
  replace hM := M.e_f hM c139z
  refine W.skip ?_
  refine W.region rfl ?_
  refine s_val (x_mv (v := I (k : Int)) rfl) ?_
  refine s_val (x_ari (a := (k : Int)) (b := 1) (r := (k : Int) + 1) rfl rfl rfl (by omega)) ?_
  refine s_val (x_as (v := I ((k : Int) + 1)) rfl) ?_
  refine s_nil ?_
  exact ⟨m100z, lt101z, k + 1, _, upds_of _ _ ⟨rfl, rfl, rfl, rfl, rfl, rfl, rfl, rfl, trivial⟩, M.e_inl hM hN103z, (H.pk [1, 2, 3, 4, 5, 6, 7, 8, 9, 10, 11, 12, 13, 14])⟩
 replace hM := M.e_f hM c105z
 simp only [decide_eq_true_eq, decide_eq_false_iff_not, beq_iff_eq, bne_iff_ne, beq_eq_false_iff_ne, bne_eq_false_iff_eq, ne_eq, Decidable.not_not] at c105z
 refine W.exit ?_
 have hX141z := M.e_inr hM hN103z
 subst hX141z
 replace hM := hk96z
 try dsimp only at hM
 replace H := H.pk [0, 1, 2, 4, 5, 6, 7, 8, 9, 10, 11, 12]
 refine W.seq ?_
 refine W.seq ?_
 refine W.region rfl ?_
 refine s_val (x_as (v := I 0) rfl) ?_
 refine s_nil ?_
 refine W.block ?_
 obtain ⟨ex142z, hi143z, hk144z⟩ := M.e_bind hM
 obtain ⟨m0_, hi143z⟩ := M.e_iter hi143z
 refine W.loop (fun m σ W => ∃ (s10 : Int) (s11 : Int) (n : Nat) (ρ : Env), σ = upds ρ [(5, .pointer (some ⟨b_9, 0, none⟩)), (6, .pointer (some ⟨nb0_10, 0, none⟩)), (7, v_l), (9, u0_14), (12, u0_16), (13, u1_17), (30, I (n : Int))] /\ M.iterN (zaH tries r0 r12 r22 r3 r4 r5 r6 l r02 r03 r15) m (s10, s11, n) = some ex142z /\ St w W [cOwn (α := Int) 3 u0_16 r03, cOwn (α := Int) 3 u1_17 r15, cOwn (α := Int) 3 u0_14 r02, cOwn (α := Int) 3 v_l l, cBlk nb0_10 [v_tries, I s10, I s11] 71, cBlk b_9 [u0_2, u1_3, u2_4, u3_5, I r4, I r5, u4_6] 30, cOwn (α := Int) 3 u0_2 r0, cOwn (α := Span) 27 u1_3 r12, cOwn (α := Int) 3 u2_4 r22, cOwn (α := Town) 54 u3_5 r3, cOwn (α := Raw 1) 67 u4_6 rr5_7, cRo Bs6_8] R) ?_ ?_
 ·exact ⟨_, s, s2, 0, _, upds_of _ _ ⟨rfl, rfl, rfl, rfl, rfl, rfl, rfl, trivial⟩, hi143z, H⟩
 rintro m147z σ w145z ⟨s10, s11, n, ρ, rfl, hI146z, H⟩
 obtain ⟨m148z, lt149z, x150z, hM, hN151z⟩ := M.e_iterN hI146z
 simp only [zaH] at hM
 clear hI146z
 refine W.seq ?_
 refine W.seq ?_
 refine W.region rfl ?_
 refine s_val (x_mv (v := I (n : Int)) rfl) ?_
 refine s_val (x_cmp (kd := .i64) (a := (n : Int)) (b := 6) (r := decide ((n : Int) < 6)) rfl rfl rfl) ?_
 refine s_nil ?_
 refine W.cond (decide ((n : Int) < 6)) rfl (fun c152z => ?_) (fun c152z => ?_)
 ·replace hM := M.e_t hM c152z
  simp only [decide_eq_true_eq, decide_eq_false_iff_not, beq_iff_eq, bne_iff_ne, beq_eq_false_iff_ne, bne_eq_false_iff_eq, ne_eq, Decidable.not_not] at c152z
  refine W.skip ?_
  refine W.seq ?_
  refine W.block ?_
  refine W.seq ?_
  refine W.region rfl ?_
  refine s_val (x_mv (v := u0_14) rfl) ?_
  obtain ⟨r154z, hx153z, hM⟩ := M.e_bind hM
  refine s_call cf14 [u0_14] rfl (zcs r02 (Reads.of (k := 2) rfl ownLe) (ownSl (H.get (k := 2) rfl)) hx153z _ (H.gt 12)) ?_
  rintro vq w155z ⟨r9, u0_21, hr156z, hvq, H2_⟩
  subst hr156z
  subst vq
  try dsimp only at hM
  replace H := H.bk H2_
  clear H2_
  refine s_val (x_as (v := u0_21) rfl) ?_
  refine s_nil ?_
  refine W.seq ?_
  refine W.seq ?_
  refine W.region rfl ?_
  refine s_val (x_as (v := I 0) rfl) ?_
  refine s_nil ?_
  refine W.block ?_
  obtain ⟨ex157z, hi158z, hk159z⟩ := M.e_bind hM
  obtain ⟨m0_, hi158z⟩ := M.e_iter hi158z
  refine W.loop (fun m σ W => ∃ (s6 : Int) (s7 : Int) (l4 : List Int) (k2 : Nat) (v_l4 : Value) (ρ : Env), σ = upds ρ [(5, .pointer (some ⟨b_9, 0, none⟩)), (6, .pointer (some ⟨nb0_10, 0, none⟩)), (7, v_l), (9, u0_14), (12, u0_16), (13, u1_17), (30, I (n : Int)), (31, v_l4), (32, I (k2 : Int))] /\ M.iterN (zaQ tries) m (s6, s7, l4, k2) = some ex157z /\ St w W [cOwn (α := Int) 3 v_l4 l4, cOwn (α := Int) 3 u0_16 r03, cOwn (α := Int) 3 u1_17 r15, cOwn (α := Int) 3 u0_14 r02, cOwn (α := Int) 3 v_l l, cBlk nb0_10 [v_tries, I s6, I s7] 71, cBlk b_9 [u0_2, u1_3, u2_4, u3_5, I r4, I r5, u4_6] 30, cOwn (α := Int) 3 u0_2 r0, cOwn (α := Span) 27 u1_3 r12, cOwn (α := Int) 3 u2_4 r22, cOwn (α := Town) 54 u3_5 r3, cOwn (α := Raw 1) 67 u4_6 rr5_7, cRo Bs6_8] R) ?_ ?_
  ·exact ⟨_, s10, s11, r9, 0, u0_21, _, upds_of _ _ ⟨rfl, rfl, rfl, rfl, rfl, rfl, rfl, rfl, rfl, trivial⟩, hi158z, H⟩
  rintro m162z σ w160z ⟨s6, s7, l4, k2, v_l4, ρ, rfl, hI161z, H⟩
  obtain ⟨m163z, lt164z, x165z, hM, hN166z⟩ := M.e_iterN hI161z
  simp only [zaQ] at hM
  clear hI161z
  refine W.seq ?_
  refine W.seq ?_
  refine W.region rfl ?_
  refine s_val (x_mv (v := I (k2 : Int)) rfl) ?_
  refine s_val (x_mv (v := v_l4) rfl) ?_
  have hl167z := ((ownSl (H.get (k := 0) rfl))).len_le
  refine s_val (x_lenS T23.und rfl (ownSl (H.get (k := 0) rfl))) ?_
  refine s_val (x_cmp (kd := .i64) (a := (k2 : Int)) (b := (l4.length : Int)) (r := decide ((k2 : Int) < (l4.length : Int))) rfl rfl rfl) ?_
  refine s_nil ?_
  refine W.cond (decide ((k2 : Int) < (l4.length : Int))) rfl (fun c168z => ?_) (fun c168z => ?_)
  ·replace hM := M.e_t hM c168z
   simp only [decide_eq_true_eq, decide_eq_false_iff_not, beq_iff_eq, bne_iff_ne, beq_eq_false_iff_ne, bne_eq_false_iff_eq, ne_eq, Decidable.not_not] at c168z
   refine W.skip ?_
   refine W.seq ?_
   refine W.block ?_
   refine W.seq ?_
   refine W.region rfl ?_
   refine s_val (x_mv (v := .pointer (some ⟨nb0_10, 0, none⟩)) rfl) ?_
   obtain ⟨r170z, hx169z, hM⟩ := M.e_bind hM
   refine s_call cf10 [.pointer (some ⟨nb0_10, 0, none⟩), I 4] rfl (zab tries s6 s7 4 (hC_tries.app _) hs_tries hx169z _ ((H.pk [5, 0, 1, 2, 3, 4, 6, 7, 8, 9, 10, 11, 12]).gt 12)) ?_
   rintro vq w171z ⟨r10, q13, q23, hr172z, hvq, H2_⟩
   subst hr172z
   subst vq
   try dsimp only at hM
   replace H := H.pk [5, 0, 1, 2, 3, 4, 6, 7, 8, 9, 10, 11, 12] |>.bk H2_
   clear H2_
   refine s_nil ?_
   refine W.block ?_
   refine W.seq ?_
   refine W.region rfl ?_
   refine s_val (x_cmp (kd := .i64) (a := r10) (b := 0) (r := r10 == 0) rfl rfl rfl) ?_
   refine s_val (x_as (v := B (r10 == 0)) rfl) ?_
   refine s_nil ?_
   refine W.cond (r10 == 0) rfl (fun c173z => ?_) (fun c173z => ?_)
   ·replace hM := M.e_t hM c173z
    simp only [decide_eq_true_eq, decide_eq_false_iff_not, beq_iff_eq, bne_iff_ne, beq_eq_false_iff_ne, bne_eq_false_iff_eq, ne_eq, Decidable.not_not] at c173z
    refine W.region rfl ?_
    refine s_val (x_mv (v := v_l4) rfl) ?_
    refine s_val (x_mv (v := I (k2 : Int)) rfl) ?_
    refine s_val (x_mv (v := .pointer (some ⟨nb0_10, 0, none⟩)) rfl) ?_
    obtain ⟨r175z, hx174z, hM⟩ := M.e_bind hM
    refine s_call cf10 [.pointer (some ⟨nb0_10, 0, none⟩), I 400] rfl (zab tries q13 q23 400 (hC_tries.app _) hs_tries hx174z _ (H.gt 12)) ?_
    rintro vq w176z ⟨r11, q14, q24, hr177z, hvq, H2_⟩
    subst hr177z
    subst vq
    try dsimp only at hM
    replace H := H.bk H2_
    clear H2_
    obtain ⟨sd178z, hM⟩ := M.e_grd hM
    simp only [Bool.and_eq_true, decide_eq_true_eq] at sd178z
    refine s_val (x_ix (a := v_l4) (b := I (k2 : Int)) (v := vat v_l4 1 (Int.toNat (k2 : Int))) rfl rfl (Sl.ix (α := Int) T23.und T23.size (ownSl (H.get (k := 1) rfl)) (by omega) (by omega))) ?_
    refine t_ost (k := 1) (i := (k2 : Int)) (l := l4) (l' := l4.set k2 (r11 : Int)) (val := I r11) (L' := [cBlk nb0_10 [v_tries, I q14, I q24] 71, cOwn (α := Int) 3 v_l4 (l4.set k2 (r11 : Int)), cOwn (α := Int) 3 u0_16 r03, cOwn (α := Int) 3 u1_17 r15, cOwn (α := Int) 3 u0_14 r02, cOwn (α := Int) 3 v_l l, cBlk b_9 [u0_2, u1_3, u2_4, u3_5, I r4, I r5, u4_6] 30, cOwn (α := Int) 3 u0_2 r0, cOwn (α := Span) 27 u1_3 r12, cOwn (α := Int) 3 u2_4 r22, cOwn (α := Town) 54 u3_5 r3, cOwn (α := Raw 1) 67 u4_6 rr5_7, cRo Bs6_8]) H rfl Sz3 (by omega) (by omega) (r11 : Int) rfl rfl rfl rfl rfl ?_
    intro w179z H
    refine s_nil ?_
    refine W.region rfl ?_
    refine s_val (x_mv (v := I (k2 : Int)) rfl) ?_
    refine s_val (x_ari (a := (k2 : Int)) (b := 1) (r := (k2 : Int) + 1) rfl rfl rfl (by omega)) ?_
    refine s_val (x_as (v := I ((k2 : Int) + 1)) rfl) ?_
    refine s_nil ?_
    exact ⟨m163z, lt164z, q14, q24, l4.set k2 (r11 : Int), k2 + 1, v_l4, _, upds_of _ _ ⟨rfl, rfl, rfl, rfl, rfl, rfl, rfl, rfl, rfl, trivial⟩, M.e_inl hM hN166z, (H.pk [1, 2, 3, 4, 5, 0, 6, 7, 8, 9, 10, 11, 12])⟩
   replace hM := M.e_f hM c173z
   simp only [decide_eq_true_eq, decide_eq_false_iff_not, beq_iff_eq, bne_iff_ne, beq_eq_false_iff_ne, bne_eq_false_iff_eq, ne_eq, Decidable.not_not] at c173z
   refine W.seq ?_
   refine W.region rfl ?_
   refine s_val (x_cmp (kd := .i64) (a := r10) (b := 1) (r := r10 == 1) rfl rfl rfl) ?_
   refine s_val (x_as (v := B (r10 == 1)) rfl) ?_
   refine s_nil ?_
   refine W.cond (r10 == 1) rfl (fun c180z => ?_) (fun c180z => ?_)
   ·replace hM := M.e_t hM c180z
    simp only [decide_eq_true_eq, decide_eq_false_iff_not, beq_iff_eq, bne_iff_ne, beq_eq_false_iff_ne, bne_eq_false_iff_eq, ne_eq, Decidable.not_not] at c180z
    refine W.drawT (fun W => St w W [cOwn (α := Int) 3 u0_16 r03, cOwn (α := Int) 3 u1_17 r15, cOwn (α := Int) 3 u0_14 r02, cOwn (α := Int) 3 v_l l, cBlk b_9 [u0_2, u1_3, u2_4, u3_5, I r4, I r5, u4_6] 30, cOwn (α := Int) 3 u0_2 r0, cOwn (α := Span) 27 u1_3 r12, cOwn (α := Int) 3 u2_4 r22, cOwn (α := Town) 54 u3_5 r3, cOwn (α := Raw 1) 67 u4_6 rr5_7, cRo Bs6_8] R) (.q 0 (.q 1 (.q 2 (.q 3 (.q 6 (.l2 4 (.l2 5 (.l 7 (.q 8 (.q 9 (.l 10 (.l 11 .nil))))) 7 (.l 5 (.q 8 (.q 9 (.l 10 (.l 11 .nil)))))) 7 (.l 4 (.l 5 (.q 8 (.q 9 (.l 10 (.l 11 .nil)))))))))))) mixed (by decide +kernel) rfl ?_
    intro w181z hx_
    replace H := H.ext hx_
    clear hx_
    refine ⟨(H.pk [2, 3, 4, 5, 6, 7, 8, 9, 10, 11, 12]), ?_⟩
    refine t_q rfl (fun w' H => x_mv (v := v_l4) rfl) ?_
    refine t_q rfl (fun w' H => x_mv (v := I (k2 : Int)) rfl) ?_
    refine t_q rfl (fun w' H => x_mv (v := v_l4) rfl) ?_
    refine t_q rfl (fun w' H => x_mv (v := I (k2 : Int)) rfl) ?_
    refine t_q rfl (fun w' H => x_mv (v := .pointer (some ⟨nb0_10, 0, none⟩)) rfl) ?_
    obtain ⟨sd194z, hM⟩ := M.e_grd hM
    simp only [Bool.and_eq_true, decide_eq_true_eq] at sd194z
    refine t_l2 rfl rfl ?_ ?_
    ·skip
     refine s_val (x_ix (a := v_l4) (b := I (k2 : Int)) (v := vat v_l4 1 (Int.toNat (k2 : Int))) rfl rfl (Sl.ix (α := Int) T23.und T23.size (ownSl (H.get (k := 1) rfl)) (by omega) (by omega))) ?_
     have hvc_q195z := Sl.cells (ownSl (H.get (k := 1) rfl))
     have hvo_q195z := Sl.oc (ownSl (H.get (k := 1) rfl))
     refine s_nil ⟨(H.pk [2, 3, 4, 5, 6, 7, 8, 9, 10, 11, 12]), ?_⟩
     refine t_l2 rfl rfl ?_ ?_
     ·skip
      refine s_val (x_ld (p := vat v_l4 1 (Int.toNat (k2 : Int))) (v := I (l4.getD k2 0)) rfl (ld_sc Sc3 (At.mono (Int_at (ownSl (H.get (k := 1) rfl)) (i := (k2 : Int)) (by omega) (by omega)) (ownLe _ (H.get (k := 1) rfl))))) ?_
      refine s_nil ⟨(H.pk [2, 3, 4, 5, 6, 7, 8, 9, 10, 11, 12]), ?_⟩
      refine t_l rfl ?_
      obtain ⟨r203z, hx202z, hM⟩ := M.e_bind hM
      refine s_call cf10 [.pointer (some ⟨nb0_10, 0, none⟩), I 30] rfl (zab tries q13 q23 30 (hC_tries.app _) hs_tries hx202z _ (H.gt 12)) ?_
      rintro vq w204z ⟨r19, q15, q25, hr205z, hvq, H2_⟩
      subst hr205z
      subst vq
      try dsimp only at hM
      replace H := H.bk H2_
      clear H2_
      refine s_nil ⟨(H.pk [2, 3, 4, 5, 6, 7, 8, 9, 10, 11, 12]), ?_⟩
      obtain ⟨sd206z, hM⟩ := M.e_grd hM
      simp only [Bool.and_eq_true, decide_eq_true_eq] at sd206z
      refine t_q rfl (fun w' H => x_ari (a := l4.getD k2 0) (b := r19) (r := (l4.getD k2 0) - r19) rfl rfl rfl (by omega)) ?_
      refine t_q rfl (fun w' H => x_max (kd := .i64) (a := 0) (b := (l4.getD k2 0) - r19) rfl rfl) ?_
      refine t_l rfl ?_
      refine s_val (x_ix (a := v_l4) (b := I (k2 : Int)) (v := vat v_l4 1 (Int.toNat (k2 : Int))) rfl rfl (Sl.ix (α := Int) T23.und T23.size (ownSl (H.get (k := 1) rfl)) (by omega) (by omega))) ?_
      refine s_nil ⟨(H.pk [2, 3, 4, 5, 6, 7, 8, 9, 10, 11, 12]), ?_⟩
      refine t_l rfl ?_
      refine t_ost (k := 1) (i := (k2 : Int)) (l := l4) (l' := l4.set k2 (max 0 ((l4.getD k2 0) - r19) : Int)) (val := I (max 0 ((l4.getD k2 0) - r19))) (L' := [cBlk nb0_10 [v_tries, I q15, I q25] 71, cOwn (α := Int) 3 v_l4 (l4.set k2 (max 0 ((l4.getD k2 0) - r19) : Int)), cOwn (α := Int) 3 u0_16 r03, cOwn (α := Int) 3 u1_17 r15, cOwn (α := Int) 3 u0_14 r02, cOwn (α := Int) 3 v_l l, cBlk b_9 [u0_2, u1_3, u2_4, u3_5, I r4, I r5, u4_6] 30, cOwn (α := Int) 3 u0_2 r0, cOwn (α := Span) 27 u1_3 r12, cOwn (α := Int) 3 u2_4 r22, cOwn (α := Town) 54 u3_5 r3, cOwn (α := Raw 1) 67 u4_6 rr5_7, cRo Bs6_8]) H rfl Sz3 (by omega) (by omega) (max 0 ((l4.getD k2 0) - r19) : Int) rfl rfl rfl rfl rfl ?_
      intro w207z H
      refine s_nil ⟨(H.pk [2, 3, 4, 5, 6, 7, 8, 9, 10, 11, 12]), ?_⟩
      refine t_nil ?_
      refine W.region rfl ?_
      refine s_val (x_mv (v := I (k2 : Int)) rfl) ?_
      refine s_val (x_ari (a := (k2 : Int)) (b := 1) (r := (k2 : Int) + 1) rfl rfl rfl (by omega)) ?_
      refine s_val (x_as (v := I ((k2 : Int) + 1)) rfl) ?_
      refine s_nil ?_
      exact ⟨m163z, lt164z, q15, q25, l4.set k2 (max 0 ((l4.getD k2 0) - r19) : Int), k2 + 1, v_l4, _, upds_of _ _ ⟨rfl, rfl, rfl, rfl, rfl, rfl, rfl, rfl, rfl, trivial⟩, M.e_inl hM hN166z, (H.pk [1, 2, 3, 4, 5, 0, 6, 7, 8, 9, 10, 11, 12])⟩
     skip
     obtain ⟨r209z, hx208z, hM⟩ := M.e_bind hM
     refine s_call cf10 [.pointer (some ⟨nb0_10, 0, none⟩), I 30] rfl (zab tries q13 q23 30 (hC_tries.app _) hs_tries hx208z _ (H.gt 12)) ?_
     rintro vq w210z ⟨r19, q15, q25, hr211z, hvq, H2_⟩
     subst hr211z
     subst vq
     try dsimp only at hM
     replace H := H.bk H2_
     clear H2_
     refine s_nil ⟨(H.pk [2, 3, 4, 5, 6, 7, 8, 9, 10, 11, 12]), ?_⟩
     refine t_l rfl ?_
     refine s_val (x_ld (p := vat v_l4 1 (Int.toNat (k2 : Int))) (v := I (l4.getD k2 0)) rfl (ld_sc Sc3 (At.mono (Int_at (ownSl (H.get (k := 1) rfl)) (i := (k2 : Int)) (by omega) (by omega)) (ownLe _ (H.get (k := 1) rfl))))) ?_
     refine s_nil ⟨(H.pk [2, 3, 4, 5, 6, 7, 8, 9, 10, 11, 12]), ?_⟩
     obtain ⟨sd212z, hM⟩ := M.e_grd hM
     simp only [Bool.and_eq_true, decide_eq_true_eq] at sd212z
     refine t_q rfl (fun w' H => x_ari (a := l4.getD k2 0) (b := r19) (r := (l4.getD k2 0) - r19) rfl rfl rfl (by omega)) ?_
     refine t_q rfl (fun w' H => x_max (kd := .i64) (a := 0) (b := (l4.getD k2 0) - r19) rfl rfl) ?_
     refine t_l rfl ?_
     refine s_val (x_ix (a := v_l4) (b := I (k2 : Int)) (v := vat v_l4 1 (Int.toNat (k2 : Int))) rfl rfl (Sl.ix (α := Int) T23.und T23.size (ownSl (H.get (k := 1) rfl)) (by omega) (by omega))) ?_
     refine s_nil ⟨(H.pk [2, 3, 4, 5, 6, 7, 8, 9, 10, 11, 12]), ?_⟩
     refine t_l rfl ?_
     refine t_ost (k := 1) (i := (k2 : Int)) (l := l4) (l' := l4.set k2 (max 0 ((l4.getD k2 0) - r19) : Int)) (val := I (max 0 ((l4.getD k2 0) - r19))) (L' := [cBlk nb0_10 [v_tries, I q15, I q25] 71, cOwn (α := Int) 3 v_l4 (l4.set k2 (max 0 ((l4.getD k2 0) - r19) : Int)), cOwn (α := Int) 3 u0_16 r03, cOwn (α := Int) 3 u1_17 r15, cOwn (α := Int) 3 u0_14 r02, cOwn (α := Int) 3 v_l l, cBlk b_9 [u0_2, u1_3, u2_4, u3_5, I r4, I r5, u4_6] 30, cOwn (α := Int) 3 u0_2 r0, cOwn (α := Span) 27 u1_3 r12, cOwn (α := Int) 3 u2_4 r22, cOwn (α := Town) 54 u3_5 r3, cOwn (α := Raw 1) 67 u4_6 rr5_7, cRo Bs6_8]) H rfl Sz3 (by omega) (by omega) (max 0 ((l4.getD k2 0) - r19) : Int) rfl rfl rfl rfl rfl ?_
     intro w213z H
     refine s_nil ⟨(H.pk [2, 3, 4, 5, 6, 7, 8, 9, 10, 11, 12]), ?_⟩
     refine t_nil ?_
     refine W.region rfl ?_
     refine s_val (x_mv (v := I (k2 : Int)) rfl) ?_
     refine s_val (x_ari (a := (k2 : Int)) (b := 1) (r := (k2 : Int) + 1) rfl rfl rfl (by omega)) ?_
     refine s_val (x_as (v := I ((k2 : Int) + 1)) rfl) ?_
     refine s_nil ?_
     exact ⟨m163z, lt164z, q15, q25, l4.set k2 (max 0 ((l4.getD k2 0) - r19) : Int), k2 + 1, v_l4, _, upds_of _ _ ⟨rfl, rfl, rfl, rfl, rfl, rfl, rfl, rfl, rfl, trivial⟩, M.e_inl hM hN166z, (H.pk [1, 2, 3, 4, 5, 0, 6, 7, 8, 9, 10, 11, 12])⟩
    skip
    obtain ⟨r215z, hx214z, hM⟩ := M.e_bind hM
    refine s_call cf10 [.pointer (some ⟨nb0_10, 0, none⟩), I 30] rfl (zab tries q13 q23 30 (hC_tries.app _) hs_tries hx214z _ (H.gt 12)) ?_
    rintro vq w216z ⟨r19, q15, q25, hr217z, hvq, H2_⟩
    subst hr217z
    subst vq
    try dsimp only at hM
    replace H := H.bk H2_
    clear H2_
    have hvc_q218z := Sl.cells (ownSl (H.get (k := 1) rfl))
    have hvo_q218z := Sl.oc (ownSl (H.get (k := 1) rfl))
    refine s_nil ⟨(H.pk [2, 3, 4, 5, 6, 7, 8, 9, 10, 11, 12]), ?_⟩
    refine t_l rfl ?_
    refine s_val (x_ix (a := v_l4) (b := I (k2 : Int)) (v := vat v_l4 1 (Int.toNat (k2 : Int))) rfl rfl (Sl.ix (α := Int) T23.und T23.size (ownSl (H.get (k := 1) rfl)) (by omega) (by omega))) ?_
    refine s_nil ⟨(H.pk [2, 3, 4, 5, 6, 7, 8, 9, 10, 11, 12]), ?_⟩
    refine t_l rfl ?_
    refine s_val (x_ld (p := vat v_l4 1 (Int.toNat (k2 : Int))) (v := I (l4.getD k2 0)) rfl (ld_sc Sc3 (At.mono (Int_at (ownSl (H.get (k := 1) rfl)) (i := (k2 : Int)) (by omega) (by omega)) (ownLe _ (H.get (k := 1) rfl))))) ?_
    refine s_nil ⟨(H.pk [2, 3, 4, 5, 6, 7, 8, 9, 10, 11, 12]), ?_⟩
    obtain ⟨sd219z, hM⟩ := M.e_grd hM
    simp only [Bool.and_eq_true, decide_eq_true_eq] at sd219z
    refine t_q rfl (fun w' H => x_ari (a := l4.getD k2 0) (b := r19) (r := (l4.getD k2 0) - r19) rfl rfl rfl (by omega)) ?_
    refine t_q rfl (fun w' H => x_max (kd := .i64) (a := 0) (b := (l4.getD k2 0) - r19) rfl rfl) ?_
    refine t_l rfl ?_
    refine s_val (x_ix (a := v_l4) (b := I (k2 : Int)) (v := vat v_l4 1 (Int.toNat (k2 : Int))) rfl rfl (Sl.ix (α := Int) T23.und T23.size (ownSl (H.get (k := 1) rfl)) (by omega) (by omega))) ?_
    refine s_nil ⟨(H.pk [2, 3, 4, 5, 6, 7, 8, 9, 10, 11, 12]), ?_⟩
    refine t_l rfl ?_
    refine t_ost (k := 1) (i := (k2 : Int)) (l := l4) (l' := l4.set k2 (max 0 ((l4.getD k2 0) - r19) : Int)) (val := I (max 0 ((l4.getD k2 0) - r19))) (L' := [cBlk nb0_10 [v_tries, I q15, I q25] 71, cOwn (α := Int) 3 v_l4 (l4.set k2 (max 0 ((l4.getD k2 0) - r19) : Int)), cOwn (α := Int) 3 u0_16 r03, cOwn (α := Int) 3 u1_17 r15, cOwn (α := Int) 3 u0_14 r02, cOwn (α := Int) 3 v_l l, cBlk b_9 [u0_2, u1_3, u2_4, u3_5, I r4, I r5, u4_6] 30, cOwn (α := Int) 3 u0_2 r0, cOwn (α := Span) 27 u1_3 r12, cOwn (α := Int) 3 u2_4 r22, cOwn (α := Town) 54 u3_5 r3, cOwn (α := Raw 1) 67 u4_6 rr5_7, cRo Bs6_8]) H rfl Sz3 (by omega) (by omega) (max 0 ((l4.getD k2 0) - r19) : Int) rfl rfl rfl rfl rfl ?_
    intro w220z H
    refine s_nil ⟨(H.pk [2, 3, 4, 5, 6, 7, 8, 9, 10, 11, 12]), ?_⟩
    refine t_nil ?_
    refine W.region rfl ?_
    refine s_val (x_mv (v := I (k2 : Int)) rfl) ?_
    refine s_val (x_ari (a := (k2 : Int)) (b := 1) (r := (k2 : Int) + 1) rfl rfl rfl (by omega)) ?_
    refine s_val (x_as (v := I ((k2 : Int) + 1)) rfl) ?_
    refine s_nil ?_
    exact ⟨m163z, lt164z, q15, q25, l4.set k2 (max 0 ((l4.getD k2 0) - r19) : Int), k2 + 1, v_l4, _, upds_of _ _ ⟨rfl, rfl, rfl, rfl, rfl, rfl, rfl, rfl, rfl, trivial⟩, M.e_inl hM hN166z, (H.pk [1, 2, 3, 4, 5, 0, 6, 7, 8, 9, 10, 11, 12])⟩
   replace hM := M.e_f hM c180z
   simp only [decide_eq_true_eq, decide_eq_false_iff_not, beq_iff_eq, bne_iff_ne, beq_eq_false_iff_ne, bne_eq_false_iff_eq, ne_eq, Decidable.not_not] at c180z
   refine W.skip ?_
   refine W.region rfl ?_
   refine s_val (x_mv (v := I (k2 : Int)) rfl) ?_
   refine s_val (x_ari (a := (k2 : Int)) (b := 1) (r := (k2 : Int) + 1) rfl rfl rfl (by omega)) ?_
   refine s_val (x_as (v := I ((k2 : Int) + 1)) rfl) ?_
   refine s_nil ?_
   exact ⟨m163z, lt164z, q13, q23, l4, k2 + 1, v_l4, _, upds_of _ _ ⟨rfl, rfl, rfl, rfl, rfl, rfl, rfl, rfl, rfl, trivial⟩, M.e_inl hM hN166z, (H.pk [1, 2, 3, 4, 5, 0, 6, 7, 8, 9, 10, 11, 12])⟩
  replace hM := M.e_f hM c168z
  simp only [decide_eq_true_eq, decide_eq_false_iff_not, beq_iff_eq, bne_iff_ne, beq_eq_false_iff_ne, bne_eq_false_iff_eq, ne_eq, Decidable.not_not] at c168z
  refine W.exit ?_
  have hX221z := M.e_inr hM hN166z
  subst hX221z
  replace hM := hk159z
  try dsimp only at hM
  refine W.seq ?_
  refine W.region rfl ?_
  refine s_val (x_ld (p := .pointer (some ⟨b_9, 0, none⟩)) (v := .agg #[u0_2, u1_3, u2_4, u3_5, I r4, I r5, u4_6]) rfl (ldb_ag (ds := [u0_2, u1_3, u2_4, u3_5, I r4, I r5, u4_6]) Ag30 Sz30 (H.blk (k := 6) rfl) rfl rfl)) ?_
  refine s_val (x_mv (v := v_l) rfl) ?_
  refine s_val (x_mv (v := v_l4) rfl) ?_
  obtain ⟨r223z, hx222z, hM⟩ := M.e_bind hM
  refine s_call cf12 [.agg #[u0_2, u1_3, u2_4, u3_5, I r4, I r5, u4_6], v_l, v_l4] rfl (zal r0 r12 r22 r3 r4 r5 r6 l l4 (Reads.of (k := 7) rfl ownLe) (ownSl (H.get (k := 7) rfl)) (Reads.of (k := 8) rfl ownLe) (ownSl (H.get (k := 8) rfl)) (Reads.of (k := 9) rfl ownLe) (ownSl (H.get (k := 9) rfl)) (Reads.of (k := 10) rfl ownLe) (ownSl (H.get (k := 10) rfl)) (Reads.sup (Reads.of (k := 11) rfl ownLe) (Reads.of (k := 12) rfl roLe)) (rowSl rfl (H.get (k := 11) rfl) (roLe _ (H.get (k := 12) rfl)) hf9z) (Reads.of (k := 4) rfl ownLe) (ownSl (H.get (k := 4) rfl)) (Reads.of (k := 0) rfl ownLe) (ownSl (H.get (k := 0) rfl)) hx222z _ (H.gt 13)) ?_
  rintro vq w224z ⟨r07, r110, r29, u0_22, u1_23, hr225z, hvq, H2_⟩
  subst hr225z
  subst vq
  try dsimp only at hM
  replace H := H.bk H2_
  clear H2_
  refine s_val (x_mv (v := .tuple #[u0_22, u1_23, I r29]) rfl) ?_
  refine s_val (x_ext (vs := [u0_22, u1_23, I r29]) (v := u0_22) rfl rfl) ?_
  refine s_val (x_ext (vs := [u0_22, u1_23, I r29]) (v := u1_23) rfl rfl) ?_
  refine s_val (x_ext (vs := [u0_22, u1_23, I r29]) (v := I r29) rfl rfl) ?_
  refine s_val (x_as (v := u0_22) rfl) ?_
  refine s_val (x_as (v := u1_23) rfl) ?_
  refine s_val (x_as (v := I r29) rfl) ?_
  refine s_nil ?_
  refine W.seq ?_
  refine W.region rfl ?_
  refine s_val (x_mv (v := I r29) rfl) ?_
  refine s_val (x_cmp (kd := .i64) (a := r29) (b := 0) (r := r29 != 0) rfl rfl rfl) ?_
  refine s_val (x_mv (v := B (r29 != 0)) rfl) ?_
  refine g_val (!(r29 != 0)) (gy_f rfl) (fun hg => x_mv (v := u0_22) rfl) ?_
  refine g_val (!(r29 != 0)) (gy_f rfl) (fun hg => x_lenS T23.und (gd_of (c := !(r29 != 0)) hg (u0_22)) (ownSl (H.get (k := 0) rfl))) ?_
  refine g_val (!(r29 != 0)) (gy_f rfl) (fun hg => x_mv (v := u0_16) rfl) ?_
  refine g_val (!(r29 != 0)) (gy_f rfl) (fun hg => x_lenS T23.und (gd_of (c := !(r29 != 0)) hg (u0_16)) (ownSl (H.get (k := 3) rfl))) ?_
  refine g_val (!(r29 != 0)) (gy_f rfl) (fun hg => x_cmp (kd := .i64) (a := (r07.length : Int)) (b := (r03.length : Int)) (r := decide ((r07.length : Int) < (r03.length : Int))) (gd_of (c := !(r29 != 0)) hg (I (r07.length : Int))) (gd_of (c := !(r29 != 0)) hg (I (r03.length : Int))) rfl) ?_
  refine s_val (x_por (b := r29 != 0) (r := decide ((r07.length : Int) < (r03.length : Int))) rfl rfl (fun hb => gd_of (c := !(r29 != 0)) (by first | exact hb | (rw [hb]; rfl) | simp_all) (B (decide ((r07.length : Int) < (r03.length : Int)))))) ?_
  refine s_val (x_mv (v := B ((r29 != 0) || (decide ((r07.length : Int) < (r03.length : Int))))) rfl) ?_
  refine g_val (!((r29 != 0) || (decide ((r07.length : Int) < (r03.length : Int))))) (gy_f rfl) (fun hg => x_mv (v := u0_22) rfl) ?_
  refine g_val (!((r29 != 0) || (decide ((r07.length : Int) < (r03.length : Int))))) (gy_f rfl) (fun hg => x_lenS T23.und (gd_of (c := !((r29 != 0) || (decide ((r07.length : Int) < (r03.length : Int))))) hg (u0_22)) (ownSl (H.get (k := 0) rfl))) ?_
  refine g_val (!((r29 != 0) || (decide ((r07.length : Int) < (r03.length : Int))))) (gy_f rfl) (fun hg => x_mv (v := u0_16) rfl) ?_
  refine g_val (!((r29 != 0) || (decide ((r07.length : Int) < (r03.length : Int))))) (gy_f rfl) (fun hg => x_lenS T23.und (gd_of (c := !((r29 != 0) || (decide ((r07.length : Int) < (r03.length : Int))))) hg (u0_16)) (ownSl (H.get (k := 3) rfl))) ?_
  refine g_val (!((r29 != 0) || (decide ((r07.length : Int) < (r03.length : Int))))) (gy_f rfl) (fun hg => x_cmp (kd := .i64) (a := (r07.length : Int)) (b := (r03.length : Int)) (r := (r07.length : Int) == (r03.length : Int)) (gd_of (c := !((r29 != 0) || (decide ((r07.length : Int) < (r03.length : Int))))) hg (I (r07.length : Int))) (gd_of (c := !((r29 != 0) || (decide ((r07.length : Int) < (r03.length : Int))))) hg (I (r03.length : Int))) rfl) ?_
  refine g_val (!((r29 != 0) || (decide ((r07.length : Int) < (r03.length : Int))))) (gy_f rfl) (fun hg => x_mv (v := B ((r07.length : Int) == (r03.length : Int))) (gd_of (c := !((r29 != 0) || (decide ((r07.length : Int) < (r03.length : Int))))) hg (B ((r07.length : Int) == (r03.length : Int))))) ?_
  refine g_val ((!((r29 != 0) || (decide ((r07.length : Int) < (r03.length : Int))))) && ((r07.length : Int) == (r03.length : Int))) (gy_gt rfl rfl) (fun hg => x_mv (v := u1_23) rfl) ?_
  refine g_val ((!((r29 != 0) || (decide ((r07.length : Int) < (r03.length : Int))))) && ((r07.length : Int) == (r03.length : Int))) (gy_gt rfl rfl) (fun hg => x_lenS T23.und (gd_of (c := ((!((r29 != 0) || (decide ((r07.length : Int) < (r03.length : Int))))) && ((r07.length : Int) == (r03.length : Int)))) hg (u1_23)) (ownSl (H.get (k := 1) rfl))) ?_
  refine g_val ((!((r29 != 0) || (decide ((r07.length : Int) < (r03.length : Int))))) && ((r07.length : Int) == (r03.length : Int))) (gy_gt rfl rfl) (fun hg => x_mv (v := u1_17) rfl) ?_
  refine g_val ((!((r29 != 0) || (decide ((r07.length : Int) < (r03.length : Int))))) && ((r07.length : Int) == (r03.length : Int))) (gy_gt rfl rfl) (fun hg => x_lenS T23.und (gd_of (c := ((!((r29 != 0) || (decide ((r07.length : Int) < (r03.length : Int))))) && ((r07.length : Int) == (r03.length : Int)))) hg (u1_17)) (ownSl (H.get (k := 4) rfl))) ?_
  refine g_val ((!((r29 != 0) || (decide ((r07.length : Int) < (r03.length : Int))))) && ((r07.length : Int) == (r03.length : Int))) (gy_gt rfl rfl) (fun hg => x_cmp (kd := .i64) (a := (r110.length : Int)) (b := (r15.length : Int)) (r := decide ((r110.length : Int) < (r15.length : Int))) (gd_of (c := ((!((r29 != 0) || (decide ((r07.length : Int) < (r03.length : Int))))) && ((r07.length : Int) == (r03.length : Int)))) hg (I (r110.length : Int))) (gd_of (c := ((!((r29 != 0) || (decide ((r07.length : Int) < (r03.length : Int))))) && ((r07.length : Int) == (r03.length : Int)))) hg (I (r15.length : Int))) rfl) ?_
  refine g_val (!((r29 != 0) || (decide ((r07.length : Int) < (r03.length : Int))))) (gy_f rfl) (fun hg => x_pand (b := (r07.length : Int) == (r03.length : Int)) (r := decide ((r110.length : Int) < (r15.length : Int))) (gd_of (c := !((r29 != 0) || (decide ((r07.length : Int) < (r03.length : Int))))) hg (B ((r07.length : Int) == (r03.length : Int)))) (fun hb => gd_of (c := ((!((r29 != 0) || (decide ((r07.length : Int) < (r03.length : Int))))) && ((r07.length : Int) == (r03.length : Int)))) (by first | exact hb | (rw [hb]; rfl) | simp_all) (B (decide ((r110.length : Int) < (r15.length : Int))))) rfl) ?_
  refine s_val (x_por (b := ((r29 != 0) || (decide ((r07.length : Int) < (r03.length : Int))))) (r := (((r07.length : Int) == (r03.length : Int)) && (decide ((r110.length : Int) < (r15.length : Int))))) rfl rfl (fun hb => gd_of (c := !((r29 != 0) || (decide ((r07.length : Int) < (r03.length : Int))))) (by first | exact hb | (rw [hb]; rfl) | simp_all) (B (((r07.length : Int) == (r03.length : Int)) && (decide ((r110.length : Int) < (r15.length : Int))))))) ?_
  refine s_nil ?_
  refine W.cond (((r29 != 0) || (decide ((r07.length : Int) < (r03.length : Int)))) || (((r07.length : Int) == (r03.length : Int)) && (decide ((r110.length : Int) < (r15.length : Int))))) rfl (fun c232z => ?_) (fun c232z => ?_)
  ·replace hM := M.e_t hM c232z
   refine W.seq ?_
   refine W.region rfl ?_
   refine s_val (x_as (v := B false) rfl) ?_
   refine s_nil ?_
   replace H := H.pk [3, 4, 5, 6, 7, 8, 9, 10, 11, 12, 13, 14]
   refine W.ret ?_
   have hX233z := M.e_inr hM hN151z
   subst hX233z
   replace hM := hk144z
   try dsimp only at hM
   have hr_ := M.e_pure hM
   exact ⟨_, resE_tmp rfl, ⟨false, hr_, rfl, (H.pk [])⟩⟩
  replace hM := M.e_f hM c232z
  refine W.skip ?_
  refine W.region rfl ?_
  refine s_val (x_mv (v := I (n : Int)) rfl) ?_
  refine s_val (x_ari (a := (n : Int)) (b := 1) (r := (n : Int) + 1) rfl rfl rfl (by omega)) ?_
  refine s_val (x_as (v := I ((n : Int) + 1)) rfl) ?_
  refine s_nil ?_
  exact ⟨m148z, lt149z, s6, s7, n + 1, _, upds_of _ _ ⟨rfl, rfl, rfl, rfl, rfl, rfl, rfl, trivial⟩, M.e_inl hM hN151z, (H.pk [3, 4, 5, 6, 7, 8, 9, 10, 11, 12, 13, 14])⟩
 replace hM := M.e_f hM c152z
 simp only [decide_eq_true_eq, decide_eq_false_iff_not, beq_iff_eq, bne_iff_ne, beq_eq_false_iff_ne, bne_eq_false_iff_eq, ne_eq, Decidable.not_not] at c152z
 refine W.exit ?_
 have hX234z := M.e_inr hM hN151z
 subst hX234z
 replace hM := hk144z
 try dsimp only at hM
 replace H := H.pk []
 refine W.seq ?_
 refine W.region rfl ?_
 obtain ⟨r236z, hx235z, hM⟩ := M.e_bind hM
 refine s_call cf15 [] rfl (zcB hx235z _ (H.gt 0)) ?_
 rintro vq w237z ⟨r20, hr238z, hvq, H2_⟩
 subst hr238z
 subst vq
 try dsimp only at hM
 replace H := H.bk H2_
 clear H2_
 refine s_val (x_as (v := B r20) rfl) ?_
 refine s_nil ?_
 refine W.ret ?_
 have hr_ := M.e_pure hM
 exact ⟨_, resE_tmp rfl, ⟨r20, hr_, rfl, H⟩⟩

end Go.Proofs.Ytbaehghammbjdaa
end
namespace Go.Proofs.Ytbaehghammbjdaa
open Go Go.Nm
variable {dn : List Int} {tr : List Span} {sp : List Int} {tw : List Town} {dl dh : Int} {fl : List Flood} {ws : List Int} {ar : List Bool} {rp : Nat -> Int × Int × Bool} {ix : Int -> Int}
theorem Jd.no (J : Jd dn tr sp tw dl dh fl ws ar rp ix) (th : List Int) {i : Nat} (h : (rp i).1 = -1) : Wd rp ix th i = false := by
  unfold Wd
  rcases J.ix1 (rp i).1 with ⟨e, _⟩ | ⟨k, _, hk, e⟩
  · rw [e]; rfl
  · have := J.bd (ws.getD k 0) (by rw [getD_el ws hk]; exact List.getElem_mem hk)
    omega
theorem Jd.at (J : Jd dn tr sp tw dl dh fl ws ar rp ix) (th : List Int) {i k : Nat} (hk : k < ws.length) (h : (rp i).1 = ws.getD k 0) : Wd rp ix th i = decide (th.getD k 0 <= (rp i).2.1) := by
  unfold Wd
  rcases J.ix1 (rp i).1 with ⟨_, e⟩ | ⟨j, h1, h2, h3⟩
  · exact absurd (by rw [h, getD_el ws hk]; exact List.getElem_mem hk) e
  · have : j = k := by
      rw [h, getD_el ws h2, getD_el ws hk] at h3
      rcases Nat.lt_trichotomy j k with g | g | g
      · have := List.pairwise_iff_getElem.1 J.up j k h2 hk g
        omega
      · exact g
      · have := List.pairwise_iff_getElem.1 J.up k j hk h2 g
        omega
    subst this
    rw [h1, decide_eq_true (show (0 : Int) <= (j : Int) by omega), Bool.true_and]
    rfl
/-- The thresholds that are returned. -/
structure Bs (fl : List Flood) (ws : List Int) (rp : Nat -> Int × Int × Bool) (best floods : List Int) : Prop where
  l1 : best.length = ws.length
  l2 : floods.length = ws.length
  th : ∀ k, k < ws.length -> Wn.Th fl.length (fun i => (rp i).2.1) (fun i => (rp i).2.2 && ((rp i).1 == ws.getD k 0)) (best.getD k 0) (floods.getD k 0)
variable {best floods : List Int}
theorem Bs.in (B : Bs fl ws rp best floods) (J : Jd dn tr sp tw dl dh fl ws ar rp ix) : ∀ x ∈ best, 0 <= x /\ x <= 2001 := by
  intro x hx
  obtain ⟨k, hk, rfl⟩ := mem_getD hx 0
  rcases B.th k (by rw [← B.l1]; exact hk) with ⟨_, h, _⟩ | ⟨i, hi, _, _, h, _⟩
  · omega
  · have := (J.ok i hi).s
    dsimp only at h
    omega
theorem Bs.met (B : Bs fl ws rp best floods) (J : Jd dn tr sp tw dl dh fl ws ar rp ix) {i : Nat} (hi : i < fl.length) (hd : (rp i).2.2 = true) (hw : (rp i).1 ∈ ws) : Wd rp ix best i = true := by
  obtain ⟨k, hk, e⟩ := mem_getD hw 0
  rw [J.at best hk e.symm]
  have hq : ((rp i).2.2 && ((rp i).1 == ws.getD k 0)) = true := by rw [hd, e]; simp
  rcases B.th k hk with ⟨_, _, h⟩ | ⟨j, _, _, _, h, h2⟩
  · have := h i hi
    dsimp only at this
    rw [this] at hq
    cases hq
  · have := h2 i hi hq
    dsimp only at h this
    rw [h]
    exact decide_eq_true this
theorem Bs.none (B : Bs fl ws rp best floods) (J : Jd dn tr sp tw dl dh fl ws ar rp ix) {i : Nat} (hi : i < fl.length) (h : ((rp i).2.2 && !Wd rp ix best i) = true) : (rp i).2.2 = true /\ (rp i).1 = -1 := by
  rw [Bool.and_eq_true] at h
  refine ⟨h.1, ?_⟩
  rcases (J.ok i hi).w with e | e
  · exact e
  · rw [B.met J hi h.1 e] at h
    cases h.2
theorem Bs.sub (B : Bs fl ws rp best floods) (J : Jd dn tr sp tw dl dh fl ws ar rp ix) (th : List Int) : ∀ i, i < fl.length -> ((rp i).2.2 && !Wd rp ix best i) = true -> ((rp i).2.2 && !Wd rp ix th i) = true := by
  intro i hi h
  have := B.none J hi h
  rw [this.1, J.no th this.2]
  rfl
theorem Bs.few (B : Bs fl ws rp best floods) (J : Jd dn tr sp tw dl dh fl ws ar rp ix) {th : List Int} (hl : th.length = ws.length) (he : (Wn.ch fl.length fun i => (rp i).2.2 && !Wd rp ix th i).length = (Wn.ch fl.length fun i => (rp i).2.2 && !Wd rp ix best i).length) :
    (Wn.ch fl.length fun i => !(rp i).2.2 && Wd rp ix best i).length <= (Wn.ch fl.length fun i => !(rp i).2.2 && Wd rp ix th i).length := by
  refine Wn.ch_mono fun i hi h => ?_
  rw [Bool.and_eq_true] at h ⊢
  refine ⟨h.1, ?_⟩
  rcases (J.ok i hi).w with e | e
  · rw [J.no best e] at h
    cases h.2
  · obtain ⟨k, hk, e⟩ := mem_getD e 0
    have h2 := h.2
    rw [J.at best hk e.symm] at h2
    have h2 := of_decide_eq_true h2
    rw [J.at th hk e.symm]
    refine decide_eq_true ?_
    have hs := (J.ok i hi).s
    rcases B.th k hk with ⟨_, h3, _⟩ | ⟨j, hj, hq, _, h3, _⟩
    · omega
    · dsimp only at h3
      rw [Bool.and_eq_true, beq_iff_eq] at hq
      by_cases g : th.getD k 0 <= (rp j).2.1
      · omega
      · exfalso
        have hb := B.met J hj hq.1 (by rw [hq.2, getD_el ws hk]; exact List.getElem_mem hk)
        have := Wn.ch_lt (B.sub J th) hj (by rw [hq.1, J.at th hk hq.2, decide_eq_false g]; rfl) (by rw [hb, hq.1]; rfl)
        omega
theorem reports_ends (J : Jd dn tr sp tw dl dh fl ws ar rp ix) {i : Nat} (hi : i < fl.length) : (zaZ dn tr sp tw dl dh fl ws (i : Int)).Ends ((rp i).1, (rp i).2.2, 0) := by
  unfold zaZ
  refine M.i_bind J.post (M.i_bind (M.i_opt (fun _ => in_true (by omega) (by omega)) (fun h => by cases h)) (M.i_f rfl (M.i_f rfl (M.i_grd (gA2 (by omega) (by omega)) (M.i_bind (J.rep i hi) M.i_pure)))))
theorem copy_ends {l : List Int} (h : l.length <= 1000) : (zbn l).Ends l := M.i_grd (decide_eq_true (by simp; omega)) M.i_pure
theorem judged_b1 (B : Bs fl ws rp best floods) (J : Jd dn tr sp tw dl dh fl ws ar rp ix) : (M.iter (zaM dn tr sp tw dl dh fl ws (Wn.ch fl.length fun i => (rp i).2.2 && !Wd rp ix best i)) 0).Ends (.inr ()) := by
  refine M.i_for (fun i => i) (Wn.ch fl.length fun i => (rp i).2.2 && !Wd rp ix best i).length (fun i hi => ?_) ?_
  · simp only [zaM]
    obtain ⟨e, he, hq, hx⟩ := Wn.mem_ch.1 (show (Wn.ch fl.length fun i => (rp i).2.2 && !Wd rp ix best i).getD i 0 ∈ Wn.ch fl.length fun i => (rp i).2.2 && !Wd rp ix best i by rw [getD_el _ hi]; exact List.getElem_mem hi)
    rw [hx]
    have h := B.none J he hq
    refine M.i_t (decide_eq_true (by omega)) (M.i_grd (decide_eq_true (by omega)) (M.i_bind (reports_ends J he) (M.i_f ?_ M.i_pure)))
    dsimp only
    rw [h.1, h.2]
    rfl
  · simp only [zaM]
    exact M.i_f (decide_eq_false (by omega)) M.i_pure
theorem judged_b2 (J : Jd dn tr sp tw dl dh fl ws ar rp ix) (th : List Int) : (M.iter (zaL dn tr sp tw dl dh fl ws (Wn.ch fl.length fun i => !(rp i).2.2 && Wd rp ix th i)) 0).Ends (.inr ()) := by
  refine M.i_for (fun i => i) (Wn.ch fl.length fun i => !(rp i).2.2 && Wd rp ix th i).length (fun i hi => ?_) ?_
  · simp only [zaL]
    obtain ⟨e, he, hq, hx⟩ := Wn.mem_ch.1 (show (Wn.ch fl.length fun i => !(rp i).2.2 && Wd rp ix th i).getD i 0 ∈ Wn.ch fl.length fun i => !(rp i).2.2 && Wd rp ix th i by rw [getD_el _ hi]; exact List.getElem_mem hi)
    rw [hx]
    rw [Bool.and_eq_true] at hq
    have h : (rp e).1 ≠ -1 := fun h => by
      rw [J.no th h] at hq
      cases hq.2
    refine M.i_t (decide_eq_true (by omega)) (M.i_grd (decide_eq_true (by omega)) (M.i_bind (reports_ends J he) (M.i_f ?_ M.i_pure)))
    dsimp only
    rw [beq_eq_false_iff_ne.2 h, show (rp e).2.2 = false by have := hq.1; simpa using this]
    rfl
  · simp only [zaL]
    exact M.i_f (decide_eq_false (by omega)) M.i_pure
theorem judged_b4 (fs l : List Int) (k : Nat) : (M.iter (zaJ fs k l) (false, 0)).Ends (l.contains (fs.getD k 0)) := by
  refine M.Out.ends ?_
  refine M.o_for l.length (fun i (t : Bool × Nat) => t = ((l.take i).contains (fs.getD k 0), i)) ?_ ?_ (by simp)
  · rintro i _ hi rfl
    simp only [zaJ]
    refine M.o_t (decide_eq_true (by omega)) (M.o_grd (gOr (by omega)) (M.o_pure ?_))
    rw [List.take_succ_eq_append_getElem hi, show l.getD i 0 = l[i] from by simp [List.getD, hi]]
    congr 1
    rw [Bool.eq_iff_iff]
    rw [Bool.or_eq_true, List.contains_iff_mem, List.contains_iff_mem, List.mem_append, List.mem_singleton, beq_iff_eq]
    exact or_congr Iff.rfl ⟨Eq.symm, Eq.symm⟩
  · rintro _ rfl
    simp only [zaJ]
    refine M.o_f (decide_eq_false (by omega)) (M.o_pure ?_)
    rw [List.take_length]
theorem judged_b5 (B : Bs fl ws rp best floods) (J : Jd dn tr sp tw dl dh fl ws ar rp ix) : (M.iter (zaC dn tr sp tw dl dh fl ws best floods (Wn.ch fl.length fun i => (rp i).2.2 && !Wd rp ix best i)) 0).Ends (.inr ()) := by
  have hw := nodup_bound dn.length ws (J.up.imp fun h => by omega) J.bd
  have h12 := J.R.n12
  have l1 := B.l1
  have l2 := B.l2
  refine M.i_for (fun i => i) best.length (fun k hk => ?_) ?_
  · simp only [zaC]
    refine M.i_t (decide_eq_true (by omega)) (M.i_grd (decide_eq_true (by omega)) ?_)
    rcases B.th k (by omega) with ⟨h1, h2, _⟩ | ⟨j, hj, hq, h1, h2, _⟩
    · rw [h1, h2]
      exact M.i_f rfl (M.i_t rfl M.i_pure)
    · dsimp only at h2
      have hs := (J.ok j hj).s
      rw [Bool.and_eq_true, beq_iff_eq] at hq
      rw [h1, h2]
      have c1 : ((j : Int) == -1) = false := beq_eq_false_iff_ne.2 (by omega)
      have hl : (best.set k ((rp j).2.1 + 1)).length = ws.length := by rw [List.length_set, l1]
      have hv : ∀ x ∈ best.set k ((rp j).2.1 + 1), 0 <= x /\ x <= 2001 := by
        intro x hx
        rcases List.mem_or_eq_of_mem_set hx with h | h
        · exact B.in J x h
        · omega
      have hwd : Wd rp ix (best.set k ((rp j).2.1 + 1)) j = false := by
        rw [J.at _ (by omega) hq.2, gset _ _ _ _ _ hk, if_pos rfl]
        exact decide_eq_false (by omega)
      have hbd : Wd rp ix best j = true := B.met J hj hq.1 (by rw [hq.2, getD_el ws (by omega)]; exact List.getElem_mem _)
      have hlt := Wn.ch_lt (B.sub J (best.set k ((rp j).2.1 + 1))) hj (by rw [hq.1, hwd]; rfl) (by rw [hq.1, hbd]; rfl)
      refine M.i_f (by rw [c1, beq_eq_false_iff_ne.2 (by omega)]; rfl) (M.i_f (by rw [c1, decide_eq_false (by omega)]; rfl) (M.i_bind (copy_ends (by omega)) ?_))
      rw [h2]
      refine M.i_grd (decide_eq_true (by omega)) (M.i_grd (gA2 (by omega) (by omega)) (M.i_bind (judge_ends J hl hv) ?_))
      dsimp only
      refine M.i_bind (judged_b4 _ _ _) (M.i_f ?_ M.i_pure)
      rw [h1, List.contains_iff_mem.2 (Wn.mem_ch.2 ⟨j, hj, by rw [hq.1, hwd]; rfl, rfl⟩), decide_eq_false (by omega)]
      rfl
  · simp only [zaC]
    exact M.i_f (decide_eq_false (by omega)) M.i_pure
theorem judged_b0 {b : List UInt8} (h12 : dn.length <= 12) {c u x : Int} (hS : SOk c u x) (hc : c <= 1000000) :
    (M.iter (zaE b dn) (u, x, 0, [])).Out (fun y => SOk (c + 12) y.1 y.2.1 /\ y.2.2.2.Pairwise (· < ·) /\ ∀ z ∈ y.2.2.2, 0 <= z /\ z < (dn.length : Int)) := by
  refine M.o_for dn.length (fun i (t : Int × Int × Nat × List Int) => t.2.2.1 = i /\ SOk (c + i) t.1 t.2.1 /\ t.2.2.2.Pairwise (· < ·) /\ t.2.2.2.length <= i /\ ∀ z ∈ t.2.2.2, 0 <= z /\ z < (i : Int)) ?_ ?_ ⟨rfl, hS.mono (by omega), List.Pairwise.nil, Nat.le_refl _, fun z hz => by cases hz⟩
  · rintro _ ⟨u1, x1, i, l⟩ hi ⟨rfl, h1, h2, h3, h4⟩
    dsimp only at hi h1 h2 h3 h4
    simp only [zaE]
    refine M.o_t (decide_eq_true (by omega)) (M.o_bind (next_out h1 (by omega) (by omega)) ?_)
    rintro ⟨r, u2, x2⟩ ⟨k, hl, _⟩
    dsimp only at k ⊢
    refine M.o_if (fun _ => M.o_grdD (by simp; omega) (M.o_pure ⟨rfl, k.mono (by omega), ?_, ?_, fun z hz => ?_⟩)) (fun _ => M.o_pure ⟨rfl, k.mono (by omega), h2, by dsimp only; omega, fun z hz => ?_⟩)
    · dsimp only
      rw [List.pairwise_append]
      refine ⟨h2, List.pairwise_singleton _ _, fun a ha b hb => ?_⟩
      rw [List.mem_singleton] at hb
      have := h4 a ha
      omega
    · dsimp only
      simp; omega
    · dsimp only at hz
      rw [List.mem_append, List.mem_singleton] at hz
      rcases hz with hz | hz
      · have := h4 z hz
        omega
      · omega
    · have := h4 z hz
      omega
  · rintro ⟨u1, x1, i, l⟩ ⟨e, h1, h2, h3, h4⟩
    dsimp only at e h1 h2 h3 h4
    subst e
    simp only [zaE]
    exact M.o_f (decide_eq_false (by omega)) (M.o_pure ⟨h1.mono (by omega), h2, h4⟩)
theorem judged_b7 {b : List UInt8} {l : List Int} (hl : l.length <= 12) (hv : ∀ x ∈ l, 0 <= x /\ x <= 2001) {c u x : Int} (hS : SOk c u x) (hc : c <= 1000000) :
    (M.iter (zaQ b) (u, x, l, 0)).Out (fun y => SOk (c + 24) y.1 y.2.1 /\ y.2.2.2.length = l.length /\ ∀ z ∈ y.2.2.2, 0 <= z /\ z <= 2001) := by
  refine M.o_for l.length (fun i (t : Int × Int × List Int × Nat) => t.2.2.2 = i /\ SOk (c + 2 * i) t.1 t.2.1 /\ t.2.2.1.length = l.length /\ ∀ z ∈ t.2.2.1, 0 <= z /\ z <= 2001) ?_ ?_ ⟨rfl, hS.mono (by omega), rfl, hv⟩
  · rintro _ ⟨u1, x1, l1, i⟩ hi ⟨rfl, h1, h2, h3⟩
    dsimp only at hi h1 h2 h3
    simp only [zaQ]
    have hm := h3 (l1.getD i 0) (by rw [getD_el l1 (by omega)]; exact List.getElem_mem _)
    refine M.o_t (decide_eq_true (by omega)) (M.o_bind (next_out h1 (by omega) (by omega)) ?_)
    rintro ⟨r, u2, x2⟩ ⟨k, _, _⟩
    dsimp only at k ⊢
    refine M.o_if (fun _ => M.o_bind (next_out k (by omega) (by omega)) ?_) (fun _ => M.o_if (fun _ => M.o_grdD (by omega) (M.o_bind (next_out k (by omega) (by omega)) ?_)) (fun _ => M.o_pure ⟨rfl, k.mono (by omega), h2, h3⟩))
    · rintro ⟨r3, u3, x3⟩ ⟨k3, g3, _⟩
      have g3 := g3 (by omega)
      dsimp only at k3 g3 ⊢
      refine M.o_grdD (by omega) (M.o_pure ⟨rfl, k3.mono (by omega), by dsimp only; rw [List.length_set, h2], fun z hz => ?_⟩)
      rcases List.mem_or_eq_of_mem_set hz with h | h
      · exact h3 z h
      · omega
    · rintro ⟨r3, u3, x3⟩ ⟨k3, g3, _⟩
      have g3 := g3 (by omega)
      dsimp only at k3 g3 ⊢
      refine M.o_grd (gA2 (by omega) (by omega)) (M.o_pure ⟨rfl, k3.mono (by omega), by dsimp only; rw [List.length_set, h2], fun z hz => ?_⟩)
      rcases List.mem_or_eq_of_mem_set hz with h | h
      · exact h3 z h
      · omega
  · rintro ⟨u1, x1, l1, i⟩ ⟨e, h1, h2, h3⟩
    dsimp only at e h1 h2 h3
    subst e
    simp only [zaQ]
    exact M.o_f (decide_eq_false (by omega)) (M.o_pure ⟨h1.mono (by omega), h2, h3⟩)
theorem judged_b8 {b : List UInt8} (B : Bs fl ws rp best floods) (J : Jd dn tr sp tw dl dh fl ws ar rp ix) {c u x : Int} (hS : SOk c u x) (hc : c <= 100000) :
    (M.iter (zaH b dn tr sp tw dl dh fl ws best (Wn.ch fl.length fun i => (rp i).2.2 && !Wd rp ix best i) (Wn.ch fl.length fun i => !(rp i).2.2 && Wd rp ix best i)) (u, x, 0)).Out (fun y => ∃ z, y = .inr z) := by
  have hw := nodup_bound dn.length ws (J.up.imp fun h => by omega) J.bd
  have h12 := J.R.n12
  have l1 := B.l1
  refine M.o_for 6 (fun i (t : Int × Int × Nat) => t.2.2 = i /\ SOk (c + 24 * i) t.1 t.2.1) ?_ ?_ ⟨rfl, hS.mono (by omega)⟩
  · rintro _ ⟨u1, x1, i⟩ hi ⟨rfl, h1⟩
    dsimp only at hi h1
    simp only [zaH]
    refine M.o_t (decide_eq_true (by omega)) (M.o_bindE (copy_ends (by omega)) (M.o_bind (judged_b7 (by omega) (B.in J) h1 (by omega)) ?_))
    rintro ⟨u2, x2, l2, l3⟩ ⟨k1, k2, k3⟩
    dsimp only at k1 k2 k3 ⊢
    refine M.o_bindE (judge_ends J (by omega) k3) ?_
    dsimp only
    have a1 := Wn.ch_mono (B.sub J l3)
    refine M.o_f ?_ (M.o_pure ⟨rfl, k1.mono (by omega)⟩)
    rw [decide_eq_false (by omega)]
    by_cases e : (Wn.ch fl.length fun i => (rp i).2.2 && !Wd rp ix l3 i).length = (Wn.ch fl.length fun i => (rp i).2.2 && !Wd rp ix best i).length
    · have a2 := B.few J (by omega) e
      rw [decide_eq_false (show ¬ (((Wn.ch fl.length fun i => !(rp i).2.2 && Wd rp ix l3 i).length : Int) < ((Wn.ch fl.length fun i => !(rp i).2.2 && Wd rp ix best i).length : Int)) by omega)]
      simp
    · rw [beq_eq_false_iff_ne.2 (show ((Wn.ch fl.length fun i => (rp i).2.2 && !Wd rp ix l3 i).length : Int) ≠ ((Wn.ch fl.length fun i => (rp i).2.2 && !Wd rp ix best i).length : Int) by omega)]
      rfl
  · rintro ⟨u1, x1, i⟩ ⟨e, h1⟩
    dsimp only at e h1
    subst e
    simp only [zaH]
    exact M.o_f (decide_eq_false (by omega)) (M.o_pure ⟨_, rfl⟩)
theorem zcN (p t : List UInt8) : (zbT p t).Ends true := by
  refine M.Out.ends ?_
  unfold zbT
  have hnew : ∀ p, (zbA p).Ends (0, 0) := fun p => M.i_pure
  refine M.o_bindE (hnew p) (M.o_bind (made_out SOk.zero) ?_)
  rintro ⟨dn, tr, sp, tw, dl, dh, fl, q1, q2⟩ ⟨R, _, _⟩
  dsimp only at R ⊢
  refine M.o_bindE (hnew t) ?_
  dsimp only
  refine M.o_bind (judged_b0 R.n12 SOk.zero (by decide)) ?_
  rintro ⟨s4, s5, l2, ws⟩ ⟨hS, hu, hb⟩
  dsimp only at hS hu hb ⊢
  obtain ⟨ar, rp, ix, J⟩ := judged_is R hu hb
  refine M.o_bind (thresholds_out J) ?_
  rintro ⟨best, floods, e⟩ ⟨rfl, h1, h2, h3⟩
  dsimp only at h1 h2 h3 ⊢
  have B : Bs fl ws rp best floods := ⟨h1, h2, h3⟩
  refine M.o_bindE (judge_ends J h1 (B.in J)) ?_
  dsimp only
  refine M.o_f (by rw [h1, h2]; simp) (M.o_bindE (judged_b1 B J) (M.o_bindE (judged_b2 J best) (M.o_bindE (judged_b5 B J) (M.o_bind (judged_b8 B J hS (by decide)) ?_))))
  rintro _ ⟨⟨z1, z2⟩, rfl⟩
  exact M.o_bindE awake_ends (M.o_pure rfl)
end Go.Proofs.Ytbaehghammbjdaa
