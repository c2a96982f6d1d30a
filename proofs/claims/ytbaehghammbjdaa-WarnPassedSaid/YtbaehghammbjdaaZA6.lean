/- Part 6 of the texts on which the proof rests. Conditions: none. -/
import Derived.Test.YtbaehghammbjdaaZA5
set_option linter.unusedVariables false
set_option linter.unusedSimpArgs false
set_option linter.unusedSectionVars false
section
set_option maxRecDepth 100000
set_option maxHeartbeats 16000000
namespace Go.Proofs.Ytbaehghammbjdaa
open Go Go.Nm
def zbj (s_bytes : List UInt8) (i : Nat) (l : List Int) (l2 : List Span) (l3 : List Int) (down : Int) (r5 : Int) (r6 : Int) (q15 : Int) (q25 : Int) : M ((Int × Int × Nat × (List Int) × (List Span) × (List Int)) ⊕ (Int × Int × (List Int) × (List Span) × (List Int) × (List Int) × (List Span) × (List Int))) :=
  bif decide ((l3.length : Int) < 8) then (
  M.bind (zac s_bytes q15 q25 3) fun (r7, q16, q26) =>
  bif ((decide ((l3.length : Int) < 8)) && (r7 == 0)) then (
  M.grd (decide ((l3.length + ([(i : Int)]).length) * 8 <= 140737488355328)) <|
  M.grd (decide ((-9223372036854775808 : Int) <= ((i : Int) + 1)) && decide (((i : Int) + 1) <= (9223372036854775807 : Int))) <|
  M.pure (.inl (q16, q26, i + 1, l ++ ([(down : Int)]), l2 ++ ([(⟨(r5 : Int), (r5 + r6 : Int)⟩ : Span)]), l3 ++ ([(i : Int)]))))
  else (
  M.grd (decide ((-9223372036854775808 : Int) <= ((i : Int) + 1)) && decide (((i : Int) + 1) <= (9223372036854775807 : Int))) <|
  M.pure (.inl (q16, q26, i + 1, l ++ ([(down : Int)]), l2 ++ ([(⟨(r5 : Int), (r5 + r6 : Int)⟩ : Span)]), l3))))
  else (
  M.grd (decide ((-9223372036854775808 : Int) <= ((i : Int) + 1)) && decide (((i : Int) + 1) <= (9223372036854775807 : Int))) <|
  M.pure (.inl (q15, q25, i + 1, l ++ ([(down : Int)]), l2 ++ ([(⟨(r5 : Int), (r5 + r6 : Int)⟩ : Span)]), l3)))
def zan (s_bytes : List UInt8) (i : Nat) (l : List Int) (l2 : List Span) (l3 : List Int) (s2 : Int) (s3 : Int) (down : Int) : M ((Int × Int × Nat × (List Int) × (List Span) × (List Int)) ⊕ (Int × Int × (List Int) × (List Span) × (List Int) × (List Int) × (List Span) × (List Int))) :=
  M.bind (zac s_bytes s2 s3 9) fun (r5, q14, q24) =>
  M.grd (decide ((l.length + ([(down : Int)]).length) * 8 <= 140737488355328)) <|
  M.bind (zac s_bytes q14 q24 5) fun (r6, q15, q25) =>
  M.grd (decide ((-9223372036854775808 : Int) <= (r5 + r6)) && decide ((r5 + r6) <= (9223372036854775807 : Int))) <|
  M.grd (decide ((l2.length + ([(⟨(r5 : Int), (r5 + r6 : Int)⟩ : Span)]).length) * 16 <= 140737488355328)) <|
  zbj s_bytes i l l2 l3 down r5 r6 q15 q25
def zaC (s_bytes : List UInt8) (r2 : Int) : (Int × Int × Nat × (List Int) × (List Span) × (List Int)) -> M ((Int × Int × Nat × (List Int) × (List Span) × (List Int)) ⊕ (Int × Int × (List Int) × (List Span) × (List Int) × (List Int) × (List Span) × (List Int))) := fun (s4, s5, i, l, l2, l3) =>
  bif decide ((i : Int) < r2) then (
  M.grd (decide ((-9223372036854775808 : Int) <= ((i : Int) + 1)) && decide (((i : Int) + 1) <= (9223372036854775807 : Int))) <|
  bif decide (((i : Int) + 1) < r2) then (
  M.bind (zac s_bytes s4 s5 6) fun (r3, q12, q22) =>
  bif ((decide (((i : Int) + 1) < r2)) && (decide (0 < r3))) then (
  M.grd (decide ((-9223372036854775808 : Int) <= (r2 - 1)) && decide ((r2 - 1) <= (9223372036854775807 : Int))) <|
  M.grd (decide ((-9223372036854775808 : Int) <= ((i : Int) + 3)) && decide (((i : Int) + 3) <= (9223372036854775807 : Int))) <|
  M.bind (zaG s_bytes q12 q22 ((i : Int) + 1) (min (r2 - 1) ((i : Int) + 3))) fun (r4, q13, q23) =>
  zan s_bytes i l l2 l3 q13 q23 r4)
  else (
  zan s_bytes i l l2 l3 q12 q22 (-1)))
  else (
  zan s_bytes i l l2 l3 s4 s5 (-1)))
  else (
  M.pure (.inr (s4, s5, l, l2, l3, l3, l2, l)))
def za8 (s_bytes : List UInt8) (r2 : Int) : (Int × Int × Int × (List Town)) -> M ((Int × Int × Int × (List Town)) ⊕ (Int × Int × (List Town) × (List Town))) := fun (s8, s9, k, l11) =>
  bif decide (0 < k) then (
  M.bind (zac s_bytes s8 s9 r2) fun (r9, q18, q28) =>
  M.bind (zac s_bytes q18 q28 8) fun (r10, q19, q29) =>
  M.bind (zaG s_bytes q19 q29 100 300) fun (r11, q110, q210) =>
  M.grd (decide ((l11.length + ([(⟨(r9 : Int), (r10 : Int), (r11 : Int)⟩ : Town)]).length) * 24 <= 140737488355328)) <|
  M.grd (decide ((-9223372036854775808 : Int) <= (k - 1)) && decide ((k - 1) <= (9223372036854775807 : Int))) <|
  M.pure (.inl (q110, q210, k - 1, l11 ++ ([(⟨(r9 : Int), (r10 : Int), (r11 : Int)⟩ : Town)]))))
  else (
  M.pure (.inr (s8, s9, l11, l11)))
def zaN (s_bytes : List UInt8) (l9 : List Int) : (Int × Int × Int × (List Int)) -> M ((Int × Int × Int × (List Int)) ⊕ (Int × Int × (List Int) × (List Int))) := fun (s12, s13, s14, l14) =>
  bif s14 != (-1) then (
  M.bind (zac s_bytes s12 s13 400) fun (r16, q115, q215) =>
  M.grd (decide ((l14.length + ([(r16 : Int)]).length) * 8 <= 140737488355328)) <|
  M.grd (decide ((0 : Int) <= s14) && decide (s14 < (l9.length : Int))) <|
  M.pure (.inl (q115, q215, l9.getD (Int.toNat s14) 0, l14 ++ ([(r16 : Int)]))))
  else (
  M.pure (.inr (s12, s13, l14, l14)))
def zbi (s_bytes : List UInt8) (l9 : List Int) (l10 : List Int) (k2 : Int) (l17 : List Flood) (r15 : Int) (q114 : Int) (q214 : Int) : M ((Int × Int × Int × (List Flood)) ⊕ ((List Flood) × (List Flood) × Int × Int)) :=
  M.bind (M.iter (zaN s_bytes l9) (q114, q214, l10.getD (Int.toNat r15) 0, [])) fun (s15, s16, l15, l16) =>
  M.grd (decide ((l17.length + ([(⟨(l10.getD (Int.toNat r15) 0 : Int), l16⟩ : Flood)]).length) * 32 <= 140737488355328)) <|
  M.grd (decide ((-9223372036854775808 : Int) <= (k2 - 1)) && decide ((k2 - 1) <= (9223372036854775807 : Int))) <|
  M.pure (.inl (s15, s16, k2 - 1, l17 ++ ([(⟨(l10.getD (Int.toNat r15) 0 : Int), l16⟩ : Flood)])))
def za0 (s_bytes : List UInt8) (l9 : List Int) (l10 : List Int) : (Int × Int × Int × (List Flood)) -> M ((Int × Int × Int × (List Flood)) ⊕ ((List Flood) × (List Flood) × Int × Int)) := fun (s17, s18, k2, l17) =>
  bif decide (0 < k2) then (
  M.bind (zac s_bytes s17 s18 (l10.length : Int)) fun (r15, q114, q214) =>
  M.grd (decide ((0 : Int) <= r15) && decide (r15 < (l10.length : Int))) <|
  zbi s_bytes l9 l10 k2 l17 r15 q114 q214)
  else (
  M.pure (.inr (l17, l17, s17, s18)))
def zbe (s_bytes : List UInt8) (l8 : List Span) (l9 : List Int) (l10 : List Int) (l13 : List Town) (r12 : Int) (r13 : Int) (q112 : Int) (q212 : Int) : M ((List Int) × (List Span) × (List Int) × (List Town) × Int × Int × (List Flood) × Int × Int) :=
  M.bind (zac s_bytes q112 q212 10) fun (r14, q113, q213) =>
  M.bind (M.iter (za0 s_bytes l9 l10) (q113, q213, r14, [])) fun (l18, l19, s19, s20) =>
  M.pure (l9, l8, l10, l13, r12, (r12 + r13), l19, s19, s20)
def zaI (s_bytes : List UInt8) (r2 : Int) (s6 : Int) (s7 : Int) (l8 : List Span) (l9 : List Int) (l10 : List Int) : M ((List Int) × (List Span) × (List Int) × (List Town) × Int × Int × (List Flood) × Int × Int) :=
  M.bind (zac s_bytes s6 s7 8) fun (r8, q17, q27) =>
  M.bind (M.iter (za8 s_bytes r2) (q17, q27, r8, [])) fun (s10, s11, l12, l13) =>
  M.bind (zac s_bytes s10 s11 3) fun (r12, q111, q211) =>
  M.bind (zac s_bytes q111 q211 3) fun (r13, q112, q212) =>
  M.grd (decide ((-9223372036854775808 : Int) <= (r12 + r13)) && decide ((r12 + r13) <= (9223372036854775807 : Int))) <|
  zbe s_bytes l8 l9 l10 l13 r12 r13 q112 q212
def zbf (s_bytes : List UInt8) (s_used : Int) (s_mix : Int) (most : Int) : M ((List Int) × (List Span) × (List Int) × (List Town) × Int × Int × (List Flood) × Int × Int) :=
  M.bind (zaG s_bytes s_used s_mix 1 most) fun (r2, q1, q2) =>
  M.bind (M.iter (zaC s_bytes r2) (q1, q2, 0, [], [], [])) fun (s6, s7, l4, l5, l6, l7, l8, l9) =>
  bif (l7.length : Int) == 0 then (
  zaI s_bytes r2 s6 s7 l8 l9 ([(0 : Int)]))
  else (
  zaI s_bytes r2 s6 s7 l8 l9 l7)
theorem zc6 {R : List Chunk} {b_s : Nat} {C_s_bytes : Cells} {v_s_bytes : Value} (s_bytes : List UInt8) (s_used : Int) (s_mix : Int) (most : Int) (hC_s_bytes : Reads R C_s_bytes) (hs_s_bytes : Sl C_s_bytes v_s_bytes s_bytes) {r : ((List Int) × (List Span) × (List Int) × (List Town) × Int × Int × (List Flood) × Int × Int)} (hM : (zbf s_bytes s_used s_mix most).Ends r) (w : World) (H : St w w [cBlk b_s [v_s_bytes, I s_used, I s_mix] 71] R) : Ret Try.prog 8 #[.pointer (some ⟨b_s, 0, none⟩), I most] w fun v w' => ∃ (y0 : List Int) (y1 : List Span) (y2 : List Int) (y3 : List Town) (y4 : Int) (y5 : Int) (y6 : List Flood) (y7 : Int) (y8 : Int) (u0 : Value) (u1 : Value) (u2 : Value) (u3 : Value) (u4 : Value) (rr5 : List (Raw 1)) (Bs6 : Base), (y0, y1, y2, y3, y4, y5, y6, y7, y8) = r /\ v = .agg #[u0, u1, u2, u3, I y4, I y5, u4] /\ St w w' [cOwn (α := Int) 3 u0 y0, cOwn (α := Span) 27 u1 y1, cOwn (α := Int) 3 u2 y2, cOwn (α := Town) 54 u3 y3, cOwn (α := Raw 1) 67 u4 rr5, cRo Bs6, cBlk b_s [v_s_bytes, I y7, I y8] 71] R /\ RepR (α := Flood) Bs6.cells rr5 y6 := by
 refine ret_of_W Try.func8 rfl rfl rfl ?_
 refine W.seq ?_
 refine W.region rfl ?_
 refine t_alloc (cs := [.slice none 0 0, .slice none 0 0, .slice none 0 0, .slice none 0 0, I 0, I 0, .slice none 0 0]) H Al30 rfl ?_
 intro b_1 w1z H
 refine s_nil ?_
 refine W.seq ?_
 refine W.region rfl ?_
 refine t_alloc (cs := [.slice none 0 0, .slice none 0 0, .slice none 0 0, .slice none 0 0, I 0, I 0, .slice none 0 0]) H Al30 rfl ?_
 intro b_2 w2z H
 refine s_nil ?_
 refine W.seq ?_
 refine W.region rfl ?_
 refine s_val (x_mv (v := .pointer (some ⟨b_s, 0, none⟩)) rfl) ?_
 refine s_val (x_mv (v := I most) rfl) ?_
 obtain ⟨r4z, hx3z, hM⟩ := M.e_bind hM
 refine s_call cf27 [.pointer (some ⟨b_s, 0, none⟩), I 1, I most] rfl (zaF s_bytes s_used s_mix 1 most (hC_s_bytes.app _) hs_s_bytes hx3z _ ((H.pk [2, 0, 1]).gt 2)) ?_
 rintro vq w5z ⟨r2, q1, q2, hr6z, hvq, H2_⟩
 subst hr6z
 subst vq
 try dsimp only at hM
 replace H := H.pk [2, 0, 1] |>.bk H2_
 clear H2_
 refine s_val (x_as (v := I r2) rfl) ?_
 refine s_nil ?_
 refine W.seq ?_
 refine W.seq ?_
 refine W.region rfl ?_
 refine s_val (x_as (v := I 0) rfl) ?_
 refine s_nil ?_
 refine W.block ?_
 replace H := H.nilOwn (α := Int) 3
 replace H := H.nilOwn (α := Span) 27
 replace H := H.nilOwn (α := Int) 3
 obtain ⟨ex7z, hi8z, hk9z⟩ := M.e_bind hM
 obtain ⟨m0_, hi8z⟩ := M.e_iter hi8z
 refine W.loop (fun m σ W => ∃ (s4 : Int) (s5 : Int) (i : Nat) (l : List Int) (l2 : List Span) (l3 : List Int) (v_l : Value) (v_l2 : Value) (v_l3 : Value) (ρ : Env), σ = upds ρ [(0, .pointer (some ⟨b_s, 0, none⟩)), (4, .pointer (some ⟨b_1, 0, none⟩)), (5, .pointer (some ⟨b_2, 0, none⟩)), (6, I r2), (7, I (i : Int))] /\ M.iterN (zaC s_bytes r2) m (s4, s5, i, l, l2, l3) = some ex7z /\ St w W [cOwn (α := Int) 3 v_l3 l3, cOwn (α := Span) 27 v_l2 l2, cOwn (α := Int) 3 v_l l, cBlk b_s [v_s_bytes, I s4, I s5] 71, cBlk b_2 [v_l, v_l2, v_l3, .slice none 0 0, I 0, I 0, .slice none 0 0] 30, cBlk b_1 [.slice none 0 0, .slice none 0 0, .slice none 0 0, .slice none 0 0, I 0, I 0, .slice none 0 0] 30] R) ?_ ?_
 ·exact ⟨_, q1, q2, 0, [], [], [], (.slice none 0 0), (.slice none 0 0), (.slice none 0 0), _, upds_of _ _ ⟨rfl, rfl, rfl, rfl, rfl, trivial⟩, hi8z, H⟩
 rintro m12z σ w10z ⟨s4, s5, i, l, l2, l3, v_l, v_l2, v_l3, ρ, rfl, hI11z, H⟩
 obtain ⟨m13z, lt14z, x15z, hM, hN16z⟩ := M.e_iterN hI11z
 simp only [zaC] at hM
 clear hI11z
 refine W.seq ?_
 refine W.seq ?_
 refine W.region rfl ?_
 refine s_val (x_mv (v := I (i : Int)) rfl) ?_
 refine s_val (x_mv (v := I r2) rfl) ?_
 refine s_val (x_cmp (kd := .i64) (a := (i : Int)) (b := r2) (r := decide ((i : Int) < r2)) rfl rfl rfl) ?_
 refine s_nil ?_
 refine W.cond (decide ((i : Int) < r2)) rfl (fun c17z => ?_) (fun c17z => ?_)
 ·replace hM := M.e_t hM c17z
  simp only [decide_eq_true_eq, decide_eq_false_iff_not, beq_iff_eq, bne_iff_ne, beq_eq_false_iff_ne, bne_eq_false_iff_eq, ne_eq, Decidable.not_not] at c17z
  refine W.skip ?_
  refine W.seq ?_
  refine W.block ?_
  refine W.seq ?_
  refine W.region rfl ?_
  refine s_val (x_as (v := I (-1)) rfl) ?_
  refine s_nil ?_
  refine W.seqJ (fun σ W => ∃ (s2 : Int) (s3 : Int) (down : Int) (ρ : Env), σ = upds ρ [(0, .pointer (some ⟨b_s, 0, none⟩)), (4, .pointer (some ⟨b_1, 0, none⟩)), (5, .pointer (some ⟨b_2, 0, none⟩)), (6, I r2), (7, I (i : Int)), (8, I down)] /\ (zan s_bytes i l l2 l3 s2 s3 down).Ends x15z /\ St w W [cBlk b_s [v_s_bytes, I s2, I s3] 71, cOwn (α := Int) 3 v_l3 l3, cOwn (α := Span) 27 v_l2 l2, cOwn (α := Int) 3 v_l l, cBlk b_2 [v_l, v_l2, v_l3, .slice none 0 0, I 0, I 0, .slice none 0 0] 30, cBlk b_1 [.slice none 0 0, .slice none 0 0, .slice none 0 0, .slice none 0 0, I 0, I 0, .slice none 0 0] 30] R) ?_ ?_
  ·skip
   refine W.seq ?_
   refine W.region rfl ?_
   refine s_val (x_mv (v := I (i : Int)) rfl) ?_
   obtain ⟨sd18z, hM⟩ := M.e_grd hM
   simp only [Bool.and_eq_true, decide_eq_true_eq] at sd18z
   refine s_val (x_ari (a := (i : Int)) (b := 1) (r := (i : Int) + 1) rfl rfl rfl (by omega)) ?_
   refine s_val (x_mv (v := I r2) rfl) ?_
   refine s_val (x_cmp (kd := .i64) (a := (i : Int) + 1) (b := r2) (r := decide (((i : Int) + 1) < r2)) rfl rfl rfl) ?_
   refine s_val (x_mv (v := B (decide (((i : Int) + 1) < r2))) rfl) ?_
   refine g_val (decide (((i : Int) + 1) < r2)) (gy_t rfl) (fun hg => x_mv (v := .pointer (some ⟨b_s, 0, none⟩)) rfl) ?_
   refine g_splitV (decide (((i : Int) + 1) < r2)) (I 0) (gy_t rfl) (fun hg_ => ?_) (fun hg_ => ?_)
   ·replace hM := M.e_t hM hg_
    obtain ⟨r20z, hx19z, hM⟩ := M.e_bind hM
    refine s_call cf10 [.pointer (some ⟨b_s, 0, none⟩), I 6] (lst2 (gd_of (c := decide (((i : Int) + 1) < r2)) hg_ (.pointer (some ⟨b_s, 0, none⟩))) rfl) (zab s_bytes s4 s5 6 (hC_s_bytes.app _) hs_s_bytes hx19z _ ((H.pk [3, 0, 1, 2, 4, 5]).gt 5)) ?_
    rintro vq w21z ⟨r3, q12, q22, hr22z, hvq, H2_⟩
    subst hr22z
    subst vq
    try dsimp only at hM
    replace H := H.pk [3, 0, 1, 2, 4, 5] |>.bk H2_
    clear H2_
    refine g_val (decide (((i : Int) + 1) < r2)) (gy_t rfl) (fun hg => x_cmp (kd := .i64) (a := r3) (b := 0) (r := decide (0 < r3)) rfl rfl rfl) ?_
    refine s_val (x_pand (b := decide (((i : Int) + 1) < r2)) (r := decide (0 < r3)) rfl (fun hb => gd_of (c := decide (((i : Int) + 1) < r2)) (by first | exact hb | (rw [hb]; rfl) | simp_all) (B (decide (0 < r3)))) rfl) ?_
    refine s_nil ?_
    refine W.cond ((decide (((i : Int) + 1) < r2)) && (decide (0 < r3))) rfl (fun c23z => ?_) (fun c23z => ?_)
    ·replace hM := M.e_t hM c23z
     refine W.region rfl ?_
     refine s_val (x_mv (v := .pointer (some ⟨b_s, 0, none⟩)) rfl) ?_
     refine s_val (x_mv (v := I (i : Int)) rfl) ?_
     refine s_val (x_ari (a := (i : Int)) (b := 1) (r := (i : Int) + 1) rfl rfl rfl (by omega)) ?_
     refine s_val (x_mv (v := I r2) rfl) ?_
     obtain ⟨sd24z, hM⟩ := M.e_grd hM
     simp only [Bool.and_eq_true, decide_eq_true_eq] at sd24z
     refine s_val (x_ari (a := r2) (b := 1) (r := r2 - 1) rfl rfl rfl (by omega)) ?_
     refine s_val (x_mv (v := I (i : Int)) rfl) ?_
     obtain ⟨sd25z, hM⟩ := M.e_grd hM
     simp only [Bool.and_eq_true, decide_eq_true_eq] at sd25z
     refine s_val (x_ari (a := (i : Int)) (b := 3) (r := (i : Int) + 3) rfl rfl rfl (by omega)) ?_
     refine s_val (x_min (kd := .i64) (a := r2 - 1) (b := (i : Int) + 3) rfl rfl) ?_
     obtain ⟨r27z, hx26z, hM⟩ := M.e_bind hM
     refine s_call cf27 [.pointer (some ⟨b_s, 0, none⟩), I ((i : Int) + 1), I (min (r2 - 1) ((i : Int) + 3))] rfl (zaF s_bytes q12 q22 ((i : Int) + 1) (min (r2 - 1) ((i : Int) + 3)) (hC_s_bytes.app _) hs_s_bytes hx26z _ (H.gt 5)) ?_
     rintro vq w28z ⟨r4, q13, q23, hr29z, hvq, H2_⟩
     subst hr29z
     subst vq
     try dsimp only at hM
     replace H := H.bk H2_
     clear H2_
     refine s_val (x_as (v := I r4) rfl) ?_
     refine s_nil ?_
     exact ⟨q13, q23, r4, _, upds_of _ _ ⟨rfl, rfl, rfl, rfl, rfl, rfl, trivial⟩, hM, H⟩
    replace hM := M.e_f hM c23z
    refine W.skip ?_
    exact ⟨q12, q22, -1, _, upds_of _ _ ⟨rfl, rfl, rfl, rfl, rfl, rfl, trivial⟩, hM, H⟩
   replace hM := M.e_f hM hg_
   refine g_val (v := B false) (decide (((i : Int) + 1) < r2)) (gy_t rfl) (fun hg => Bool.noConfusion (hg_.symm.trans hg)) ?_
   refine s_val (x_pand0 (b := decide (((i : Int) + 1) < r2)) rfl (fun hb => gd_of (c := decide (((i : Int) + 1) < r2)) (by first | exact hb | (rw [hb]; rfl) | simp_all) (B false)) rfl) ?_
   refine s_nil ?_
   refine W.cond false rfl (fun c30z => ?_) (fun c30z => ?_)
   ·skip
    exact absurd c30z (by decide)
   skip
   refine W.skip ?_
   exact ⟨s4, s5, -1, _, upds_of _ _ ⟨rfl, rfl, rfl, rfl, rfl, rfl, trivial⟩, hM, (H.pk [3, 0, 1, 2, 4, 5])⟩
  rintro _ w31z ⟨s2, s3, down, ρ, rfl, hM, H⟩
  unfold zan at hM
  refine W.seq ?_
  refine W.region rfl ?_
  refine s_val (x_mv (v := .pointer (some ⟨b_s, 0, none⟩)) rfl) ?_
  obtain ⟨r33z, hx32z, hM⟩ := M.e_bind hM
  refine s_call cf10 [.pointer (some ⟨b_s, 0, none⟩), I 9] rfl (zab s_bytes s2 s3 9 (hC_s_bytes.app _) hs_s_bytes hx32z _ (H.gt 5)) ?_
  rintro vq w34z ⟨r5, q14, q24, hr35z, hvq, H2_⟩
  subst hr35z
  subst vq
  try dsimp only at hM
  replace H := H.bk H2_
  clear H2_
  refine s_val (x_as (v := I r5) rfl) ?_
  refine s_nil ?_
  refine W.seqJ (fun σ W => ∃ (r6 : Int) (q15 : Int) (q25 : Int) (uj_o_5 : Value) (uj_o_3 : Value) (uj_o_10 : Value) (uj_o_9 : Value) (ρ : Env), σ = upds ρ [(0, .pointer (some ⟨b_s, 0, none⟩)), (4, .pointer (some ⟨b_1, 0, none⟩)), (5, .pointer (some ⟨b_2, 0, none⟩)), (6, I r2), (7, I (i : Int))] /\ (zbj s_bytes i l l2 l3 down r5 r6 q15 q25).Ends x15z /\ St w W [cOwn (α := Span) 27 uj_o_5 ([(⟨(r5 : Int), (r5 + r6 : Int)⟩ : Span)]), cBlk b_s [v_s_bytes, I q15, I q25] 71, cOwn (α := Int) 3 uj_o_3 ([(down : Int)]), cOwn (α := Int) 3 v_l3 l3, cOwn (α := Span) 27 uj_o_10 (l2 ++ ([(⟨(r5 : Int), (r5 + r6 : Int)⟩ : Span)])), cOwn (α := Int) 3 uj_o_9 (l ++ ([(down : Int)])), cBlk b_2 [uj_o_9, uj_o_10, v_l3, .slice none 0 0, I 0, I 0, .slice none 0 0] 30, cBlk b_1 [.slice none 0 0, .slice none 0 0, .slice none 0 0, .slice none 0 0, I 0, I 0, .slice none 0 0] 30] R) ?_ ?_
  ·skip
   refine W.drawT (fun W => St w W [cOwn (α := Int) 3 v_l3 l3, cBlk b_1 [.slice none 0 0, .slice none 0 0, .slice none 0 0, .slice none 0 0, I 0, I 0, .slice none 0 0] 30] R) (.q 0 (.q 2 (.q 5 (.q 7 (.q 8 (.q 9 (.l3 1 (.l2 3 (.l2 4 (.l2 6 (.q 15 (.l 10 (.q 11 (.q 12 (.l 13 (.l 14 (.l 16 (.q 17 (.l 18 .nil))))))))) 10 (.q 11 (.q 12 (.l2 6 (.q 15 (.l 13 (.l 14 (.l 16 (.q 17 (.l 18 .nil)))))) 13 (.l 6 (.q 15 (.l 14 (.l 16 (.q 17 (.l 18 .nil)))))))))) 6 (.l 4 (.q 15 (.l 10 (.q 11 (.q 12 (.l 13 (.l 14 (.l 16 (.q 17 (.l 18 .nil))))))))))) 6 (.l 3 (.l 4 (.q 15 (.l 10 (.q 11 (.q 12 (.l 13 (.l 14 (.l 16 (.q 17 (.l 18 .nil)))))))))))) 3 (.l2 1 (.l2 4 (.l2 6 (.q 15 (.l 10 (.q 11 (.q 12 (.l 13 (.l 14 (.l 16 (.q 17 (.l 18 .nil))))))))) 10 (.q 11 (.q 12 (.l2 6 (.q 15 (.l 13 (.l 14 (.l 16 (.q 17 (.l 18 .nil)))))) 13 (.l 6 (.q 15 (.l 14 (.l 16 (.q 17 (.l 18 .nil)))))))))) 6 (.l 4 (.q 15 (.l 10 (.q 11 (.q 12 (.l 13 (.l 14 (.l 16 (.q 17 (.l 18 .nil))))))))))) 6 (.l 1 (.l 4 (.q 15 (.l 10 (.q 11 (.q 12 (.l 13 (.l 14 (.l 16 (.q 17 (.l 18 .nil)))))))))))) 6 (.l2 1 (.l 3 (.l 4 (.q 15 (.l 10 (.q 11 (.q 12 (.l 13 (.l 14 (.l 16 (.q 17 (.l 18 .nil))))))))))) 3 (.l 1 (.l 4 (.q 15 (.l 10 (.q 11 (.q 12 (.l 13 (.l 14 (.l 16 (.q 17 (.l 18 .nil))))))))))))))))))) mixed (by decide +kernel) rfl ?_
   intro w36z hx_
   replace H := H.ext hx_
   clear hx_
   refine ⟨(H.pk [1, 5]), ?_⟩
   refine t_q rfl (fun w' H => x_fa (a := .pointer (some ⟨b_2, 0, none⟩)) (v := .pointer (some ⟨b_2, 0, none⟩)) rfl (fa_blk (o := 0) Fd30_0 Sz23)) ?_
   refine t_q rfl (fun w' H => x_mv (v := I down) rfl) ?_
   refine t_q rfl (fun w' H => x_fa (a := .pointer (some ⟨b_2, 0, none⟩)) (v := .pointer (some ⟨b_2, 1, none⟩)) rfl (fa_blk (o := 0) Fd30_1 Sz24)) ?_
   refine t_q rfl (fun w' H => x_mv (v := I r5) rfl) ?_
   refine t_q rfl (fun w' H => x_mv (v := I r5) rfl) ?_
   refine t_q rfl (fun w' H => x_mv (v := .pointer (some ⟨b_s, 0, none⟩)) rfl) ?_
   refine t_l3 rfl rfl rfl ?_ ?_ ?_
   ·skip
    refine s_val (x_ld (p := .pointer (some ⟨b_2, 0, none⟩)) (v := v_l) rfl (ldb_sc Sc23 (H.blk (k := 4) rfl) rfl)) ?_
    have hvc_q39z := Sl.cells (ownSl (H.get (k := 2) rfl))
    have hvo_q39z := Sl.oc (ownSl (H.get (k := 2) rfl))
    have hvc_q40z := Sl.cells (ownSl (H.get (k := 3) rfl))
    have hvo_q40z := Sl.oc (ownSl (H.get (k := 3) rfl))
    refine s_nil ⟨(H.pk [1, 5]), ?_⟩
    refine t_l2 rfl rfl ?_ ?_
    ·skip
     refine t_bs (α := Int) T23 [I down] [(down : Int)] H rfl (.cons rfl (Flat.rep_enc _ (down : Int)) <| .nil) rfl rfl rfl ?_
     intro v60z w61z H
     have hvc_q62z := Sl.cells (ownSl (H.get (k := 0) rfl))
     have hvo_q62z := Sl.oc (ownSl (H.get (k := 0) rfl))
     refine s_nil ⟨(H.pk [2, 6]), ?_⟩
     refine t_l2 rfl rfl ?_ ?_
     ·skip
      obtain ⟨sd81z, hM⟩ := M.e_grd hM
      simp only [Bool.and_eq_true, decide_eq_true_eq] at sd81z
      refine t_app (α := Int) (k := 4) (l := l) (l2 := [(down : Int)]) (l' := l ++ ([(down : Int)])) (vy := v60z) T23 rfl H rfl rfl rfl (ownSl (H.get (k := 0) rfl)) (ownLe _ (H.get (k := 0) rfl)) (rfl) (by first | omega | (simp only [List.length_nil] at *; omega)) ?_
      intro v82z w83z H
      replace H := H.nf
      have hvc_q84z := Sl.cells (ownSl (H.get (k := 4) rfl))
      have hvo_q84z := Sl.oc (ownSl (H.get (k := 4) rfl))
      refine s_nil ⟨(H.pk [2, 6]), ?_⟩
      refine t_l2 rfl rfl ?_ ?_
      ·skip
       refine s_val (x_ld (p := .pointer (some ⟨b_2, 1, none⟩)) (v := v_l2) rfl (ldb_sc Sc24 (H.blk (k := 5) rfl) rfl)) ?_
       refine s_nil ⟨(H.pk [2, 6]), ?_⟩
       refine t_q rfl (fun w' H => x_fa (a := .pointer (some ⟨b_2, 0, none⟩)) (v := .pointer (some ⟨b_2, 0, none⟩)) rfl (fa_blk (o := 0) Fd30_0 Sz23)) ?_
       refine t_l rfl ?_
       obtain ⟨r98z, hx97z, hM⟩ := M.e_bind hM
       refine s_call cf10 [.pointer (some ⟨b_s, 0, none⟩), I 5] rfl (zab s_bytes q14 q24 5 (hC_s_bytes.app _) hs_s_bytes hx97z _ ((H.pk [1, 0, 2, 3, 4, 5, 6]).gt 6)) ?_
       rintro vq w99z ⟨r6, q15, q25, hr100z, hvq, H2_⟩
       subst hr100z
       subst vq
       try dsimp only at hM
       replace H := H.pk [1, 0, 2, 3, 4, 5, 6] |>.bk H2_
       clear H2_
       refine s_nil ⟨(H.pk [2, 6]), ?_⟩
       obtain ⟨sd101z, hM⟩ := M.e_grd hM
       simp only [Bool.and_eq_true, decide_eq_true_eq] at sd101z
       refine t_q rfl (fun w' H => x_ari (a := r5) (b := r6) (r := r5 + r6) rfl rfl rfl (by omega)) ?_
       refine t_q rfl (fun w' H => x_bld (ps := [(0, I r5), (1, I (r5 + r6))]) (zs := [I 0, I 0]) (L' := [I r5, I (r5 + r6)]) rfl Try.underlying27 Al27 rfl (Bd27 Try.underlying27) (.cons (cs := [I r5]) rfl rfl rfl rfl rfl <| .cons (cs := [I (r5 + r6)]) rfl rfl rfl rfl rfl <| .nil)) ?_
       refine t_l rfl ?_
       refine t_bs (α := Span) T24 [.agg #[I r5, I (r5 + r6)]] [(⟨(r5 : Int), (r5 + r6 : Int)⟩ : Span)] H rfl (.cons rfl (Flat.rep_enc _ (⟨(r5 : Int), (r5 + r6 : Int)⟩ : Span)) <| .nil) rfl rfl rfl ?_
       intro v102z w103z H
       have hvc_q104z := Sl.cells (ownSl (H.get (k := 0) rfl))
       have hvo_q104z := Sl.oc (ownSl (H.get (k := 0) rfl))
       refine s_nil ⟨(H.pk [3, 7]), ?_⟩
       refine t_l rfl ?_
       obtain ⟨sd105z, hM⟩ := M.e_grd hM
       simp only [Bool.and_eq_true, decide_eq_true_eq] at sd105z
       refine t_app (α := Span) (k := 4) (l := l2) (l2 := [(⟨(r5 : Int), (r5 + r6 : Int)⟩ : Span)]) (l' := l2 ++ ([(⟨(r5 : Int), (r5 + r6 : Int)⟩ : Span)])) (vy := v102z) T24 rfl H rfl rfl rfl (ownSl (H.get (k := 0) rfl)) (ownLe _ (H.get (k := 0) rfl)) (rfl) (by first | omega | (simp only [List.length_nil] at *; omega)) ?_
       intro v106z w107z H
       replace H := H.nf
       have hvc_q108z := Sl.cells (ownSl (H.get (k := 4) rfl))
       have hvo_q108z := Sl.oc (ownSl (H.get (k := 4) rfl))
       refine s_nil ⟨(H.pk [3, 7]), ?_⟩
       refine t_l rfl ?_
       refine t_sw 6 0 [v82z] v82z H rfl rfl Sz23 (Sl.cells (ownSl (H.get (k := 5) rfl))) rfl rfl (by simp only [List.all_cons, List.all_nil, Bool.true_and, Bool.and_true, Sl.oc (ownSl (H.get (k := 5) rfl))]; try rfl) ?_
       intro w109z H
       refine s_nil ⟨(H.pk [3, 7]), ?_⟩
       refine t_q rfl (fun w' H => x_fa (a := .pointer (some ⟨b_2, 0, none⟩)) (v := .pointer (some ⟨b_2, 1, none⟩)) rfl (fa_blk (o := 0) Fd30_1 Sz24)) ?_
       refine t_l rfl ?_
       refine t_sw 6 1 [v106z] v106z H rfl rfl Sz24 (Sl.cells (ownSl (H.get (k := 4) rfl))) rfl rfl (by simp only [List.all_cons, List.all_nil, Bool.true_and, Bool.and_true, Sl.oc (ownSl (H.get (k := 4) rfl))]; try rfl) ?_
       intro w110z H
       refine s_nil ⟨(H.pk [3, 7]), ?_⟩
       refine t_nil ?_
       exact ⟨r6, q15, q25, v102z, v60z, v106z, v82z, _, upds_of _ _ ⟨rfl, rfl, rfl, rfl, rfl, trivial⟩, hM, H⟩
      skip
      obtain ⟨r112z, hx111z, hM⟩ := M.e_bind hM
      refine s_call cf10 [.pointer (some ⟨b_s, 0, none⟩), I 5] rfl (zab s_bytes q14 q24 5 (hC_s_bytes.app _) hs_s_bytes hx111z _ ((H.pk [1, 0, 2, 3, 4, 5, 6]).gt 6)) ?_
      rintro vq w113z ⟨r6, q15, q25, hr114z, hvq, H2_⟩
      subst hr114z
      subst vq
      try dsimp only at hM
      replace H := H.pk [1, 0, 2, 3, 4, 5, 6] |>.bk H2_
      clear H2_
      refine s_nil ⟨(H.pk [2, 6]), ?_⟩
      obtain ⟨sd115z, hM⟩ := M.e_grd hM
      simp only [Bool.and_eq_true, decide_eq_true_eq] at sd115z
      refine t_q rfl (fun w' H => x_ari (a := r5) (b := r6) (r := r5 + r6) rfl rfl rfl (by omega)) ?_
      refine t_q rfl (fun w' H => x_bld (ps := [(0, I r5), (1, I (r5 + r6))]) (zs := [I 0, I 0]) (L' := [I r5, I (r5 + r6)]) rfl Try.underlying27 Al27 rfl (Bd27 Try.underlying27) (.cons (cs := [I r5]) rfl rfl rfl rfl rfl <| .cons (cs := [I (r5 + r6)]) rfl rfl rfl rfl rfl <| .nil)) ?_
      obtain ⟨sd118z, hM⟩ := M.e_grd hM
      simp only [Bool.and_eq_true, decide_eq_true_eq] at sd118z
      refine t_l2 rfl rfl ?_ ?_
      ·skip
       refine s_val (x_ld (p := .pointer (some ⟨b_2, 1, none⟩)) (v := v_l2) rfl (ldb_sc Sc24 (H.blk (k := 5) rfl) rfl)) ?_
       refine s_nil ⟨(H.pk [2, 6]), ?_⟩
       refine t_q rfl (fun w' H => x_fa (a := .pointer (some ⟨b_2, 0, none⟩)) (v := .pointer (some ⟨b_2, 0, none⟩)) rfl (fa_blk (o := 0) Fd30_0 Sz23)) ?_
       refine t_l rfl ?_
       refine t_bs (α := Span) T24 [.agg #[I r5, I (r5 + r6)]] [(⟨(r5 : Int), (r5 + r6 : Int)⟩ : Span)] H rfl (.cons rfl (Flat.rep_enc _ (⟨(r5 : Int), (r5 + r6 : Int)⟩ : Span)) <| .nil) rfl rfl rfl ?_
       intro v123z w124z H
       have hvc_q125z := Sl.cells (ownSl (H.get (k := 0) rfl))
       have hvo_q125z := Sl.oc (ownSl (H.get (k := 0) rfl))
       refine s_nil ⟨(H.pk [3, 7]), ?_⟩
       refine t_l rfl ?_
       refine t_app (α := Span) (k := 4) (l := l2) (l2 := [(⟨(r5 : Int), (r5 + r6 : Int)⟩ : Span)]) (l' := l2 ++ ([(⟨(r5 : Int), (r5 + r6 : Int)⟩ : Span)])) (vy := v123z) T24 rfl H rfl rfl rfl (ownSl (H.get (k := 0) rfl)) (ownLe _ (H.get (k := 0) rfl)) (rfl) (by first | omega | (simp only [List.length_nil] at *; omega)) ?_
       intro v126z w127z H
       replace H := H.nf
       have hvc_q128z := Sl.cells (ownSl (H.get (k := 4) rfl))
       have hvo_q128z := Sl.oc (ownSl (H.get (k := 4) rfl))
       refine s_nil ⟨(H.pk [3, 7]), ?_⟩
       refine t_l rfl ?_
       refine t_sw 6 0 [v82z] v82z H rfl rfl Sz23 (Sl.cells (ownSl (H.get (k := 5) rfl))) rfl rfl (by simp only [List.all_cons, List.all_nil, Bool.true_and, Bool.and_true, Sl.oc (ownSl (H.get (k := 5) rfl))]; try rfl) ?_
       intro w129z H
       refine s_nil ⟨(H.pk [3, 7]), ?_⟩
       refine t_q rfl (fun w' H => x_fa (a := .pointer (some ⟨b_2, 0, none⟩)) (v := .pointer (some ⟨b_2, 1, none⟩)) rfl (fa_blk (o := 0) Fd30_1 Sz24)) ?_
       refine t_l rfl ?_
       refine t_sw 6 1 [v126z] v126z H rfl rfl Sz24 (Sl.cells (ownSl (H.get (k := 4) rfl))) rfl rfl (by simp only [List.all_cons, List.all_nil, Bool.true_and, Bool.and_true, Sl.oc (ownSl (H.get (k := 4) rfl))]; try rfl) ?_
       intro w130z H
       refine s_nil ⟨(H.pk [3, 7]), ?_⟩
       refine t_nil ?_
       exact ⟨r6, q15, q25, v123z, v60z, v126z, v82z, _, upds_of _ _ ⟨rfl, rfl, rfl, rfl, rfl, trivial⟩, hM, H⟩
      skip
      refine t_bs (α := Span) T24 [.agg #[I r5, I (r5 + r6)]] [(⟨(r5 : Int), (r5 + r6 : Int)⟩ : Span)] H rfl (.cons rfl (Flat.rep_enc _ (⟨(r5 : Int), (r5 + r6 : Int)⟩ : Span)) <| .nil) rfl rfl rfl ?_
      intro v131z w132z H
      have hvc_q133z := Sl.cells (ownSl (H.get (k := 0) rfl))
      have hvo_q133z := Sl.oc (ownSl (H.get (k := 0) rfl))
      refine s_nil ⟨(H.pk [3, 7]), ?_⟩
      refine t_l rfl ?_
      refine s_val (x_ld (p := .pointer (some ⟨b_2, 1, none⟩)) (v := v_l2) rfl (ldb_sc Sc24 (H.blk (k := 6) rfl) rfl)) ?_
      refine s_nil ⟨(H.pk [3, 7]), ?_⟩
      refine t_q rfl (fun w' H => x_fa (a := .pointer (some ⟨b_2, 0, none⟩)) (v := .pointer (some ⟨b_2, 0, none⟩)) rfl (fa_blk (o := 0) Fd30_0 Sz23)) ?_
      refine t_l rfl ?_
      refine t_app (α := Span) (k := 4) (l := l2) (l2 := [(⟨(r5 : Int), (r5 + r6 : Int)⟩ : Span)]) (l' := l2 ++ ([(⟨(r5 : Int), (r5 + r6 : Int)⟩ : Span)])) (vy := v131z) T24 rfl H rfl rfl rfl (ownSl (H.get (k := 0) rfl)) (ownLe _ (H.get (k := 0) rfl)) (rfl) (by first | omega | (simp only [List.length_nil] at *; omega)) ?_
      intro v134z w135z H
      replace H := H.nf
      have hvc_q136z := Sl.cells (ownSl (H.get (k := 4) rfl))
      have hvo_q136z := Sl.oc (ownSl (H.get (k := 4) rfl))
      refine s_nil ⟨(H.pk [3, 7]), ?_⟩
      refine t_l rfl ?_
      refine t_sw 6 0 [v82z] v82z H rfl rfl Sz23 (Sl.cells (ownSl (H.get (k := 5) rfl))) rfl rfl (by simp only [List.all_cons, List.all_nil, Bool.true_and, Bool.and_true, Sl.oc (ownSl (H.get (k := 5) rfl))]; try rfl) ?_
      intro w137z H
      refine s_nil ⟨(H.pk [3, 7]), ?_⟩
      refine t_q rfl (fun w' H => x_fa (a := .pointer (some ⟨b_2, 0, none⟩)) (v := .pointer (some ⟨b_2, 1, none⟩)) rfl (fa_blk (o := 0) Fd30_1 Sz24)) ?_
      refine t_l rfl ?_
      refine t_sw 6 1 [v134z] v134z H rfl rfl Sz24 (Sl.cells (ownSl (H.get (k := 4) rfl))) rfl rfl (by simp only [List.all_cons, List.all_nil, Bool.true_and, Bool.and_true, Sl.oc (ownSl (H.get (k := 4) rfl))]; try rfl) ?_
      intro w138z H
      refine s_nil ⟨(H.pk [3, 7]), ?_⟩
      refine t_nil ?_
      exact ⟨r6, q15, q25, v131z, v60z, v134z, v82z, _, upds_of _ _ ⟨rfl, rfl, rfl, rfl, rfl, trivial⟩, hM, H⟩
     skip
     refine s_val (x_ld (p := .pointer (some ⟨b_2, 1, none⟩)) (v := v_l2) rfl (ldb_sc Sc24 (H.blk (k := 5) rfl) rfl)) ?_
     refine s_nil ⟨(H.pk [2, 6]), ?_⟩
     refine t_l rfl ?_
     obtain ⟨sd139z, hM⟩ := M.e_grd hM
     simp only [Bool.and_eq_true, decide_eq_true_eq] at sd139z
     refine t_app (α := Int) (k := 4) (l := l) (l2 := [(down : Int)]) (l' := l ++ ([(down : Int)])) (vy := v60z) T23 rfl H rfl rfl rfl (ownSl (H.get (k := 0) rfl)) (ownLe _ (H.get (k := 0) rfl)) (rfl) (by first | omega | (simp only [List.length_nil] at *; omega)) ?_
     intro v140z w141z H
     replace H := H.nf
     have hvc_q142z := Sl.cells (ownSl (H.get (k := 4) rfl))
     have hvo_q142z := Sl.oc (ownSl (H.get (k := 4) rfl))
     refine s_nil ⟨(H.pk [2, 6]), ?_⟩
     refine t_q rfl (fun w' H => x_fa (a := .pointer (some ⟨b_2, 0, none⟩)) (v := .pointer (some ⟨b_2, 0, none⟩)) rfl (fa_blk (o := 0) Fd30_0 Sz23)) ?_
     refine t_l rfl ?_
     obtain ⟨r144z, hx143z, hM⟩ := M.e_bind hM
     refine s_call cf10 [.pointer (some ⟨b_s, 0, none⟩), I 5] rfl (zab s_bytes q14 q24 5 (hC_s_bytes.app _) hs_s_bytes hx143z _ ((H.pk [1, 0, 2, 3, 4, 5, 6]).gt 6)) ?_
     rintro vq w145z ⟨r6, q15, q25, hr146z, hvq, H2_⟩
     subst hr146z
     subst vq
     try dsimp only at hM
     replace H := H.pk [1, 0, 2, 3, 4, 5, 6] |>.bk H2_
     clear H2_
     refine s_nil ⟨(H.pk [2, 6]), ?_⟩
     obtain ⟨sd147z, hM⟩ := M.e_grd hM
     simp only [Bool.and_eq_true, decide_eq_true_eq] at sd147z
     refine t_q rfl (fun w' H => x_ari (a := r5) (b := r6) (r := r5 + r6) rfl rfl rfl (by omega)) ?_
     refine t_q rfl (fun w' H => x_bld (ps := [(0, I r5), (1, I (r5 + r6))]) (zs := [I 0, I 0]) (L' := [I r5, I (r5 + r6)]) rfl Try.underlying27 Al27 rfl (Bd27 Try.underlying27) (.cons (cs := [I r5]) rfl rfl rfl rfl rfl <| .cons (cs := [I (r5 + r6)]) rfl rfl rfl rfl rfl <| .nil)) ?_
     refine t_l rfl ?_
     refine t_bs (α := Span) T24 [.agg #[I r5, I (r5 + r6)]] [(⟨(r5 : Int), (r5 + r6 : Int)⟩ : Span)] H rfl (.cons rfl (Flat.rep_enc _ (⟨(r5 : Int), (r5 + r6 : Int)⟩ : Span)) <| .nil) rfl rfl rfl ?_
     intro v148z w149z H
     have hvc_q150z := Sl.cells (ownSl (H.get (k := 0) rfl))
     have hvo_q150z := Sl.oc (ownSl (H.get (k := 0) rfl))
     refine s_nil ⟨(H.pk [3, 7]), ?_⟩
     refine t_l rfl ?_
     obtain ⟨sd151z, hM⟩ := M.e_grd hM
     simp only [Bool.and_eq_true, decide_eq_true_eq] at sd151z
     refine t_app (α := Span) (k := 4) (l := l2) (l2 := [(⟨(r5 : Int), (r5 + r6 : Int)⟩ : Span)]) (l' := l2 ++ ([(⟨(r5 : Int), (r5 + r6 : Int)⟩ : Span)])) (vy := v148z) T24 rfl H rfl rfl rfl (ownSl (H.get (k := 0) rfl)) (ownLe _ (H.get (k := 0) rfl)) (rfl) (by first | omega | (simp only [List.length_nil] at *; omega)) ?_
     intro v152z w153z H
     replace H := H.nf
     have hvc_q154z := Sl.cells (ownSl (H.get (k := 4) rfl))
     have hvo_q154z := Sl.oc (ownSl (H.get (k := 4) rfl))
     refine s_nil ⟨(H.pk [3, 7]), ?_⟩
     refine t_l rfl ?_
     refine t_sw 6 0 [v140z] v140z H rfl rfl Sz23 (Sl.cells (ownSl (H.get (k := 5) rfl))) rfl rfl (by simp only [List.all_cons, List.all_nil, Bool.true_and, Bool.and_true, Sl.oc (ownSl (H.get (k := 5) rfl))]; try rfl) ?_
     intro w155z H
     refine s_nil ⟨(H.pk [3, 7]), ?_⟩
     refine t_q rfl (fun w' H => x_fa (a := .pointer (some ⟨b_2, 0, none⟩)) (v := .pointer (some ⟨b_2, 1, none⟩)) rfl (fa_blk (o := 0) Fd30_1 Sz24)) ?_
     refine t_l rfl ?_
     refine t_sw 6 1 [v152z] v152z H rfl rfl Sz24 (Sl.cells (ownSl (H.get (k := 4) rfl))) rfl rfl (by simp only [List.all_cons, List.all_nil, Bool.true_and, Bool.and_true, Sl.oc (ownSl (H.get (k := 4) rfl))]; try rfl) ?_
     intro w156z H
     refine s_nil ⟨(H.pk [3, 7]), ?_⟩
     refine t_nil ?_
     exact ⟨r6, q15, q25, v148z, v60z, v152z, v140z, _, upds_of _ _ ⟨rfl, rfl, rfl, rfl, rfl, trivial⟩, hM, H⟩
    skip
    refine s_val (x_ld (p := .pointer (some ⟨b_2, 1, none⟩)) (v := v_l2) rfl (ldb_sc Sc24 (H.blk (k := 4) rfl) rfl)) ?_
    refine s_nil ⟨(H.pk [1, 5]), ?_⟩
    refine t_l rfl ?_
    refine t_bs (α := Int) T23 [I down] [(down : Int)] H rfl (.cons rfl (Flat.rep_enc _ (down : Int)) <| .nil) rfl rfl rfl ?_
    intro v157z w158z H
    have hvc_q159z := Sl.cells (ownSl (H.get (k := 0) rfl))
    have hvo_q159z := Sl.oc (ownSl (H.get (k := 0) rfl))
    refine s_nil ⟨(H.pk [2, 6]), ?_⟩
    refine t_l rfl ?_
    obtain ⟨sd160z, hM⟩ := M.e_grd hM
    simp only [Bool.and_eq_true, decide_eq_true_eq] at sd160z
    refine t_app (α := Int) (k := 4) (l := l) (l2 := [(down : Int)]) (l' := l ++ ([(down : Int)])) (vy := v157z) T23 rfl H rfl rfl rfl (ownSl (H.get (k := 0) rfl)) (ownLe _ (H.get (k := 0) rfl)) (rfl) (by first | omega | (simp only [List.length_nil] at *; omega)) ?_
    intro v161z w162z H
    replace H := H.nf
    have hvc_q163z := Sl.cells (ownSl (H.get (k := 4) rfl))
    have hvo_q163z := Sl.oc (ownSl (H.get (k := 4) rfl))
    refine s_nil ⟨(H.pk [2, 6]), ?_⟩
    refine t_q rfl (fun w' H => x_fa (a := .pointer (some ⟨b_2, 0, none⟩)) (v := .pointer (some ⟨b_2, 0, none⟩)) rfl (fa_blk (o := 0) Fd30_0 Sz23)) ?_
    refine t_l rfl ?_
    obtain ⟨r165z, hx164z, hM⟩ := M.e_bind hM
    refine s_call cf10 [.pointer (some ⟨b_s, 0, none⟩), I 5] rfl (zab s_bytes q14 q24 5 (hC_s_bytes.app _) hs_s_bytes hx164z _ ((H.pk [1, 0, 2, 3, 4, 5, 6]).gt 6)) ?_
    rintro vq w166z ⟨r6, q15, q25, hr167z, hvq, H2_⟩
    subst hr167z
    subst vq
    try dsimp only at hM
    replace H := H.pk [1, 0, 2, 3, 4, 5, 6] |>.bk H2_
    clear H2_
    refine s_nil ⟨(H.pk [2, 6]), ?_⟩
    obtain ⟨sd168z, hM⟩ := M.e_grd hM
    simp only [Bool.and_eq_true, decide_eq_true_eq] at sd168z
    refine t_q rfl (fun w' H => x_ari (a := r5) (b := r6) (r := r5 + r6) rfl rfl rfl (by omega)) ?_
    refine t_q rfl (fun w' H => x_bld (ps := [(0, I r5), (1, I (r5 + r6))]) (zs := [I 0, I 0]) (L' := [I r5, I (r5 + r6)]) rfl Try.underlying27 Al27 rfl (Bd27 Try.underlying27) (.cons (cs := [I r5]) rfl rfl rfl rfl rfl <| .cons (cs := [I (r5 + r6)]) rfl rfl rfl rfl rfl <| .nil)) ?_
    refine t_l rfl ?_
    refine t_bs (α := Span) T24 [.agg #[I r5, I (r5 + r6)]] [(⟨(r5 : Int), (r5 + r6 : Int)⟩ : Span)] H rfl (.cons rfl (Flat.rep_enc _ (⟨(r5 : Int), (r5 + r6 : Int)⟩ : Span)) <| .nil) rfl rfl rfl ?_
    intro v169z w170z H
    have hvc_q171z := Sl.cells (ownSl (H.get (k := 0) rfl))
    have hvo_q171z := Sl.oc (ownSl (H.get (k := 0) rfl))
    refine s_nil ⟨(H.pk [3, 7]), ?_⟩
    refine t_l rfl ?_
    obtain ⟨sd172z, hM⟩ := M.e_grd hM
    simp only [Bool.and_eq_true, decide_eq_true_eq] at sd172z
    refine t_app (α := Span) (k := 4) (l := l2) (l2 := [(⟨(r5 : Int), (r5 + r6 : Int)⟩ : Span)]) (l' := l2 ++ ([(⟨(r5 : Int), (r5 + r6 : Int)⟩ : Span)])) (vy := v169z) T24 rfl H rfl rfl rfl (ownSl (H.get (k := 0) rfl)) (ownLe _ (H.get (k := 0) rfl)) (rfl) (by first | omega | (simp only [List.length_nil] at *; omega)) ?_
    intro v173z w174z H
    replace H := H.nf
    have hvc_q175z := Sl.cells (ownSl (H.get (k := 4) rfl))
    have hvo_q175z := Sl.oc (ownSl (H.get (k := 4) rfl))
    refine s_nil ⟨(H.pk [3, 7]), ?_⟩
    refine t_l rfl ?_
    refine t_sw 6 0 [v161z] v161z H rfl rfl Sz23 (Sl.cells (ownSl (H.get (k := 5) rfl))) rfl rfl (by simp only [List.all_cons, List.all_nil, Bool.true_and, Bool.and_true, Sl.oc (ownSl (H.get (k := 5) rfl))]; try rfl) ?_
    intro w176z H
    refine s_nil ⟨(H.pk [3, 7]), ?_⟩
    refine t_q rfl (fun w' H => x_fa (a := .pointer (some ⟨b_2, 0, none⟩)) (v := .pointer (some ⟨b_2, 1, none⟩)) rfl (fa_blk (o := 0) Fd30_1 Sz24)) ?_
    refine t_l rfl ?_
    refine t_sw 6 1 [v173z] v173z H rfl rfl Sz24 (Sl.cells (ownSl (H.get (k := 4) rfl))) rfl rfl (by simp only [List.all_cons, List.all_nil, Bool.true_and, Bool.and_true, Sl.oc (ownSl (H.get (k := 4) rfl))]; try rfl) ?_
    intro w177z H
    refine s_nil ⟨(H.pk [3, 7]), ?_⟩
    refine t_nil ?_
    exact ⟨r6, q15, q25, v169z, v157z, v173z, v161z, _, upds_of _ _ ⟨rfl, rfl, rfl, rfl, rfl, trivial⟩, hM, H⟩
   ·skip
    refine t_bs (α := Int) T23 [I down] [(down : Int)] H rfl (.cons rfl (Flat.rep_enc _ (down : Int)) <| .nil) rfl rfl rfl ?_
    intro v178z w179z H
    have hvc_q180z := Sl.cells (ownSl (H.get (k := 0) rfl))
    have hvo_q180z := Sl.oc (ownSl (H.get (k := 0) rfl))
    have hvc_q181z := Sl.cells (ownSl (H.get (k := 3) rfl))
    have hvo_q181z := Sl.oc (ownSl (H.get (k := 3) rfl))
    have hvc_q182z := Sl.cells (ownSl (H.get (k := 4) rfl))
    have hvo_q182z := Sl.oc (ownSl (H.get (k := 4) rfl))
    refine s_nil ⟨(H.pk [2, 6]), ?_⟩
    refine t_l2 rfl rfl ?_ ?_
    ·skip
     refine s_val (x_ld (p := .pointer (some ⟨b_2, 0, none⟩)) (v := v_l) rfl (ldb_sc Sc23 (H.blk (k := 5) rfl) rfl)) ?_
     refine s_nil ⟨(H.pk [2, 6]), ?_⟩
     refine t_l2 rfl rfl ?_ ?_
     ·skip
      obtain ⟨sd216z, hM⟩ := M.e_grd hM
      simp only [Bool.and_eq_true, decide_eq_true_eq] at sd216z
      refine t_app (α := Int) (k := 4) (l := l) (l2 := [(down : Int)]) (l' := l ++ ([(down : Int)])) (vy := v178z) T23 rfl H rfl rfl rfl (ownSl (H.get (k := 0) rfl)) (ownLe _ (H.get (k := 0) rfl)) (rfl) (by first | omega | (simp only [List.length_nil] at *; omega)) ?_
      intro v217z w218z H
      replace H := H.nf
      have hvc_q219z := Sl.cells (ownSl (H.get (k := 4) rfl))
      have hvo_q219z := Sl.oc (ownSl (H.get (k := 4) rfl))
      refine s_nil ⟨(H.pk [2, 6]), ?_⟩
      refine t_l2 rfl rfl ?_ ?_
      ·skip
       refine s_val (x_ld (p := .pointer (some ⟨b_2, 1, none⟩)) (v := v_l2) rfl (ldb_sc Sc24 (H.blk (k := 5) rfl) rfl)) ?_
       refine s_nil ⟨(H.pk [2, 6]), ?_⟩
       refine t_q rfl (fun w' H => x_fa (a := .pointer (some ⟨b_2, 0, none⟩)) (v := .pointer (some ⟨b_2, 0, none⟩)) rfl (fa_blk (o := 0) Fd30_0 Sz23)) ?_
       refine t_l rfl ?_
       obtain ⟨r233z, hx232z, hM⟩ := M.e_bind hM
       refine s_call cf10 [.pointer (some ⟨b_s, 0, none⟩), I 5] rfl (zab s_bytes q14 q24 5 (hC_s_bytes.app _) hs_s_bytes hx232z _ ((H.pk [1, 0, 2, 3, 4, 5, 6]).gt 6)) ?_
       rintro vq w234z ⟨r6, q15, q25, hr235z, hvq, H2_⟩
       subst hr235z
       subst vq
       try dsimp only at hM
       replace H := H.pk [1, 0, 2, 3, 4, 5, 6] |>.bk H2_
       clear H2_
       refine s_nil ⟨(H.pk [2, 6]), ?_⟩
       obtain ⟨sd236z, hM⟩ := M.e_grd hM
       simp only [Bool.and_eq_true, decide_eq_true_eq] at sd236z
       refine t_q rfl (fun w' H => x_ari (a := r5) (b := r6) (r := r5 + r6) rfl rfl rfl (by omega)) ?_
       refine t_q rfl (fun w' H => x_bld (ps := [(0, I r5), (1, I (r5 + r6))]) (zs := [I 0, I 0]) (L' := [I r5, I (r5 + r6)]) rfl Try.underlying27 Al27 rfl (Bd27 Try.underlying27) (.cons (cs := [I r5]) rfl rfl rfl rfl rfl <| .cons (cs := [I (r5 + r6)]) rfl rfl rfl rfl rfl <| .nil)) ?_
       refine t_l rfl ?_
       refine t_bs (α := Span) T24 [.agg #[I r5, I (r5 + r6)]] [(⟨(r5 : Int), (r5 + r6 : Int)⟩ : Span)] H rfl (.cons rfl (Flat.rep_enc _ (⟨(r5 : Int), (r5 + r6 : Int)⟩ : Span)) <| .nil) rfl rfl rfl ?_
       intro v237z w238z H
       have hvc_q239z := Sl.cells (ownSl (H.get (k := 0) rfl))
       have hvo_q239z := Sl.oc (ownSl (H.get (k := 0) rfl))
       refine s_nil ⟨(H.pk [3, 7]), ?_⟩
       refine t_l rfl ?_
       obtain ⟨sd240z, hM⟩ := M.e_grd hM
       simp only [Bool.and_eq_true, decide_eq_true_eq] at sd240z
       refine t_app (α := Span) (k := 4) (l := l2) (l2 := [(⟨(r5 : Int), (r5 + r6 : Int)⟩ : Span)]) (l' := l2 ++ ([(⟨(r5 : Int), (r5 + r6 : Int)⟩ : Span)])) (vy := v237z) T24 rfl H rfl rfl rfl (ownSl (H.get (k := 0) rfl)) (ownLe _ (H.get (k := 0) rfl)) (rfl) (by first | omega | (simp only [List.length_nil] at *; omega)) ?_
       intro v241z w242z H
       replace H := H.nf
       have hvc_q243z := Sl.cells (ownSl (H.get (k := 4) rfl))
       have hvo_q243z := Sl.oc (ownSl (H.get (k := 4) rfl))
       refine s_nil ⟨(H.pk [3, 7]), ?_⟩
       refine t_l rfl ?_
       refine t_sw 6 0 [v217z] v217z H rfl rfl Sz23 (Sl.cells (ownSl (H.get (k := 5) rfl))) rfl rfl (by simp only [List.all_cons, List.all_nil, Bool.true_and, Bool.and_true, Sl.oc (ownSl (H.get (k := 5) rfl))]; try rfl) ?_
       intro w244z H
       refine s_nil ⟨(H.pk [3, 7]), ?_⟩
       refine t_q rfl (fun w' H => x_fa (a := .pointer (some ⟨b_2, 0, none⟩)) (v := .pointer (some ⟨b_2, 1, none⟩)) rfl (fa_blk (o := 0) Fd30_1 Sz24)) ?_
       refine t_l rfl ?_
       refine t_sw 6 1 [v241z] v241z H rfl rfl Sz24 (Sl.cells (ownSl (H.get (k := 4) rfl))) rfl rfl (by simp only [List.all_cons, List.all_nil, Bool.true_and, Bool.and_true, Sl.oc (ownSl (H.get (k := 4) rfl))]; try rfl) ?_
       intro w245z H
       refine s_nil ⟨(H.pk [3, 7]), ?_⟩
       refine t_nil ?_
       exact ⟨r6, q15, q25, v237z, v178z, v241z, v217z, _, upds_of _ _ ⟨rfl, rfl, rfl, rfl, rfl, trivial⟩, hM, H⟩
      skip
      obtain ⟨r247z, hx246z, hM⟩ := M.e_bind hM
      refine s_call cf10 [.pointer (some ⟨b_s, 0, none⟩), I 5] rfl (zab s_bytes q14 q24 5 (hC_s_bytes.app _) hs_s_bytes hx246z _ ((H.pk [1, 0, 2, 3, 4, 5, 6]).gt 6)) ?_
      rintro vq w248z ⟨r6, q15, q25, hr249z, hvq, H2_⟩
      subst hr249z
      subst vq
      try dsimp only at hM
      replace H := H.pk [1, 0, 2, 3, 4, 5, 6] |>.bk H2_
      clear H2_
      refine s_nil ⟨(H.pk [2, 6]), ?_⟩
      obtain ⟨sd250z, hM⟩ := M.e_grd hM
      simp only [Bool.and_eq_true, decide_eq_true_eq] at sd250z
      refine t_q rfl (fun w' H => x_ari (a := r5) (b := r6) (r := r5 + r6) rfl rfl rfl (by omega)) ?_
      refine t_q rfl (fun w' H => x_bld (ps := [(0, I r5), (1, I (r5 + r6))]) (zs := [I 0, I 0]) (L' := [I r5, I (r5 + r6)]) rfl Try.underlying27 Al27 rfl (Bd27 Try.underlying27) (.cons (cs := [I r5]) rfl rfl rfl rfl rfl <| .cons (cs := [I (r5 + r6)]) rfl rfl rfl rfl rfl <| .nil)) ?_
      obtain ⟨sd253z, hM⟩ := M.e_grd hM
      simp only [Bool.and_eq_true, decide_eq_true_eq] at sd253z
      refine t_l2 rfl rfl ?_ ?_
      ·skip
       refine s_val (x_ld (p := .pointer (some ⟨b_2, 1, none⟩)) (v := v_l2) rfl (ldb_sc Sc24 (H.blk (k := 5) rfl) rfl)) ?_
       refine s_nil ⟨(H.pk [2, 6]), ?_⟩
       refine t_q rfl (fun w' H => x_fa (a := .pointer (some ⟨b_2, 0, none⟩)) (v := .pointer (some ⟨b_2, 0, none⟩)) rfl (fa_blk (o := 0) Fd30_0 Sz23)) ?_
       refine t_l rfl ?_
       refine t_bs (α := Span) T24 [.agg #[I r5, I (r5 + r6)]] [(⟨(r5 : Int), (r5 + r6 : Int)⟩ : Span)] H rfl (.cons rfl (Flat.rep_enc _ (⟨(r5 : Int), (r5 + r6 : Int)⟩ : Span)) <| .nil) rfl rfl rfl ?_
       intro v258z w259z H
       have hvc_q260z := Sl.cells (ownSl (H.get (k := 0) rfl))
       have hvo_q260z := Sl.oc (ownSl (H.get (k := 0) rfl))
       refine s_nil ⟨(H.pk [3, 7]), ?_⟩
       refine t_l rfl ?_
       refine t_app (α := Span) (k := 4) (l := l2) (l2 := [(⟨(r5 : Int), (r5 + r6 : Int)⟩ : Span)]) (l' := l2 ++ ([(⟨(r5 : Int), (r5 + r6 : Int)⟩ : Span)])) (vy := v258z) T24 rfl H rfl rfl rfl (ownSl (H.get (k := 0) rfl)) (ownLe _ (H.get (k := 0) rfl)) (rfl) (by first | omega | (simp only [List.length_nil] at *; omega)) ?_
       intro v261z w262z H
       replace H := H.nf
       have hvc_q263z := Sl.cells (ownSl (H.get (k := 4) rfl))
       have hvo_q263z := Sl.oc (ownSl (H.get (k := 4) rfl))
       refine s_nil ⟨(H.pk [3, 7]), ?_⟩
       refine t_l rfl ?_
       refine t_sw 6 0 [v217z] v217z H rfl rfl Sz23 (Sl.cells (ownSl (H.get (k := 5) rfl))) rfl rfl (by simp only [List.all_cons, List.all_nil, Bool.true_and, Bool.and_true, Sl.oc (ownSl (H.get (k := 5) rfl))]; try rfl) ?_
       intro w264z H
       refine s_nil ⟨(H.pk [3, 7]), ?_⟩
       refine t_q rfl (fun w' H => x_fa (a := .pointer (some ⟨b_2, 0, none⟩)) (v := .pointer (some ⟨b_2, 1, none⟩)) rfl (fa_blk (o := 0) Fd30_1 Sz24)) ?_
       refine t_l rfl ?_
       refine t_sw 6 1 [v261z] v261z H rfl rfl Sz24 (Sl.cells (ownSl (H.get (k := 4) rfl))) rfl rfl (by simp only [List.all_cons, List.all_nil, Bool.true_and, Bool.and_true, Sl.oc (ownSl (H.get (k := 4) rfl))]; try rfl) ?_
       intro w265z H
       refine s_nil ⟨(H.pk [3, 7]), ?_⟩
       refine t_nil ?_
       exact ⟨r6, q15, q25, v258z, v178z, v261z, v217z, _, upds_of _ _ ⟨rfl, rfl, rfl, rfl, rfl, trivial⟩, hM, H⟩
      skip
      refine t_bs (α := Span) T24 [.agg #[I r5, I (r5 + r6)]] [(⟨(r5 : Int), (r5 + r6 : Int)⟩ : Span)] H rfl (.cons rfl (Flat.rep_enc _ (⟨(r5 : Int), (r5 + r6 : Int)⟩ : Span)) <| .nil) rfl rfl rfl ?_
      intro v266z w267z H
      have hvc_q268z := Sl.cells (ownSl (H.get (k := 0) rfl))
      have hvo_q268z := Sl.oc (ownSl (H.get (k := 0) rfl))
      refine s_nil ⟨(H.pk [3, 7]), ?_⟩
      refine t_l rfl ?_
      refine s_val (x_ld (p := .pointer (some ⟨b_2, 1, none⟩)) (v := v_l2) rfl (ldb_sc Sc24 (H.blk (k := 6) rfl) rfl)) ?_
      refine s_nil ⟨(H.pk [3, 7]), ?_⟩
      refine t_q rfl (fun w' H => x_fa (a := .pointer (some ⟨b_2, 0, none⟩)) (v := .pointer (some ⟨b_2, 0, none⟩)) rfl (fa_blk (o := 0) Fd30_0 Sz23)) ?_
      refine t_l rfl ?_
      refine t_app (α := Span) (k := 4) (l := l2) (l2 := [(⟨(r5 : Int), (r5 + r6 : Int)⟩ : Span)]) (l' := l2 ++ ([(⟨(r5 : Int), (r5 + r6 : Int)⟩ : Span)])) (vy := v266z) T24 rfl H rfl rfl rfl (ownSl (H.get (k := 0) rfl)) (ownLe _ (H.get (k := 0) rfl)) (rfl) (by first | omega | (simp only [List.length_nil] at *; omega)) ?_
      intro v269z w270z H
      replace H := H.nf
      have hvc_q271z := Sl.cells (ownSl (H.get (k := 4) rfl))
      have hvo_q271z := Sl.oc (ownSl (H.get (k := 4) rfl))
      refine s_nil ⟨(H.pk [3, 7]), ?_⟩
      refine t_l rfl ?_
      refine t_sw 6 0 [v217z] v217z H rfl rfl Sz23 (Sl.cells (ownSl (H.get (k := 5) rfl))) rfl rfl (by simp only [List.all_cons, List.all_nil, Bool.true_and, Bool.and_true, Sl.oc (ownSl (H.get (k := 5) rfl))]; try rfl) ?_
      intro w272z H
      refine s_nil ⟨(H.pk [3, 7]), ?_⟩
      refine t_q rfl (fun w' H => x_fa (a := .pointer (some ⟨b_2, 0, none⟩)) (v := .pointer (some ⟨b_2, 1, none⟩)) rfl (fa_blk (o := 0) Fd30_1 Sz24)) ?_
      refine t_l rfl ?_
      refine t_sw 6 1 [v269z] v269z H rfl rfl Sz24 (Sl.cells (ownSl (H.get (k := 4) rfl))) rfl rfl (by simp only [List.all_cons, List.all_nil, Bool.true_and, Bool.and_true, Sl.oc (ownSl (H.get (k := 4) rfl))]; try rfl) ?_
      intro w273z H
      refine s_nil ⟨(H.pk [3, 7]), ?_⟩
      refine t_nil ?_
      exact ⟨r6, q15, q25, v266z, v178z, v269z, v217z, _, upds_of _ _ ⟨rfl, rfl, rfl, rfl, rfl, trivial⟩, hM, H⟩
     skip
     refine s_val (x_ld (p := .pointer (some ⟨b_2, 1, none⟩)) (v := v_l2) rfl (ldb_sc Sc24 (H.blk (k := 5) rfl) rfl)) ?_
     refine s_nil ⟨(H.pk [2, 6]), ?_⟩
     refine t_l rfl ?_
     obtain ⟨sd274z, hM⟩ := M.e_grd hM
     simp only [Bool.and_eq_true, decide_eq_true_eq] at sd274z
     refine t_app (α := Int) (k := 4) (l := l) (l2 := [(down : Int)]) (l' := l ++ ([(down : Int)])) (vy := v178z) T23 rfl H rfl rfl rfl (ownSl (H.get (k := 0) rfl)) (ownLe _ (H.get (k := 0) rfl)) (rfl) (by first | omega | (simp only [List.length_nil] at *; omega)) ?_
     intro v275z w276z H
     replace H := H.nf
     have hvc_q277z := Sl.cells (ownSl (H.get (k := 4) rfl))
     have hvo_q277z := Sl.oc (ownSl (H.get (k := 4) rfl))
     refine s_nil ⟨(H.pk [2, 6]), ?_⟩
     refine t_q rfl (fun w' H => x_fa (a := .pointer (some ⟨b_2, 0, none⟩)) (v := .pointer (some ⟨b_2, 0, none⟩)) rfl (fa_blk (o := 0) Fd30_0 Sz23)) ?_
     refine t_l rfl ?_
     obtain ⟨r279z, hx278z, hM⟩ := M.e_bind hM
     refine s_call cf10 [.pointer (some ⟨b_s, 0, none⟩), I 5] rfl (zab s_bytes q14 q24 5 (hC_s_bytes.app _) hs_s_bytes hx278z _ ((H.pk [1, 0, 2, 3, 4, 5, 6]).gt 6)) ?_
     rintro vq w280z ⟨r6, q15, q25, hr281z, hvq, H2_⟩
     subst hr281z
     subst vq
     try dsimp only at hM
     replace H := H.pk [1, 0, 2, 3, 4, 5, 6] |>.bk H2_
     clear H2_
     refine s_nil ⟨(H.pk [2, 6]), ?_⟩
     obtain ⟨sd282z, hM⟩ := M.e_grd hM
     simp only [Bool.and_eq_true, decide_eq_true_eq] at sd282z
     refine t_q rfl (fun w' H => x_ari (a := r5) (b := r6) (r := r5 + r6) rfl rfl rfl (by omega)) ?_
     refine t_q rfl (fun w' H => x_bld (ps := [(0, I r5), (1, I (r5 + r6))]) (zs := [I 0, I 0]) (L' := [I r5, I (r5 + r6)]) rfl Try.underlying27 Al27 rfl (Bd27 Try.underlying27) (.cons (cs := [I r5]) rfl rfl rfl rfl rfl <| .cons (cs := [I (r5 + r6)]) rfl rfl rfl rfl rfl <| .nil)) ?_
     refine t_l rfl ?_
     refine t_bs (α := Span) T24 [.agg #[I r5, I (r5 + r6)]] [(⟨(r5 : Int), (r5 + r6 : Int)⟩ : Span)] H rfl (.cons rfl (Flat.rep_enc _ (⟨(r5 : Int), (r5 + r6 : Int)⟩ : Span)) <| .nil) rfl rfl rfl ?_
     intro v283z w284z H
     have hvc_q285z := Sl.cells (ownSl (H.get (k := 0) rfl))
     have hvo_q285z := Sl.oc (ownSl (H.get (k := 0) rfl))
     refine s_nil ⟨(H.pk [3, 7]), ?_⟩
     refine t_l rfl ?_
     obtain ⟨sd286z, hM⟩ := M.e_grd hM
     simp only [Bool.and_eq_true, decide_eq_true_eq] at sd286z
     refine t_app (α := Span) (k := 4) (l := l2) (l2 := [(⟨(r5 : Int), (r5 + r6 : Int)⟩ : Span)]) (l' := l2 ++ ([(⟨(r5 : Int), (r5 + r6 : Int)⟩ : Span)])) (vy := v283z) T24 rfl H rfl rfl rfl (ownSl (H.get (k := 0) rfl)) (ownLe _ (H.get (k := 0) rfl)) (rfl) (by first | omega | (simp only [List.length_nil] at *; omega)) ?_
     intro v287z w288z H
     replace H := H.nf
     have hvc_q289z := Sl.cells (ownSl (H.get (k := 4) rfl))
     have hvo_q289z := Sl.oc (ownSl (H.get (k := 4) rfl))
     refine s_nil ⟨(H.pk [3, 7]), ?_⟩
     refine t_l rfl ?_
     refine t_sw 6 0 [v275z] v275z H rfl rfl Sz23 (Sl.cells (ownSl (H.get (k := 5) rfl))) rfl rfl (by simp only [List.all_cons, List.all_nil, Bool.true_and, Bool.and_true, Sl.oc (ownSl (H.get (k := 5) rfl))]; try rfl) ?_
     intro w290z H
     refine s_nil ⟨(H.pk [3, 7]), ?_⟩
     refine t_q rfl (fun w' H => x_fa (a := .pointer (some ⟨b_2, 0, none⟩)) (v := .pointer (some ⟨b_2, 1, none⟩)) rfl (fa_blk (o := 0) Fd30_1 Sz24)) ?_
     refine t_l rfl ?_
     refine t_sw 6 1 [v287z] v287z H rfl rfl Sz24 (Sl.cells (ownSl (H.get (k := 4) rfl))) rfl rfl (by simp only [List.all_cons, List.all_nil, Bool.true_and, Bool.and_true, Sl.oc (ownSl (H.get (k := 4) rfl))]; try rfl) ?_
     intro w291z H
     refine s_nil ⟨(H.pk [3, 7]), ?_⟩
     refine t_nil ?_
     exact ⟨r6, q15, q25, v283z, v178z, v287z, v275z, _, upds_of _ _ ⟨rfl, rfl, rfl, rfl, rfl, trivial⟩, hM, H⟩
    skip
    refine s_val (x_ld (p := .pointer (some ⟨b_2, 1, none⟩)) (v := v_l2) rfl (ldb_sc Sc24 (H.blk (k := 5) rfl) rfl)) ?_
    refine s_nil ⟨(H.pk [2, 6]), ?_⟩
    refine t_l rfl ?_
    refine s_val (x_ld (p := .pointer (some ⟨b_2, 0, none⟩)) (v := v_l) rfl (ldb_sc Sc23 (H.blk (k := 5) rfl) rfl)) ?_
    refine s_nil ⟨(H.pk [2, 6]), ?_⟩
    refine t_l rfl ?_
    obtain ⟨sd292z, hM⟩ := M.e_grd hM
    simp only [Bool.and_eq_true, decide_eq_true_eq] at sd292z
    refine t_app (α := Int) (k := 4) (l := l) (l2 := [(down : Int)]) (l' := l ++ ([(down : Int)])) (vy := v178z) T23 rfl H rfl rfl rfl (ownSl (H.get (k := 0) rfl)) (ownLe _ (H.get (k := 0) rfl)) (rfl) (by first | omega | (simp only [List.length_nil] at *; omega)) ?_
    intro v293z w294z H
    replace H := H.nf
    have hvc_q295z := Sl.cells (ownSl (H.get (k := 4) rfl))
    have hvo_q295z := Sl.oc (ownSl (H.get (k := 4) rfl))
    refine s_nil ⟨(H.pk [2, 6]), ?_⟩
    refine t_q rfl (fun w' H => x_fa (a := .pointer (some ⟨b_2, 0, none⟩)) (v := .pointer (some ⟨b_2, 0, none⟩)) rfl (fa_blk (o := 0) Fd30_0 Sz23)) ?_
    refine t_l rfl ?_
    obtain ⟨r297z, hx296z, hM⟩ := M.e_bind hM
    refine s_call cf10 [.pointer (some ⟨b_s, 0, none⟩), I 5] rfl (zab s_bytes q14 q24 5 (hC_s_bytes.app _) hs_s_bytes hx296z _ ((H.pk [1, 0, 2, 3, 4, 5, 6]).gt 6)) ?_
    rintro vq w298z ⟨r6, q15, q25, hr299z, hvq, H2_⟩
    subst hr299z
    subst vq
    try dsimp only at hM
    replace H := H.pk [1, 0, 2, 3, 4, 5, 6] |>.bk H2_
    clear H2_
    refine s_nil ⟨(H.pk [2, 6]), ?_⟩
    obtain ⟨sd300z, hM⟩ := M.e_grd hM
    simp only [Bool.and_eq_true, decide_eq_true_eq] at sd300z
    refine t_q rfl (fun w' H => x_ari (a := r5) (b := r6) (r := r5 + r6) rfl rfl rfl (by omega)) ?_
    refine t_q rfl (fun w' H => x_bld (ps := [(0, I r5), (1, I (r5 + r6))]) (zs := [I 0, I 0]) (L' := [I r5, I (r5 + r6)]) rfl Try.underlying27 Al27 rfl (Bd27 Try.underlying27) (.cons (cs := [I r5]) rfl rfl rfl rfl rfl <| .cons (cs := [I (r5 + r6)]) rfl rfl rfl rfl rfl <| .nil)) ?_
    refine t_l rfl ?_
    refine t_bs (α := Span) T24 [.agg #[I r5, I (r5 + r6)]] [(⟨(r5 : Int), (r5 + r6 : Int)⟩ : Span)] H rfl (.cons rfl (Flat.rep_enc _ (⟨(r5 : Int), (r5 + r6 : Int)⟩ : Span)) <| .nil) rfl rfl rfl ?_
    intro v301z w302z H
    have hvc_q303z := Sl.cells (ownSl (H.get (k := 0) rfl))
    have hvo_q303z := Sl.oc (ownSl (H.get (k := 0) rfl))
    refine s_nil ⟨(H.pk [3, 7]), ?_⟩
    refine t_l rfl ?_
    obtain ⟨sd304z, hM⟩ := M.e_grd hM
    simp only [Bool.and_eq_true, decide_eq_true_eq] at sd304z
    refine t_app (α := Span) (k := 4) (l := l2) (l2 := [(⟨(r5 : Int), (r5 + r6 : Int)⟩ : Span)]) (l' := l2 ++ ([(⟨(r5 : Int), (r5 + r6 : Int)⟩ : Span)])) (vy := v301z) T24 rfl H rfl rfl rfl (ownSl (H.get (k := 0) rfl)) (ownLe _ (H.get (k := 0) rfl)) (rfl) (by first | omega | (simp only [List.length_nil] at *; omega)) ?_
    intro v305z w306z H
    replace H := H.nf
    have hvc_q307z := Sl.cells (ownSl (H.get (k := 4) rfl))
    have hvo_q307z := Sl.oc (ownSl (H.get (k := 4) rfl))
    refine s_nil ⟨(H.pk [3, 7]), ?_⟩
    refine t_l rfl ?_
    refine t_sw 6 0 [v293z] v293z H rfl rfl Sz23 (Sl.cells (ownSl (H.get (k := 5) rfl))) rfl rfl (by simp only [List.all_cons, List.all_nil, Bool.true_and, Bool.and_true, Sl.oc (ownSl (H.get (k := 5) rfl))]; try rfl) ?_
    intro w308z H
    refine s_nil ⟨(H.pk [3, 7]), ?_⟩
    refine t_q rfl (fun w' H => x_fa (a := .pointer (some ⟨b_2, 0, none⟩)) (v := .pointer (some ⟨b_2, 1, none⟩)) rfl (fa_blk (o := 0) Fd30_1 Sz24)) ?_
    refine t_l rfl ?_
    refine t_sw 6 1 [v305z] v305z H rfl rfl Sz24 (Sl.cells (ownSl (H.get (k := 4) rfl))) rfl rfl (by simp only [List.all_cons, List.all_nil, Bool.true_and, Bool.and_true, Sl.oc (ownSl (H.get (k := 4) rfl))]; try rfl) ?_
    intro w309z H
    refine s_nil ⟨(H.pk [3, 7]), ?_⟩
    refine t_nil ?_
    exact ⟨r6, q15, q25, v301z, v178z, v305z, v293z, _, upds_of _ _ ⟨rfl, rfl, rfl, rfl, rfl, trivial⟩, hM, H⟩
   skip
   refine s_val (x_ld (p := .pointer (some ⟨b_2, 1, none⟩)) (v := v_l2) rfl (ldb_sc Sc24 (H.blk (k := 4) rfl) rfl)) ?_
   have hvc_q310z := Sl.cells (ownSl (H.get (k := 2) rfl))
   have hvo_q310z := Sl.oc (ownSl (H.get (k := 2) rfl))
   have hvc_q311z := Sl.cells (ownSl (H.get (k := 3) rfl))
   have hvo_q311z := Sl.oc (ownSl (H.get (k := 3) rfl))
   refine s_nil ⟨(H.pk [1, 5]), ?_⟩
   refine t_l2 rfl rfl ?_ ?_
   ·skip
    refine s_val (x_ld (p := .pointer (some ⟨b_2, 0, none⟩)) (v := v_l) rfl (ldb_sc Sc23 (H.blk (k := 4) rfl) rfl)) ?_
    refine s_nil ⟨(H.pk [1, 5]), ?_⟩
    refine t_l rfl ?_
    refine t_bs (α := Int) T23 [I down] [(down : Int)] H rfl (.cons rfl (Flat.rep_enc _ (down : Int)) <| .nil) rfl rfl rfl ?_
    intro v329z w330z H
    have hvc_q331z := Sl.cells (ownSl (H.get (k := 0) rfl))
    have hvo_q331z := Sl.oc (ownSl (H.get (k := 0) rfl))
    refine s_nil ⟨(H.pk [2, 6]), ?_⟩
    refine t_l rfl ?_
    obtain ⟨sd332z, hM⟩ := M.e_grd hM
    simp only [Bool.and_eq_true, decide_eq_true_eq] at sd332z
    refine t_app (α := Int) (k := 4) (l := l) (l2 := [(down : Int)]) (l' := l ++ ([(down : Int)])) (vy := v329z) T23 rfl H rfl rfl rfl (ownSl (H.get (k := 0) rfl)) (ownLe _ (H.get (k := 0) rfl)) (rfl) (by first | omega | (simp only [List.length_nil] at *; omega)) ?_
    intro v333z w334z H
    replace H := H.nf
    have hvc_q335z := Sl.cells (ownSl (H.get (k := 4) rfl))
    have hvo_q335z := Sl.oc (ownSl (H.get (k := 4) rfl))
    refine s_nil ⟨(H.pk [2, 6]), ?_⟩
    refine t_q rfl (fun w' H => x_fa (a := .pointer (some ⟨b_2, 0, none⟩)) (v := .pointer (some ⟨b_2, 0, none⟩)) rfl (fa_blk (o := 0) Fd30_0 Sz23)) ?_
    refine t_l rfl ?_
    obtain ⟨r337z, hx336z, hM⟩ := M.e_bind hM
    refine s_call cf10 [.pointer (some ⟨b_s, 0, none⟩), I 5] rfl (zab s_bytes q14 q24 5 (hC_s_bytes.app _) hs_s_bytes hx336z _ ((H.pk [1, 0, 2, 3, 4, 5, 6]).gt 6)) ?_
    rintro vq w338z ⟨r6, q15, q25, hr339z, hvq, H2_⟩
    subst hr339z
    subst vq
    try dsimp only at hM
    replace H := H.pk [1, 0, 2, 3, 4, 5, 6] |>.bk H2_
    clear H2_
    refine s_nil ⟨(H.pk [2, 6]), ?_⟩
    obtain ⟨sd340z, hM⟩ := M.e_grd hM
    simp only [Bool.and_eq_true, decide_eq_true_eq] at sd340z
    refine t_q rfl (fun w' H => x_ari (a := r5) (b := r6) (r := r5 + r6) rfl rfl rfl (by omega)) ?_
    refine t_q rfl (fun w' H => x_bld (ps := [(0, I r5), (1, I (r5 + r6))]) (zs := [I 0, I 0]) (L' := [I r5, I (r5 + r6)]) rfl Try.underlying27 Al27 rfl (Bd27 Try.underlying27) (.cons (cs := [I r5]) rfl rfl rfl rfl rfl <| .cons (cs := [I (r5 + r6)]) rfl rfl rfl rfl rfl <| .nil)) ?_
    refine t_l rfl ?_
    refine t_bs (α := Span) T24 [.agg #[I r5, I (r5 + r6)]] [(⟨(r5 : Int), (r5 + r6 : Int)⟩ : Span)] H rfl (.cons rfl (Flat.rep_enc _ (⟨(r5 : Int), (r5 + r6 : Int)⟩ : Span)) <| .nil) rfl rfl rfl ?_
    intro v341z w342z H
    have hvc_q343z := Sl.cells (ownSl (H.get (k := 0) rfl))
    have hvo_q343z := Sl.oc (ownSl (H.get (k := 0) rfl))
    refine s_nil ⟨(H.pk [3, 7]), ?_⟩
    refine t_l rfl ?_
    obtain ⟨sd344z, hM⟩ := M.e_grd hM
    simp only [Bool.and_eq_true, decide_eq_true_eq] at sd344z
    refine t_app (α := Span) (k := 4) (l := l2) (l2 := [(⟨(r5 : Int), (r5 + r6 : Int)⟩ : Span)]) (l' := l2 ++ ([(⟨(r5 : Int), (r5 + r6 : Int)⟩ : Span)])) (vy := v341z) T24 rfl H rfl rfl rfl (ownSl (H.get (k := 0) rfl)) (ownLe _ (H.get (k := 0) rfl)) (rfl) (by first | omega | (simp only [List.length_nil] at *; omega)) ?_
    intro v345z w346z H
    replace H := H.nf
    have hvc_q347z := Sl.cells (ownSl (H.get (k := 4) rfl))
    have hvo_q347z := Sl.oc (ownSl (H.get (k := 4) rfl))
    refine s_nil ⟨(H.pk [3, 7]), ?_⟩
    refine t_l rfl ?_
    refine t_sw 6 0 [v333z] v333z H rfl rfl Sz23 (Sl.cells (ownSl (H.get (k := 5) rfl))) rfl rfl (by simp only [List.all_cons, List.all_nil, Bool.true_and, Bool.and_true, Sl.oc (ownSl (H.get (k := 5) rfl))]; try rfl) ?_
    intro w348z H
    refine s_nil ⟨(H.pk [3, 7]), ?_⟩
    refine t_q rfl (fun w' H => x_fa (a := .pointer (some ⟨b_2, 0, none⟩)) (v := .pointer (some ⟨b_2, 1, none⟩)) rfl (fa_blk (o := 0) Fd30_1 Sz24)) ?_
    refine t_l rfl ?_
    refine t_sw 6 1 [v345z] v345z H rfl rfl Sz24 (Sl.cells (ownSl (H.get (k := 4) rfl))) rfl rfl (by simp only [List.all_cons, List.all_nil, Bool.true_and, Bool.and_true, Sl.oc (ownSl (H.get (k := 4) rfl))]; try rfl) ?_
    intro w349z H
    refine s_nil ⟨(H.pk [3, 7]), ?_⟩
    refine t_nil ?_
    exact ⟨r6, q15, q25, v341z, v329z, v345z, v333z, _, upds_of _ _ ⟨rfl, rfl, rfl, rfl, rfl, trivial⟩, hM, H⟩
   skip
   refine t_bs (α := Int) T23 [I down] [(down : Int)] H rfl (.cons rfl (Flat.rep_enc _ (down : Int)) <| .nil) rfl rfl rfl ?_
   intro v350z w351z H
   have hvc_q352z := Sl.cells (ownSl (H.get (k := 0) rfl))
   have hvo_q352z := Sl.oc (ownSl (H.get (k := 0) rfl))
   refine s_nil ⟨(H.pk [2, 6]), ?_⟩
   refine t_l rfl ?_
   refine s_val (x_ld (p := .pointer (some ⟨b_2, 0, none⟩)) (v := v_l) rfl (ldb_sc Sc23 (H.blk (k := 5) rfl) rfl)) ?_
   refine s_nil ⟨(H.pk [2, 6]), ?_⟩
   refine t_l rfl ?_
   obtain ⟨sd353z, hM⟩ := M.e_grd hM
   simp only [Bool.and_eq_true, decide_eq_true_eq] at sd353z
   refine t_app (α := Int) (k := 4) (l := l) (l2 := [(down : Int)]) (l' := l ++ ([(down : Int)])) (vy := v350z) T23 rfl H rfl rfl rfl (ownSl (H.get (k := 0) rfl)) (ownLe _ (H.get (k := 0) rfl)) (rfl) (by first | omega | (simp only [List.length_nil] at *; omega)) ?_
   intro v354z w355z H
   replace H := H.nf
   have hvc_q356z := Sl.cells (ownSl (H.get (k := 4) rfl))
   have hvo_q356z := Sl.oc (ownSl (H.get (k := 4) rfl))
   refine s_nil ⟨(H.pk [2, 6]), ?_⟩
   refine t_q rfl (fun w' H => x_fa (a := .pointer (some ⟨b_2, 0, none⟩)) (v := .pointer (some ⟨b_2, 0, none⟩)) rfl (fa_blk (o := 0) Fd30_0 Sz23)) ?_
   refine t_l rfl ?_
   obtain ⟨r358z, hx357z, hM⟩ := M.e_bind hM
   refine s_call cf10 [.pointer (some ⟨b_s, 0, none⟩), I 5] rfl (zab s_bytes q14 q24 5 (hC_s_bytes.app _) hs_s_bytes hx357z _ ((H.pk [1, 0, 2, 3, 4, 5, 6]).gt 6)) ?_
   rintro vq w359z ⟨r6, q15, q25, hr360z, hvq, H2_⟩
   subst hr360z
   subst vq
   try dsimp only at hM
   replace H := H.pk [1, 0, 2, 3, 4, 5, 6] |>.bk H2_
   clear H2_
   refine s_nil ⟨(H.pk [2, 6]), ?_⟩
   obtain ⟨sd361z, hM⟩ := M.e_grd hM
   simp only [Bool.and_eq_true, decide_eq_true_eq] at sd361z
   refine t_q rfl (fun w' H => x_ari (a := r5) (b := r6) (r := r5 + r6) rfl rfl rfl (by omega)) ?_
   refine t_q rfl (fun w' H => x_bld (ps := [(0, I r5), (1, I (r5 + r6))]) (zs := [I 0, I 0]) (L' := [I r5, I (r5 + r6)]) rfl Try.underlying27 Al27 rfl (Bd27 Try.underlying27) (.cons (cs := [I r5]) rfl rfl rfl rfl rfl <| .cons (cs := [I (r5 + r6)]) rfl rfl rfl rfl rfl <| .nil)) ?_
   refine t_l rfl ?_
   refine t_bs (α := Span) T24 [.agg #[I r5, I (r5 + r6)]] [(⟨(r5 : Int), (r5 + r6 : Int)⟩ : Span)] H rfl (.cons rfl (Flat.rep_enc _ (⟨(r5 : Int), (r5 + r6 : Int)⟩ : Span)) <| .nil) rfl rfl rfl ?_
   intro v362z w363z H
   have hvc_q364z := Sl.cells (ownSl (H.get (k := 0) rfl))
   have hvo_q364z := Sl.oc (ownSl (H.get (k := 0) rfl))
   refine s_nil ⟨(H.pk [3, 7]), ?_⟩
   refine t_l rfl ?_
   obtain ⟨sd365z, hM⟩ := M.e_grd hM
   simp only [Bool.and_eq_true, decide_eq_true_eq] at sd365z
   refine t_app (α := Span) (k := 4) (l := l2) (l2 := [(⟨(r5 : Int), (r5 + r6 : Int)⟩ : Span)]) (l' := l2 ++ ([(⟨(r5 : Int), (r5 + r6 : Int)⟩ : Span)])) (vy := v362z) T24 rfl H rfl rfl rfl (ownSl (H.get (k := 0) rfl)) (ownLe _ (H.get (k := 0) rfl)) (rfl) (by first | omega | (simp only [List.length_nil] at *; omega)) ?_
   intro v366z w367z H
   replace H := H.nf
   have hvc_q368z := Sl.cells (ownSl (H.get (k := 4) rfl))
   have hvo_q368z := Sl.oc (ownSl (H.get (k := 4) rfl))
   refine s_nil ⟨(H.pk [3, 7]), ?_⟩
   refine t_l rfl ?_
   refine t_sw 6 0 [v354z] v354z H rfl rfl Sz23 (Sl.cells (ownSl (H.get (k := 5) rfl))) rfl rfl (by simp only [List.all_cons, List.all_nil, Bool.true_and, Bool.and_true, Sl.oc (ownSl (H.get (k := 5) rfl))]; try rfl) ?_
   intro w369z H
   refine s_nil ⟨(H.pk [3, 7]), ?_⟩
   refine t_q rfl (fun w' H => x_fa (a := .pointer (some ⟨b_2, 0, none⟩)) (v := .pointer (some ⟨b_2, 1, none⟩)) rfl (fa_blk (o := 0) Fd30_1 Sz24)) ?_
   refine t_l rfl ?_
   refine t_sw 6 1 [v366z] v366z H rfl rfl Sz24 (Sl.cells (ownSl (H.get (k := 4) rfl))) rfl rfl (by simp only [List.all_cons, List.all_nil, Bool.true_and, Bool.and_true, Sl.oc (ownSl (H.get (k := 4) rfl))]; try rfl) ?_
   intro w370z H
   refine s_nil ⟨(H.pk [3, 7]), ?_⟩
   refine t_nil ?_
   exact ⟨r6, q15, q25, v362z, v350z, v366z, v354z, _, upds_of _ _ ⟨rfl, rfl, rfl, rfl, rfl, trivial⟩, hM, H⟩
  rintro _ w371z ⟨r6, q15, q25, uj_o_5, uj_o_3, uj_o_10, uj_o_9, ρ, rfl, hM, H⟩
  unfold zbj at hM
  refine W.seq ?_
  refine W.region rfl ?_
  refine s_val (x_fa (a := .pointer (some ⟨b_2, 0, none⟩)) (v := .pointer (some ⟨b_2, 2, none⟩)) rfl (fa_blk (o := 0) Fd30_2 Sz23)) ?_
  refine s_val (x_ld (p := .pointer (some ⟨b_2, 2, none⟩)) (v := v_l3) rfl (ldb_sc Sc23 (H.blk (k := 6) rfl) rfl)) ?_
  have hl372z := ((ownSl (H.get (k := 3) rfl))).len_le
  refine s_val (x_lenS T23.und rfl (ownSl (H.get (k := 3) rfl))) ?_
  refine s_val (x_cmp (kd := .i64) (a := (l3.length : Int)) (b := 8) (r := decide ((l3.length : Int) < 8)) rfl rfl rfl) ?_
  refine s_val (x_mv (v := B (decide ((l3.length : Int) < 8))) rfl) ?_
  refine g_val (decide ((l3.length : Int) < 8)) (gy_t rfl) (fun hg => x_mv (v := .pointer (some ⟨b_s, 0, none⟩)) rfl) ?_
  refine g_splitV (decide ((l3.length : Int) < 8)) (I 0) (gy_t rfl) (fun hg_ => ?_) (fun hg_ => ?_)
  ·replace hM := M.e_t hM hg_
   obtain ⟨r374z, hx373z, hM⟩ := M.e_bind hM
   refine s_call cf10 [.pointer (some ⟨b_s, 0, none⟩), I 3] (lst2 (gd_of (c := decide ((l3.length : Int) < 8)) hg_ (.pointer (some ⟨b_s, 0, none⟩))) rfl) (zab s_bytes q15 q25 3 (hC_s_bytes.app _) hs_s_bytes hx373z _ ((H.pk [1, 0, 2, 3, 4, 5, 6, 7]).gt 7)) ?_
   rintro vq w375z ⟨r7, q16, q26, hr376z, hvq, H2_⟩
   subst hr376z
   subst vq
   try dsimp only at hM
   replace H := H.pk [1, 0, 2, 3, 4, 5, 6, 7] |>.bk H2_
   clear H2_
   refine g_val (decide ((l3.length : Int) < 8)) (gy_t rfl) (fun hg => x_cmp (kd := .i64) (a := r7) (b := 0) (r := r7 == 0) rfl rfl rfl) ?_
   refine s_val (x_pand (b := decide ((l3.length : Int) < 8)) (r := r7 == 0) rfl (fun hb => gd_of (c := decide ((l3.length : Int) < 8)) (by first | exact hb | (rw [hb]; rfl) | simp_all) (B (r7 == 0))) rfl) ?_
   refine s_nil ?_
   replace H := H.pk [0, 3, 4, 5, 6, 7]
   refine W.cond ((decide ((l3.length : Int) < 8)) && (r7 == 0)) rfl (fun c377z => ?_) (fun c377z => ?_)
   ·replace hM := M.e_t hM c377z
    refine W.region rfl ?_
    refine s_val (x_fa (a := .pointer (some ⟨b_2, 0, none⟩)) (v := .pointer (some ⟨b_2, 2, none⟩)) rfl (fa_blk (o := 0) Fd30_2 Sz23)) ?_
    refine s_val (x_ld (p := .pointer (some ⟨b_2, 2, none⟩)) (v := v_l3) rfl (ldb_sc Sc23 (H.blk (k := 4) rfl) rfl)) ?_
    refine s_val (x_mv (v := I (i : Int)) rfl) ?_
    refine t_bs (α := Int) T23 [I (i : Int)] [(i : Int)] H rfl (.cons rfl (Flat.rep_enc _ (i : Int)) <| .nil) rfl rfl rfl ?_
    intro v378z w379z H
    obtain ⟨sd380z, hM⟩ := M.e_grd hM
    simp only [Bool.and_eq_true, decide_eq_true_eq] at sd380z
    refine t_app (α := Int) (k := 2) (l := l3) (l2 := [(i : Int)]) (l' := l3 ++ ([(i : Int)])) (vy := v378z) T23 rfl H rfl rfl rfl (ownSl (H.get (k := 0) rfl)) (ownLe _ (H.get (k := 0) rfl)) (rfl) (by first | omega | (simp only [List.length_nil] at *; omega)) ?_
    intro v381z w382z H
    replace H := H.nf
    refine s_val (x_fa (a := .pointer (some ⟨b_2, 0, none⟩)) (v := .pointer (some ⟨b_2, 2, none⟩)) rfl (fa_blk (o := 0) Fd30_2 Sz23)) ?_
    refine t_sw 5 2 [v381z] v381z H rfl rfl Sz23 (Sl.cells (ownSl (H.get (k := 2) rfl))) rfl rfl (by simp only [List.all_cons, List.all_nil, Bool.true_and, Bool.and_true, Sl.oc (ownSl (H.get (k := 2) rfl))]; try rfl) ?_
    intro w383z H
    refine s_nil ?_
    refine W.region rfl ?_
    refine s_val (x_mv (v := I (i : Int)) rfl) ?_
    obtain ⟨sd384z, hM⟩ := M.e_grd hM
    simp only [Bool.and_eq_true, decide_eq_true_eq] at sd384z
    refine s_val (x_ari (a := (i : Int)) (b := 1) (r := (i : Int) + 1) rfl rfl rfl (by omega)) ?_
    refine s_val (x_as (v := I ((i : Int) + 1)) rfl) ?_
    refine s_nil ?_
    exact ⟨m13z, lt14z, q16, q26, i + 1, l ++ ([(down : Int)]), l2 ++ ([(⟨(r5 : Int), (r5 + r6 : Int)⟩ : Span)]), l3 ++ ([(i : Int)]), uj_o_9, uj_o_10, v381z, _, upds_of _ _ ⟨rfl, rfl, rfl, rfl, rfl, trivial⟩, M.e_inl hM hN16z, (H.pk [2, 3, 4, 1, 5, 6])⟩
   replace hM := M.e_f hM c377z
   refine W.skip ?_
   refine W.region rfl ?_
   refine s_val (x_mv (v := I (i : Int)) rfl) ?_
   obtain ⟨sd385z, hM⟩ := M.e_grd hM
   simp only [Bool.and_eq_true, decide_eq_true_eq] at sd385z
   refine s_val (x_ari (a := (i : Int)) (b := 1) (r := (i : Int) + 1) rfl rfl rfl (by omega)) ?_
   refine s_val (x_as (v := I ((i : Int) + 1)) rfl) ?_
   refine s_nil ?_
   exact ⟨m13z, lt14z, q16, q26, i + 1, l ++ ([(down : Int)]), l2 ++ ([(⟨(r5 : Int), (r5 + r6 : Int)⟩ : Span)]), l3, uj_o_9, uj_o_10, v_l3, _, upds_of _ _ ⟨rfl, rfl, rfl, rfl, rfl, trivial⟩, M.e_inl hM hN16z, (H.pk [1, 2, 3, 0, 4, 5])⟩
  replace hM := M.e_f hM hg_
  refine g_val (v := B false) (decide ((l3.length : Int) < 8)) (gy_t rfl) (fun hg => Bool.noConfusion (hg_.symm.trans hg)) ?_
  refine s_val (x_pand0 (b := decide ((l3.length : Int) < 8)) rfl (fun hb => gd_of (c := decide ((l3.length : Int) < 8)) (by first | exact hb | (rw [hb]; rfl) | simp_all) (B false)) rfl) ?_
  refine s_nil ?_
  replace H := H.pk [1, 3, 4, 5, 6, 7]
  refine W.cond false rfl (fun c386z => ?_) (fun c386z => ?_)
  ·skip
   exact absurd c386z (by decide)
  skip
  refine W.skip ?_
  refine W.region rfl ?_
  refine s_val (x_mv (v := I (i : Int)) rfl) ?_
  obtain ⟨sd387z, hM⟩ := M.e_grd hM
  simp only [Bool.and_eq_true, decide_eq_true_eq] at sd387z
  refine s_val (x_ari (a := (i : Int)) (b := 1) (r := (i : Int) + 1) rfl rfl rfl (by omega)) ?_
  refine s_val (x_as (v := I ((i : Int) + 1)) rfl) ?_
  refine s_nil ?_
  exact ⟨m13z, lt14z, q15, q25, i + 1, l ++ ([(down : Int)]), l2 ++ ([(⟨(r5 : Int), (r5 + r6 : Int)⟩ : Span)]), l3, uj_o_9, uj_o_10, v_l3, _, upds_of _ _ ⟨rfl, rfl, rfl, rfl, rfl, trivial⟩, M.e_inl hM hN16z, (H.pk [1, 2, 3, 0, 4, 5])⟩
 replace hM := M.e_f hM c17z
 simp only [decide_eq_true_eq, decide_eq_false_iff_not, beq_iff_eq, bne_iff_ne, beq_eq_false_iff_ne, bne_eq_false_iff_eq, ne_eq, Decidable.not_not] at c17z
 refine W.exit ?_
 have hX388z := M.e_inr hM hN16z
 subst hX388z
 replace hM := hk9z
 try dsimp only at hM
 refine W.seqJ (fun σ W => ∃ (l10 : List Int) (v_l10 : Value) (ρ : Env), σ = upds ρ [(0, .pointer (some ⟨b_s, 0, none⟩)), (4, .pointer (some ⟨b_1, 0, none⟩)), (5, .pointer (some ⟨b_2, 0, none⟩)), (6, I r2)] /\ (zaI s_bytes r2 s4 s5 l2 l l10).Ends r /\ St w W [cOwn (α := Int) 3 v_l10 l10, cOwn (α := Span) 27 v_l2 l2, cOwn (α := Int) 3 v_l l, cBlk b_s [v_s_bytes, I s4, I s5] 71, cBlk b_2 [v_l, v_l2, v_l10, .slice none 0 0, I 0, I 0, .slice none 0 0] 30, cBlk b_1 [.slice none 0 0, .slice none 0 0, .slice none 0 0, .slice none 0 0, I 0, I 0, .slice none 0 0] 30] R) ?_ ?_
 ·skip
  refine W.seq ?_
  refine W.region rfl ?_
  refine s_val (x_fa (a := .pointer (some ⟨b_2, 0, none⟩)) (v := .pointer (some ⟨b_2, 2, none⟩)) rfl (fa_blk (o := 0) Fd30_2 Sz23)) ?_
  refine s_val (x_ld (p := .pointer (some ⟨b_2, 2, none⟩)) (v := v_l3) rfl (ldb_sc Sc23 (H.blk (k := 4) rfl) rfl)) ?_
  have hl389z := ((ownSl (H.get (k := 0) rfl))).len_le
  refine s_val (x_lenS T23.und rfl (ownSl (H.get (k := 0) rfl))) ?_
  refine s_val (x_cmp (kd := .i64) (a := (l3.length : Int)) (b := 0) (r := (l3.length : Int) == 0) rfl rfl rfl) ?_
  refine s_nil ?_
  refine W.cond ((l3.length : Int) == 0) rfl (fun c390z => ?_) (fun c390z => ?_)
  ·replace hM := M.e_t hM c390z
   simp only [decide_eq_true_eq, decide_eq_false_iff_not, beq_iff_eq, bne_iff_ne, beq_eq_false_iff_ne, bne_eq_false_iff_eq, ne_eq, Decidable.not_not] at c390z
   refine W.region rfl ?_
   refine t_bs (α := Int) T23 [I 0] [(0 : Int)] H rfl (.cons rfl (Flat.rep_enc _ (0 : Int)) <| .nil) rfl rfl rfl ?_
   intro v391z w392z H
   refine s_val (x_fa (a := .pointer (some ⟨b_2, 0, none⟩)) (v := .pointer (some ⟨b_2, 2, none⟩)) rfl (fa_blk (o := 0) Fd30_2 Sz23)) ?_
   refine t_sw 5 2 [v391z] v391z H rfl rfl Sz23 (Sl.cells (ownSl (H.get (k := 0) rfl))) rfl rfl (by simp only [List.all_cons, List.all_nil, Bool.true_and, Bool.and_true, Sl.oc (ownSl (H.get (k := 0) rfl))]; try rfl) ?_
   intro w393z H
   refine s_nil ?_
   exact ⟨[(0 : Int)], v391z, _, upds_of _ _ ⟨rfl, rfl, rfl, rfl, trivial⟩, hM, (H.pk [0, 2, 3, 4, 5, 6])⟩
  replace hM := M.e_f hM c390z
  simp only [decide_eq_true_eq, decide_eq_false_iff_not, beq_iff_eq, bne_iff_ne, beq_eq_false_iff_ne, bne_eq_false_iff_eq, ne_eq, Decidable.not_not] at c390z
  refine W.skip ?_
  exact ⟨l3, v_l3, _, upds_of _ _ ⟨rfl, rfl, rfl, rfl, trivial⟩, hM, H⟩
 rintro _ w394z ⟨l10, v_l10, ρ, rfl, hM, H⟩
 unfold zaI at hM
 refine W.seq ?_
 refine W.seq ?_
 refine W.region rfl ?_
 refine s_val (x_mv (v := .pointer (some ⟨b_s, 0, none⟩)) rfl) ?_
 obtain ⟨r396z, hx395z, hM⟩ := M.e_bind hM
 refine s_call cf10 [.pointer (some ⟨b_s, 0, none⟩), I 8] rfl (zab s_bytes s4 s5 8 (hC_s_bytes.app _) hs_s_bytes hx395z _ ((H.pk [3, 0, 1, 2, 4, 5]).gt 5)) ?_
 rintro vq w397z ⟨r8, q17, q27, hr398z, hvq, H2_⟩
 subst hr398z
 subst vq
 try dsimp only at hM
 replace H := H.pk [3, 0, 1, 2, 4, 5] |>.bk H2_
 clear H2_
 refine s_val (x_as (v := I r8) rfl) ?_
 refine s_nil ?_
 refine W.block ?_
 replace H := H.nilOwn (α := Town) 54
 obtain ⟨ex399z, hi400z, hk401z⟩ := M.e_bind hM
 obtain ⟨m0_, hi400z⟩ := M.e_iter hi400z
 refine W.loop (fun m σ W => ∃ (s8 : Int) (s9 : Int) (k : Int) (l11 : List Town) (v_l11 : Value) (ρ : Env), σ = upds ρ [(0, .pointer (some ⟨b_s, 0, none⟩)), (4, .pointer (some ⟨b_1, 0, none⟩)), (5, .pointer (some ⟨b_2, 0, none⟩)), (6, I r2), (10, I k)] /\ M.iterN (za8 s_bytes r2) m (s8, s9, k, l11) = some ex399z /\ St w W [cOwn (α := Town) 54 v_l11 l11, cBlk b_s [v_s_bytes, I s8, I s9] 71, cOwn (α := Int) 3 v_l10 l10, cOwn (α := Span) 27 v_l2 l2, cOwn (α := Int) 3 v_l l, cBlk b_2 [v_l, v_l2, v_l10, v_l11, I 0, I 0, .slice none 0 0] 30, cBlk b_1 [.slice none 0 0, .slice none 0 0, .slice none 0 0, .slice none 0 0, I 0, I 0, .slice none 0 0] 30] R) ?_ ?_
 ·exact ⟨_, q17, q27, r8, [], (.slice none 0 0), _, upds_of _ _ ⟨rfl, rfl, rfl, rfl, rfl, trivial⟩, hi400z, H⟩
 rintro m404z σ w402z ⟨s8, s9, k, l11, v_l11, ρ, rfl, hI403z, H⟩
 obtain ⟨m405z, lt406z, x407z, hM, hN408z⟩ := M.e_iterN hI403z
 simp only [za8] at hM
 clear hI403z
 refine W.seq ?_
 refine W.seq ?_
 refine W.region rfl ?_
 refine s_val (x_mv (v := I k) rfl) ?_
 refine s_val (x_cmp (kd := .i64) (a := k) (b := 0) (r := decide (0 < k)) rfl rfl rfl) ?_
 refine s_nil ?_
 refine W.cond (decide (0 < k)) rfl (fun c409z => ?_) (fun c409z => ?_)
 ·replace hM := M.e_t hM c409z
  simp only [decide_eq_true_eq, decide_eq_false_iff_not, beq_iff_eq, bne_iff_ne, beq_eq_false_iff_ne, bne_eq_false_iff_eq, ne_eq, Decidable.not_not] at c409z
  refine W.skip ?_
  refine W.seq ?_
  refine W.block ?_
  refine W.drawT (fun W => St w W [cOwn (α := Int) 3 v_l10 l10, cOwn (α := Span) 27 v_l2 l2, cOwn (α := Int) 3 v_l l, cBlk b_1 [.slice none 0 0, .slice none 0 0, .slice none 0 0, .slice none 0 0, I 0, I 0, .slice none 0 0] 30] R) (.q 0 (.q 2 (.q 3 (.q 5 (.q 7 (.l2 1 (.l 4 (.l 6 (.l 8 (.q 9 (.l 10 (.l 11 (.q 12 (.l 13 .nil)))))))) 4 (.l2 1 (.l 6 (.l 8 (.q 9 (.l 10 (.l 11 (.q 12 (.l 13 .nil))))))) 6 (.l2 1 (.l 8 (.q 9 (.l 10 (.l 11 (.q 12 (.l 13 .nil)))))) 8 (.q 9 (.l2 1 (.l 10 (.l 11 (.q 12 (.l 13 .nil)))) 10 (.l 1 (.l 11 (.q 12 (.l 13 .nil)))))))))))))) mixed (by decide +kernel) rfl ?_
  intro w410z hx_
  replace H := H.ext hx_
  clear hx_
  refine ⟨(H.pk [2, 3, 4, 6]), ?_⟩
  refine t_q rfl (fun w' H => x_fa (a := .pointer (some ⟨b_2, 0, none⟩)) (v := .pointer (some ⟨b_2, 3, none⟩)) rfl (fa_blk (o := 0) Fd30_3 Sz25)) ?_
  refine t_q rfl (fun w' H => x_mv (v := .pointer (some ⟨b_s, 0, none⟩)) rfl) ?_
  refine t_q rfl (fun w' H => x_mv (v := I r2) rfl) ?_
  refine t_q rfl (fun w' H => x_mv (v := .pointer (some ⟨b_s, 0, none⟩)) rfl) ?_
  refine t_q rfl (fun w' H => x_mv (v := .pointer (some ⟨b_s, 0, none⟩)) rfl) ?_
  refine t_l2 rfl rfl ?_ ?_
  ·skip
   refine s_val (x_ld (p := .pointer (some ⟨b_2, 3, none⟩)) (v := v_l11) rfl (ldb_sc Sc25 (H.blk (k := 5) rfl) rfl)) ?_
   have hvc_q429z := Sl.cells (ownSl (H.get (k := 0) rfl))
   have hvo_q429z := Sl.oc (ownSl (H.get (k := 0) rfl))
   refine s_nil ⟨(H.pk [2, 3, 4, 6]), ?_⟩
   refine t_l rfl ?_
   obtain ⟨r431z, hx430z, hM⟩ := M.e_bind hM
   refine s_call cf10 [.pointer (some ⟨b_s, 0, none⟩), I r2] rfl (zab s_bytes s8 s9 r2 (hC_s_bytes.app _) hs_s_bytes hx430z _ ((H.pk [1, 0, 2, 3, 4, 5, 6]).gt 6)) ?_
   rintro vq w432z ⟨r9, q18, q28, hr433z, hvq, H2_⟩
   subst hr433z
   subst vq
   try dsimp only at hM
   replace H := H.pk [1, 0, 2, 3, 4, 5, 6] |>.bk H2_
   clear H2_
   refine s_nil ⟨(H.pk [2, 3, 4, 6]), ?_⟩
   refine t_l rfl ?_
   obtain ⟨r435z, hx434z, hM⟩ := M.e_bind hM
   refine s_call cf10 [.pointer (some ⟨b_s, 0, none⟩), I 8] rfl (zab s_bytes q18 q28 8 (hC_s_bytes.app _) hs_s_bytes hx434z _ (H.gt 6)) ?_
   rintro vq w436z ⟨r10, q19, q29, hr437z, hvq, H2_⟩
   subst hr437z
   subst vq
   try dsimp only at hM
   replace H := H.bk H2_
   clear H2_
   refine s_nil ⟨(H.pk [2, 3, 4, 6]), ?_⟩
   refine t_l rfl ?_
   obtain ⟨r439z, hx438z, hM⟩ := M.e_bind hM
   refine s_call cf27 [.pointer (some ⟨b_s, 0, none⟩), I 100, I 300] rfl (zaF s_bytes q19 q29 100 300 (hC_s_bytes.app _) hs_s_bytes hx438z _ (H.gt 6)) ?_
   rintro vq w440z ⟨r11, q110, q210, hr441z, hvq, H2_⟩
   subst hr441z
   subst vq
   try dsimp only at hM
   replace H := H.bk H2_
   clear H2_
   refine s_nil ⟨(H.pk [2, 3, 4, 6]), ?_⟩
   refine t_q rfl (fun w' H => x_bld (ps := [(0, I r9), (1, I r10), (2, I r11)]) (zs := [I 0, I 0, I 0]) (L' := [I r9, I r10, I r11]) rfl Try.underlying54 Al54 rfl (Bd54 Try.underlying54) (.cons (cs := [I r9]) rfl rfl rfl rfl rfl <| .cons (cs := [I r10]) rfl rfl rfl rfl rfl <| .cons (cs := [I r11]) rfl rfl rfl rfl rfl <| .nil)) ?_
   refine t_l rfl ?_
   refine t_bs (α := Town) T25 [.agg #[I r9, I r10, I r11]] [(⟨(r9 : Int), (r10 : Int), (r11 : Int)⟩ : Town)] H rfl (.cons rfl (Flat.rep_enc _ (⟨(r9 : Int), (r10 : Int), (r11 : Int)⟩ : Town)) <| .nil) rfl rfl rfl ?_
   intro v442z w443z H
   have hvc_q444z := Sl.cells (ownSl (H.get (k := 0) rfl))
   have hvo_q444z := Sl.oc (ownSl (H.get (k := 0) rfl))
   refine s_nil ⟨(H.pk [3, 4, 5, 7]), ?_⟩
   refine t_l rfl ?_
   obtain ⟨sd445z, hM⟩ := M.e_grd hM
   simp only [Bool.and_eq_true, decide_eq_true_eq] at sd445z
   refine t_app (α := Town) (k := 2) (l := l11) (l2 := [(⟨(r9 : Int), (r10 : Int), (r11 : Int)⟩ : Town)]) (l' := l11 ++ ([(⟨(r9 : Int), (r10 : Int), (r11 : Int)⟩ : Town)])) (vy := v442z) T25 rfl H rfl rfl rfl (ownSl (H.get (k := 0) rfl)) (ownLe _ (H.get (k := 0) rfl)) (rfl) (by first | omega | (simp only [List.length_nil] at *; omega)) ?_
   intro v446z w447z H
   replace H := H.nf
   have hvc_q448z := Sl.cells (ownSl (H.get (k := 2) rfl))
   have hvo_q448z := Sl.oc (ownSl (H.get (k := 2) rfl))
   refine s_nil ⟨(H.pk [3, 4, 5, 7]), ?_⟩
   refine t_q rfl (fun w' H => x_fa (a := .pointer (some ⟨b_2, 0, none⟩)) (v := .pointer (some ⟨b_2, 3, none⟩)) rfl (fa_blk (o := 0) Fd30_3 Sz25)) ?_
   refine t_l rfl ?_
   refine t_sw 6 3 [v446z] v446z H rfl rfl Sz25 (Sl.cells (ownSl (H.get (k := 2) rfl))) rfl rfl (by simp only [List.all_cons, List.all_nil, Bool.true_and, Bool.and_true, Sl.oc (ownSl (H.get (k := 2) rfl))]; try rfl) ?_
   intro w449z H
   refine s_nil ⟨(H.pk [3, 4, 5, 7]), ?_⟩
   refine t_nil ?_
   refine W.region rfl ?_
   refine s_val (x_mv (v := I k) rfl) ?_
   obtain ⟨sd450z, hM⟩ := M.e_grd hM
   simp only [Bool.and_eq_true, decide_eq_true_eq] at sd450z
   refine s_val (x_ari (a := k) (b := 1) (r := k - 1) rfl rfl rfl (by omega)) ?_
   refine s_val (x_as (v := I (k - 1)) rfl) ?_
   refine s_nil ?_
   exact ⟨m405z, lt406z, q110, q210, k - 1, l11 ++ ([(⟨(r9 : Int), (r10 : Int), (r11 : Int)⟩ : Town)]), v446z, _, upds_of _ _ ⟨rfl, rfl, rfl, rfl, rfl, trivial⟩, M.e_inl hM hN408z, (H.pk [2, 1, 3, 4, 5, 6, 7])⟩
  skip
  obtain ⟨r452z, hx451z, hM⟩ := M.e_bind hM
  refine s_call cf10 [.pointer (some ⟨b_s, 0, none⟩), I r2] rfl (zab s_bytes s8 s9 r2 (hC_s_bytes.app _) hs_s_bytes hx451z _ ((H.pk [1, 0, 2, 3, 4, 5, 6]).gt 6)) ?_
  rintro vq w453z ⟨r9, q18, q28, hr454z, hvq, H2_⟩
  subst hr454z
  subst vq
  try dsimp only at hM
  replace H := H.pk [1, 0, 2, 3, 4, 5, 6] |>.bk H2_
  clear H2_
  have hvc_q455z := Sl.cells (ownSl (H.get (k := 1) rfl))
  have hvo_q455z := Sl.oc (ownSl (H.get (k := 1) rfl))
  refine s_nil ⟨(H.pk [2, 3, 4, 6]), ?_⟩
  refine t_l2 rfl rfl ?_ ?_
  ·skip
   refine s_val (x_ld (p := .pointer (some ⟨b_2, 3, none⟩)) (v := v_l11) rfl (ldb_sc Sc25 (H.blk (k := 5) rfl) rfl)) ?_
   refine s_nil ⟨(H.pk [2, 3, 4, 6]), ?_⟩
   refine t_l rfl ?_
   obtain ⟨r471z, hx470z, hM⟩ := M.e_bind hM
   refine s_call cf10 [.pointer (some ⟨b_s, 0, none⟩), I 8] rfl (zab s_bytes q18 q28 8 (hC_s_bytes.app _) hs_s_bytes hx470z _ (H.gt 6)) ?_
   rintro vq w472z ⟨r10, q19, q29, hr473z, hvq, H2_⟩
   subst hr473z
   subst vq
   try dsimp only at hM
   replace H := H.bk H2_
   clear H2_
   refine s_nil ⟨(H.pk [2, 3, 4, 6]), ?_⟩
   refine t_l rfl ?_
   obtain ⟨r475z, hx474z, hM⟩ := M.e_bind hM
   refine s_call cf27 [.pointer (some ⟨b_s, 0, none⟩), I 100, I 300] rfl (zaF s_bytes q19 q29 100 300 (hC_s_bytes.app _) hs_s_bytes hx474z _ (H.gt 6)) ?_
   rintro vq w476z ⟨r11, q110, q210, hr477z, hvq, H2_⟩
   subst hr477z
   subst vq
   try dsimp only at hM
   replace H := H.bk H2_
   clear H2_
   refine s_nil ⟨(H.pk [2, 3, 4, 6]), ?_⟩
   refine t_q rfl (fun w' H => x_bld (ps := [(0, I r9), (1, I r10), (2, I r11)]) (zs := [I 0, I 0, I 0]) (L' := [I r9, I r10, I r11]) rfl Try.underlying54 Al54 rfl (Bd54 Try.underlying54) (.cons (cs := [I r9]) rfl rfl rfl rfl rfl <| .cons (cs := [I r10]) rfl rfl rfl rfl rfl <| .cons (cs := [I r11]) rfl rfl rfl rfl rfl <| .nil)) ?_
   refine t_l rfl ?_
   refine t_bs (α := Town) T25 [.agg #[I r9, I r10, I r11]] [(⟨(r9 : Int), (r10 : Int), (r11 : Int)⟩ : Town)] H rfl (.cons rfl (Flat.rep_enc _ (⟨(r9 : Int), (r10 : Int), (r11 : Int)⟩ : Town)) <| .nil) rfl rfl rfl ?_
   intro v478z w479z H
   have hvc_q480z := Sl.cells (ownSl (H.get (k := 0) rfl))
   have hvo_q480z := Sl.oc (ownSl (H.get (k := 0) rfl))
   refine s_nil ⟨(H.pk [3, 4, 5, 7]), ?_⟩
   refine t_l rfl ?_
   obtain ⟨sd481z, hM⟩ := M.e_grd hM
   simp only [Bool.and_eq_true, decide_eq_true_eq] at sd481z
   refine t_app (α := Town) (k := 2) (l := l11) (l2 := [(⟨(r9 : Int), (r10 : Int), (r11 : Int)⟩ : Town)]) (l' := l11 ++ ([(⟨(r9 : Int), (r10 : Int), (r11 : Int)⟩ : Town)])) (vy := v478z) T25 rfl H rfl rfl rfl (ownSl (H.get (k := 0) rfl)) (ownLe _ (H.get (k := 0) rfl)) (rfl) (by first | omega | (simp only [List.length_nil] at *; omega)) ?_
   intro v482z w483z H
   replace H := H.nf
   have hvc_q484z := Sl.cells (ownSl (H.get (k := 2) rfl))
   have hvo_q484z := Sl.oc (ownSl (H.get (k := 2) rfl))
   refine s_nil ⟨(H.pk [3, 4, 5, 7]), ?_⟩
   refine t_q rfl (fun w' H => x_fa (a := .pointer (some ⟨b_2, 0, none⟩)) (v := .pointer (some ⟨b_2, 3, none⟩)) rfl (fa_blk (o := 0) Fd30_3 Sz25)) ?_
   refine t_l rfl ?_
   refine t_sw 6 3 [v482z] v482z H rfl rfl Sz25 (Sl.cells (ownSl (H.get (k := 2) rfl))) rfl rfl (by simp only [List.all_cons, List.all_nil, Bool.true_and, Bool.and_true, Sl.oc (ownSl (H.get (k := 2) rfl))]; try rfl) ?_
   intro w485z H
   refine s_nil ⟨(H.pk [3, 4, 5, 7]), ?_⟩
   refine t_nil ?_
   refine W.region rfl ?_
   refine s_val (x_mv (v := I k) rfl) ?_
   obtain ⟨sd486z, hM⟩ := M.e_grd hM
   simp only [Bool.and_eq_true, decide_eq_true_eq] at sd486z
   refine s_val (x_ari (a := k) (b := 1) (r := k - 1) rfl rfl rfl (by omega)) ?_
   refine s_val (x_as (v := I (k - 1)) rfl) ?_
   refine s_nil ?_
   exact ⟨m405z, lt406z, q110, q210, k - 1, l11 ++ ([(⟨(r9 : Int), (r10 : Int), (r11 : Int)⟩ : Town)]), v482z, _, upds_of _ _ ⟨rfl, rfl, rfl, rfl, rfl, trivial⟩, M.e_inl hM hN408z, (H.pk [2, 1, 3, 4, 5, 6, 7])⟩
  skip
  obtain ⟨r488z, hx487z, hM⟩ := M.e_bind hM
  refine s_call cf10 [.pointer (some ⟨b_s, 0, none⟩), I 8] rfl (zab s_bytes q18 q28 8 (hC_s_bytes.app _) hs_s_bytes hx487z _ (H.gt 6)) ?_
  rintro vq w489z ⟨r10, q19, q29, hr490z, hvq, H2_⟩
  subst hr490z
  subst vq
  try dsimp only at hM
  replace H := H.bk H2_
  clear H2_
  refine s_nil ⟨(H.pk [2, 3, 4, 6]), ?_⟩
  refine t_l2 rfl rfl ?_ ?_
  ·skip
   refine s_val (x_ld (p := .pointer (some ⟨b_2, 3, none⟩)) (v := v_l11) rfl (ldb_sc Sc25 (H.blk (k := 5) rfl) rfl)) ?_
   refine s_nil ⟨(H.pk [2, 3, 4, 6]), ?_⟩
   refine t_l rfl ?_
   obtain ⟨r502z, hx501z, hM⟩ := M.e_bind hM
   refine s_call cf27 [.pointer (some ⟨b_s, 0, none⟩), I 100, I 300] rfl (zaF s_bytes q19 q29 100 300 (hC_s_bytes.app _) hs_s_bytes hx501z _ (H.gt 6)) ?_
   rintro vq w503z ⟨r11, q110, q210, hr504z, hvq, H2_⟩
   subst hr504z
   subst vq
   try dsimp only at hM
   replace H := H.bk H2_
   clear H2_
   refine s_nil ⟨(H.pk [2, 3, 4, 6]), ?_⟩
   refine t_q rfl (fun w' H => x_bld (ps := [(0, I r9), (1, I r10), (2, I r11)]) (zs := [I 0, I 0, I 0]) (L' := [I r9, I r10, I r11]) rfl Try.underlying54 Al54 rfl (Bd54 Try.underlying54) (.cons (cs := [I r9]) rfl rfl rfl rfl rfl <| .cons (cs := [I r10]) rfl rfl rfl rfl rfl <| .cons (cs := [I r11]) rfl rfl rfl rfl rfl <| .nil)) ?_
   refine t_l rfl ?_
   refine t_bs (α := Town) T25 [.agg #[I r9, I r10, I r11]] [(⟨(r9 : Int), (r10 : Int), (r11 : Int)⟩ : Town)] H rfl (.cons rfl (Flat.rep_enc _ (⟨(r9 : Int), (r10 : Int), (r11 : Int)⟩ : Town)) <| .nil) rfl rfl rfl ?_
   intro v505z w506z H
   have hvc_q507z := Sl.cells (ownSl (H.get (k := 0) rfl))
   have hvo_q507z := Sl.oc (ownSl (H.get (k := 0) rfl))
   refine s_nil ⟨(H.pk [3, 4, 5, 7]), ?_⟩
   refine t_l rfl ?_
   obtain ⟨sd508z, hM⟩ := M.e_grd hM
   simp only [Bool.and_eq_true, decide_eq_true_eq] at sd508z
   refine t_app (α := Town) (k := 2) (l := l11) (l2 := [(⟨(r9 : Int), (r10 : Int), (r11 : Int)⟩ : Town)]) (l' := l11 ++ ([(⟨(r9 : Int), (r10 : Int), (r11 : Int)⟩ : Town)])) (vy := v505z) T25 rfl H rfl rfl rfl (ownSl (H.get (k := 0) rfl)) (ownLe _ (H.get (k := 0) rfl)) (rfl) (by first | omega | (simp only [List.length_nil] at *; omega)) ?_
   intro v509z w510z H
   replace H := H.nf
   have hvc_q511z := Sl.cells (ownSl (H.get (k := 2) rfl))
   have hvo_q511z := Sl.oc (ownSl (H.get (k := 2) rfl))
   refine s_nil ⟨(H.pk [3, 4, 5, 7]), ?_⟩
   refine t_q rfl (fun w' H => x_fa (a := .pointer (some ⟨b_2, 0, none⟩)) (v := .pointer (some ⟨b_2, 3, none⟩)) rfl (fa_blk (o := 0) Fd30_3 Sz25)) ?_
   refine t_l rfl ?_
   refine t_sw 6 3 [v509z] v509z H rfl rfl Sz25 (Sl.cells (ownSl (H.get (k := 2) rfl))) rfl rfl (by simp only [List.all_cons, List.all_nil, Bool.true_and, Bool.and_true, Sl.oc (ownSl (H.get (k := 2) rfl))]; try rfl) ?_
   intro w512z H
   refine s_nil ⟨(H.pk [3, 4, 5, 7]), ?_⟩
   refine t_nil ?_
   refine W.region rfl ?_
   refine s_val (x_mv (v := I k) rfl) ?_
   obtain ⟨sd513z, hM⟩ := M.e_grd hM
   simp only [Bool.and_eq_true, decide_eq_true_eq] at sd513z
   refine s_val (x_ari (a := k) (b := 1) (r := k - 1) rfl rfl rfl (by omega)) ?_
   refine s_val (x_as (v := I (k - 1)) rfl) ?_
   refine s_nil ?_
   exact ⟨m405z, lt406z, q110, q210, k - 1, l11 ++ ([(⟨(r9 : Int), (r10 : Int), (r11 : Int)⟩ : Town)]), v509z, _, upds_of _ _ ⟨rfl, rfl, rfl, rfl, rfl, trivial⟩, M.e_inl hM hN408z, (H.pk [2, 1, 3, 4, 5, 6, 7])⟩
  skip
  obtain ⟨r515z, hx514z, hM⟩ := M.e_bind hM
  refine s_call cf27 [.pointer (some ⟨b_s, 0, none⟩), I 100, I 300] rfl (zaF s_bytes q19 q29 100 300 (hC_s_bytes.app _) hs_s_bytes hx514z _ (H.gt 6)) ?_
  rintro vq w516z ⟨r11, q110, q210, hr517z, hvq, H2_⟩
  subst hr517z
  subst vq
  try dsimp only at hM
  replace H := H.bk H2_
  clear H2_
  refine s_nil ⟨(H.pk [2, 3, 4, 6]), ?_⟩
  refine t_q rfl (fun w' H => x_bld (ps := [(0, I r9), (1, I r10), (2, I r11)]) (zs := [I 0, I 0, I 0]) (L' := [I r9, I r10, I r11]) rfl Try.underlying54 Al54 rfl (Bd54 Try.underlying54) (.cons (cs := [I r9]) rfl rfl rfl rfl rfl <| .cons (cs := [I r10]) rfl rfl rfl rfl rfl <| .cons (cs := [I r11]) rfl rfl rfl rfl rfl <| .nil)) ?_
  obtain ⟨sd520z, hM⟩ := M.e_grd hM
  simp only [Bool.and_eq_true, decide_eq_true_eq] at sd520z
  refine t_l2 rfl rfl ?_ ?_
  ·skip
   refine s_val (x_ld (p := .pointer (some ⟨b_2, 3, none⟩)) (v := v_l11) rfl (ldb_sc Sc25 (H.blk (k := 5) rfl) rfl)) ?_
   refine s_nil ⟨(H.pk [2, 3, 4, 6]), ?_⟩
   refine t_l rfl ?_
   refine t_bs (α := Town) T25 [.agg #[I r9, I r10, I r11]] [(⟨(r9 : Int), (r10 : Int), (r11 : Int)⟩ : Town)] H rfl (.cons rfl (Flat.rep_enc _ (⟨(r9 : Int), (r10 : Int), (r11 : Int)⟩ : Town)) <| .nil) rfl rfl rfl ?_
   intro v524z w525z H
   have hvc_q526z := Sl.cells (ownSl (H.get (k := 0) rfl))
   have hvo_q526z := Sl.oc (ownSl (H.get (k := 0) rfl))
   refine s_nil ⟨(H.pk [3, 4, 5, 7]), ?_⟩
   refine t_l rfl ?_
   refine t_app (α := Town) (k := 2) (l := l11) (l2 := [(⟨(r9 : Int), (r10 : Int), (r11 : Int)⟩ : Town)]) (l' := l11 ++ ([(⟨(r9 : Int), (r10 : Int), (r11 : Int)⟩ : Town)])) (vy := v524z) T25 rfl H rfl rfl rfl (ownSl (H.get (k := 0) rfl)) (ownLe _ (H.get (k := 0) rfl)) (rfl) (by first | omega | (simp only [List.length_nil] at *; omega)) ?_
   intro v527z w528z H
   replace H := H.nf
   have hvc_q529z := Sl.cells (ownSl (H.get (k := 2) rfl))
   have hvo_q529z := Sl.oc (ownSl (H.get (k := 2) rfl))
   refine s_nil ⟨(H.pk [3, 4, 5, 7]), ?_⟩
   refine t_q rfl (fun w' H => x_fa (a := .pointer (some ⟨b_2, 0, none⟩)) (v := .pointer (some ⟨b_2, 3, none⟩)) rfl (fa_blk (o := 0) Fd30_3 Sz25)) ?_
   refine t_l rfl ?_
   refine t_sw 6 3 [v527z] v527z H rfl rfl Sz25 (Sl.cells (ownSl (H.get (k := 2) rfl))) rfl rfl (by simp only [List.all_cons, List.all_nil, Bool.true_and, Bool.and_true, Sl.oc (ownSl (H.get (k := 2) rfl))]; try rfl) ?_
   intro w530z H
   refine s_nil ⟨(H.pk [3, 4, 5, 7]), ?_⟩
   refine t_nil ?_
   refine W.region rfl ?_
   refine s_val (x_mv (v := I k) rfl) ?_
   obtain ⟨sd531z, hM⟩ := M.e_grd hM
   simp only [Bool.and_eq_true, decide_eq_true_eq] at sd531z
   refine s_val (x_ari (a := k) (b := 1) (r := k - 1) rfl rfl rfl (by omega)) ?_
   refine s_val (x_as (v := I (k - 1)) rfl) ?_
   refine s_nil ?_
   exact ⟨m405z, lt406z, q110, q210, k - 1, l11 ++ ([(⟨(r9 : Int), (r10 : Int), (r11 : Int)⟩ : Town)]), v527z, _, upds_of _ _ ⟨rfl, rfl, rfl, rfl, rfl, trivial⟩, M.e_inl hM hN408z, (H.pk [2, 1, 3, 4, 5, 6, 7])⟩
  skip
  refine t_bs (α := Town) T25 [.agg #[I r9, I r10, I r11]] [(⟨(r9 : Int), (r10 : Int), (r11 : Int)⟩ : Town)] H rfl (.cons rfl (Flat.rep_enc _ (⟨(r9 : Int), (r10 : Int), (r11 : Int)⟩ : Town)) <| .nil) rfl rfl rfl ?_
  intro v532z w533z H
  have hvc_q534z := Sl.cells (ownSl (H.get (k := 0) rfl))
  have hvo_q534z := Sl.oc (ownSl (H.get (k := 0) rfl))
  refine s_nil ⟨(H.pk [3, 4, 5, 7]), ?_⟩
  refine t_l rfl ?_
  refine s_val (x_ld (p := .pointer (some ⟨b_2, 3, none⟩)) (v := v_l11) rfl (ldb_sc Sc25 (H.blk (k := 6) rfl) rfl)) ?_
  refine s_nil ⟨(H.pk [3, 4, 5, 7]), ?_⟩
  refine t_l rfl ?_
  refine t_app (α := Town) (k := 2) (l := l11) (l2 := [(⟨(r9 : Int), (r10 : Int), (r11 : Int)⟩ : Town)]) (l' := l11 ++ ([(⟨(r9 : Int), (r10 : Int), (r11 : Int)⟩ : Town)])) (vy := v532z) T25 rfl H rfl rfl rfl (ownSl (H.get (k := 0) rfl)) (ownLe _ (H.get (k := 0) rfl)) (rfl) (by first | omega | (simp only [List.length_nil] at *; omega)) ?_
  intro v535z w536z H
  replace H := H.nf
  have hvc_q537z := Sl.cells (ownSl (H.get (k := 2) rfl))
  have hvo_q537z := Sl.oc (ownSl (H.get (k := 2) rfl))
  refine s_nil ⟨(H.pk [3, 4, 5, 7]), ?_⟩
  refine t_q rfl (fun w' H => x_fa (a := .pointer (some ⟨b_2, 0, none⟩)) (v := .pointer (some ⟨b_2, 3, none⟩)) rfl (fa_blk (o := 0) Fd30_3 Sz25)) ?_
  refine t_l rfl ?_
  refine t_sw 6 3 [v535z] v535z H rfl rfl Sz25 (Sl.cells (ownSl (H.get (k := 2) rfl))) rfl rfl (by simp only [List.all_cons, List.all_nil, Bool.true_and, Bool.and_true, Sl.oc (ownSl (H.get (k := 2) rfl))]; try rfl) ?_
  intro w538z H
  refine s_nil ⟨(H.pk [3, 4, 5, 7]), ?_⟩
  refine t_nil ?_
  refine W.region rfl ?_
  refine s_val (x_mv (v := I k) rfl) ?_
  obtain ⟨sd539z, hM⟩ := M.e_grd hM
  simp only [Bool.and_eq_true, decide_eq_true_eq] at sd539z
  refine s_val (x_ari (a := k) (b := 1) (r := k - 1) rfl rfl rfl (by omega)) ?_
  refine s_val (x_as (v := I (k - 1)) rfl) ?_
  refine s_nil ?_
  exact ⟨m405z, lt406z, q110, q210, k - 1, l11 ++ ([(⟨(r9 : Int), (r10 : Int), (r11 : Int)⟩ : Town)]), v535z, _, upds_of _ _ ⟨rfl, rfl, rfl, rfl, rfl, trivial⟩, M.e_inl hM hN408z, (H.pk [2, 1, 3, 4, 5, 6, 7])⟩
 replace hM := M.e_f hM c409z
 simp only [decide_eq_true_eq, decide_eq_false_iff_not, beq_iff_eq, bne_iff_ne, beq_eq_false_iff_ne, bne_eq_false_iff_eq, ne_eq, Decidable.not_not] at c409z
 refine W.exit ?_
 have hX540z := M.e_inr hM hN408z
 subst hX540z
 replace hM := hk401z
 try dsimp only at hM
 refine W.seq ?_
 refine W.region rfl ?_
 refine s_val (x_mv (v := .pointer (some ⟨b_s, 0, none⟩)) rfl) ?_
 obtain ⟨r542z, hx541z, hM⟩ := M.e_bind hM
 refine s_call cf10 [.pointer (some ⟨b_s, 0, none⟩), I 3] rfl (zab s_bytes s8 s9 3 (hC_s_bytes.app _) hs_s_bytes hx541z _ ((H.pk [1, 0, 2, 3, 4, 5, 6]).gt 6)) ?_
 rintro vq w543z ⟨r12, q111, q211, hr544z, hvq, H2_⟩
 subst hr544z
 subst vq
 try dsimp only at hM
 replace H := H.pk [1, 0, 2, 3, 4, 5, 6] |>.bk H2_
 clear H2_
 refine s_val (x_fa (a := .pointer (some ⟨b_2, 0, none⟩)) (v := .pointer (some ⟨b_2, 4, none⟩)) rfl (fa_blk (o := 0) Fd30_4 Sz27)) ?_
 refine s_val (x_fa (a := .pointer (some ⟨b_2, 4, none⟩)) (v := .pointer (some ⟨b_2, 4, none⟩)) rfl (fa_blk (o := 4) Fd27_0 Sz3)) ?_
 refine t_sw 5 4 [I r12] (I r12) H rfl rfl Sz3 rfl rfl rfl rfl ?_
 intro w545z H
 refine s_nil ?_
 refine W.seqJ (fun σ W => ∃ (r13 : Int) (q112 : Int) (q212 : Int) (ρ : Env), σ = upds ρ [(0, .pointer (some ⟨b_s, 0, none⟩)), (4, .pointer (some ⟨b_1, 0, none⟩)), (5, .pointer (some ⟨b_2, 0, none⟩))] /\ (zbe s_bytes l2 l l10 l11 r12 r13 q112 q212).Ends r /\ St w W [cBlk b_s [v_s_bytes, I q112, I q212] 71, cOwn (α := Town) 54 v_l11 l11, cOwn (α := Int) 3 v_l10 l10, cOwn (α := Span) 27 v_l2 l2, cOwn (α := Int) 3 v_l l, cBlk b_2 [v_l, v_l2, v_l10, v_l11, I r12, I (r12 + r13), .slice none 0 0] 30, cBlk b_1 [.slice none 0 0, .slice none 0 0, .slice none 0 0, .slice none 0 0, I 0, I 0, .slice none 0 0] 30] R) ?_ ?_
 ·skip
  refine W.drawT (fun W => St w W [cOwn (α := Town) 54 v_l11 l11, cOwn (α := Int) 3 v_l10 l10, cOwn (α := Span) 27 v_l2 l2, cOwn (α := Int) 3 v_l l, cBlk b_1 [.slice none 0 0, .slice none 0 0, .slice none 0 0, .slice none 0 0, I 0, I 0, .slice none 0 0] 30] R) (.q 0 (.q 1 (.q 3 (.l2 2 (.l 4 (.q 5 (.q 6 (.q 7 (.l 8 .nil))))) 4 (.l 2 (.q 5 (.q 6 (.q 7 (.l 8 .nil))))))))) mixed (by decide +kernel) rfl ?_
  intro w546z hx_
  replace H := H.ext hx_
  clear hx_
  refine ⟨(H.pk [1, 2, 3, 4, 6]), ?_⟩
  refine t_q rfl (fun w' H => x_fa (a := .pointer (some ⟨b_2, 0, none⟩)) (v := .pointer (some ⟨b_2, 4, none⟩)) rfl (fa_blk (o := 0) Fd30_4 Sz27)) ?_
  refine t_q rfl (fun w' H => x_fa (a := .pointer (some ⟨b_2, 4, none⟩)) (v := .pointer (some ⟨b_2, 4, none⟩)) rfl (fa_blk (o := 4) Fd27_0 Sz3)) ?_
  refine t_q rfl (fun w' H => x_mv (v := .pointer (some ⟨b_s, 0, none⟩)) rfl) ?_
  refine t_l2 rfl rfl ?_ ?_
  ·skip
   refine s_val (x_ld (p := .pointer (some ⟨b_2, 4, none⟩)) (v := I r12) rfl (ldb_sc Sc3 (H.blk (k := 5) rfl) rfl)) ?_
   refine s_nil ⟨(H.pk [1, 2, 3, 4, 6]), ?_⟩
   refine t_l rfl ?_
   obtain ⟨r554z, hx553z, hM⟩ := M.e_bind hM
   refine s_call cf10 [.pointer (some ⟨b_s, 0, none⟩), I 3] rfl (zab s_bytes q111 q211 3 (hC_s_bytes.app _) hs_s_bytes hx553z _ (H.gt 6)) ?_
   rintro vq w555z ⟨r13, q112, q212, hr556z, hvq, H2_⟩
   subst hr556z
   subst vq
   try dsimp only at hM
   replace H := H.bk H2_
   clear H2_
   refine s_nil ⟨(H.pk [1, 2, 3, 4, 6]), ?_⟩
   obtain ⟨sd557z, hM⟩ := M.e_grd hM
   simp only [Bool.and_eq_true, decide_eq_true_eq] at sd557z
   refine t_q rfl (fun w' H => x_ari (a := r12) (b := r13) (r := r12 + r13) rfl rfl rfl (by omega)) ?_
   refine t_q rfl (fun w' H => x_fa (a := .pointer (some ⟨b_2, 0, none⟩)) (v := .pointer (some ⟨b_2, 4, none⟩)) rfl (fa_blk (o := 0) Fd30_4 Sz27)) ?_
   refine t_q rfl (fun w' H => x_fa (a := .pointer (some ⟨b_2, 4, none⟩)) (v := .pointer (some ⟨b_2, 5, none⟩)) rfl (fa_blk (o := 4) Fd27_1 Sz3)) ?_
   refine t_l rfl ?_
   refine t_sw 5 5 [I (r12 + r13)] (I (r12 + r13)) H rfl rfl Sz3 rfl rfl rfl rfl ?_
   intro w558z H
   refine s_nil ⟨(H.pk [1, 2, 3, 4, 6]), ?_⟩
   refine t_nil ?_
   exact ⟨r13, q112, q212, _, upds_of _ _ ⟨rfl, rfl, rfl, trivial⟩, hM, H⟩
  skip
  obtain ⟨r560z, hx559z, hM⟩ := M.e_bind hM
  refine s_call cf10 [.pointer (some ⟨b_s, 0, none⟩), I 3] rfl (zab s_bytes q111 q211 3 (hC_s_bytes.app _) hs_s_bytes hx559z _ (H.gt 6)) ?_
  rintro vq w561z ⟨r13, q112, q212, hr562z, hvq, H2_⟩
  subst hr562z
  subst vq
  try dsimp only at hM
  replace H := H.bk H2_
  clear H2_
  refine s_nil ⟨(H.pk [1, 2, 3, 4, 6]), ?_⟩
  refine t_l rfl ?_
  refine s_val (x_ld (p := .pointer (some ⟨b_2, 4, none⟩)) (v := I r12) rfl (ldb_sc Sc3 (H.blk (k := 5) rfl) rfl)) ?_
  refine s_nil ⟨(H.pk [1, 2, 3, 4, 6]), ?_⟩
  obtain ⟨sd563z, hM⟩ := M.e_grd hM
  simp only [Bool.and_eq_true, decide_eq_true_eq] at sd563z
  refine t_q rfl (fun w' H => x_ari (a := r12) (b := r13) (r := r12 + r13) rfl rfl rfl (by omega)) ?_
  refine t_q rfl (fun w' H => x_fa (a := .pointer (some ⟨b_2, 0, none⟩)) (v := .pointer (some ⟨b_2, 4, none⟩)) rfl (fa_blk (o := 0) Fd30_4 Sz27)) ?_
  refine t_q rfl (fun w' H => x_fa (a := .pointer (some ⟨b_2, 4, none⟩)) (v := .pointer (some ⟨b_2, 5, none⟩)) rfl (fa_blk (o := 4) Fd27_1 Sz3)) ?_
  refine t_l rfl ?_
  refine t_sw 5 5 [I (r12 + r13)] (I (r12 + r13)) H rfl rfl Sz3 rfl rfl rfl rfl ?_
  intro w564z H
  refine s_nil ⟨(H.pk [1, 2, 3, 4, 6]), ?_⟩
  refine t_nil ?_
  exact ⟨r13, q112, q212, _, upds_of _ _ ⟨rfl, rfl, rfl, trivial⟩, hM, H⟩
 rintro _ w565z ⟨r13, q112, q212, ρ, rfl, hM, H⟩
 unfold zbe at hM
 refine W.seq ?_
 refine W.seq ?_
 refine W.region rfl ?_
 refine s_val (x_mv (v := .pointer (some ⟨b_s, 0, none⟩)) rfl) ?_
 obtain ⟨r567z, hx566z, hM⟩ := M.e_bind hM
 refine s_call cf10 [.pointer (some ⟨b_s, 0, none⟩), I 10] rfl (zab s_bytes q112 q212 10 (hC_s_bytes.app _) hs_s_bytes hx566z _ (H.gt 6)) ?_
 rintro vq w568z ⟨r14, q113, q213, hr569z, hvq, H2_⟩
 subst hr569z
 subst vq
 try dsimp only at hM
 replace H := H.bk H2_
 clear H2_
 refine s_val (x_as (v := I r14) rfl) ?_
 refine s_nil ?_
 refine W.block ?_
 obtain ⟨Bs_27, H⟩ := H.emptyE
 replace H := H.nilOwn (α := Raw 1) 67
 have hr570z : RepR (α := Flood) (n := 1) Bs_27.cells [] [] := .nil
 obtain ⟨ex571z, hi572z, hk573z⟩ := M.e_bind hM
 obtain ⟨m0_, hi572z⟩ := M.e_iter hi572z
 refine W.loop (fun m σ W => ∃ (s17 : Int) (s18 : Int) (k2 : Int) (l17 : List Flood) (v_l17 : Value) (rw_l17 : List (Raw 1)) (B_l17 : Base) (ρ : Env), σ = upds ρ [(0, .pointer (some ⟨b_s, 0, none⟩)), (4, .pointer (some ⟨b_1, 0, none⟩)), (5, .pointer (some ⟨b_2, 0, none⟩)), (11, I k2)] /\ M.iterN (za0 s_bytes l l10) m (s17, s18, k2, l17) = some ex571z /\ St w W [cOwn (α := Raw 1) 67 v_l17 rw_l17, cRo B_l17, cBlk b_s [v_s_bytes, I s17, I s18] 71, cOwn (α := Town) 54 v_l11 l11, cOwn (α := Int) 3 v_l10 l10, cOwn (α := Span) 27 v_l2 l2, cOwn (α := Int) 3 v_l l, cBlk b_2 [v_l, v_l2, v_l10, v_l11, I r12, I (r12 + r13), v_l17] 30, cBlk b_1 [.slice none 0 0, .slice none 0 0, .slice none 0 0, .slice none 0 0, I 0, I 0, .slice none 0 0] 30] R /\ RepR (α := Flood) B_l17.cells rw_l17 l17) ?_ ?_
 ·exact ⟨_, q113, q213, r14, [], (.slice none 0 0), [], Bs_27, _, upds_of _ _ ⟨rfl, rfl, rfl, rfl, trivial⟩, hi572z, H, hr570z⟩
 rintro m576z σ w574z ⟨s17, s18, k2, l17, v_l17, rw_l17, B_l17, ρ, rfl, hI575z, H, hr_l17⟩
 obtain ⟨m577z, lt578z, x579z, hM, hN580z⟩ := M.e_iterN hI575z
 simp only [za0] at hM
 clear hI575z
 refine W.seq ?_
 refine W.seq ?_
 refine W.region rfl ?_
 refine s_val (x_mv (v := I k2) rfl) ?_
 refine s_val (x_cmp (kd := .i64) (a := k2) (b := 0) (r := decide (0 < k2)) rfl rfl rfl) ?_
 refine s_nil ?_
 refine W.cond (decide (0 < k2)) rfl (fun c581z => ?_) (fun c581z => ?_)
 ·replace hM := M.e_t hM c581z
  simp only [decide_eq_true_eq, decide_eq_false_iff_not, beq_iff_eq, bne_iff_ne, beq_eq_false_iff_ne, bne_eq_false_iff_eq, ne_eq, Decidable.not_not] at c581z
  refine W.skip ?_
  refine W.seq ?_
  refine W.block ?_
  refine W.seqJ (fun σ W => ∃ (b_16 : Nat) (r15 : Int) (q114 : Int) (q214 : Int) (ρ : Env), σ = upds ρ [(0, .pointer (some ⟨b_s, 0, none⟩)), (4, .pointer (some ⟨b_1, 0, none⟩)), (5, .pointer (some ⟨b_2, 0, none⟩)), (11, I k2), (12, .pointer (some ⟨b_16, 0, none⟩))] /\ (zbi s_bytes l l10 k2 l17 r15 q114 q214).Ends x579z /\ St w W [cBlk b_16 [I (l10.getD (Int.toNat r15) 0), .slice none 0 0] 67, cBlk b_s [v_s_bytes, I q114, I q214] 71, cOwn (α := Raw 1) 67 v_l17 rw_l17, cRo B_l17, cOwn (α := Town) 54 v_l11 l11, cOwn (α := Int) 3 v_l10 l10, cOwn (α := Span) 27 v_l2 l2, cOwn (α := Int) 3 v_l l, cBlk b_2 [v_l, v_l2, v_l10, v_l11, I r12, I (r12 + r13), v_l17] 30, cBlk b_1 [.slice none 0 0, .slice none 0 0, .slice none 0 0, .slice none 0 0, I 0, I 0, .slice none 0 0] 30] R) ?_ ?_
  ·skip
   refine W.drawT (fun W => St w W [cOwn (α := Raw 1) 67 v_l17 rw_l17, cRo B_l17, cOwn (α := Town) 54 v_l11 l11, cOwn (α := Int) 3 v_l10 l10, cOwn (α := Span) 27 v_l2 l2, cOwn (α := Int) 3 v_l l, cBlk b_2 [v_l, v_l2, v_l10, v_l11, I r12, I (r12 + r13), v_l17] 30, cBlk b_1 [.slice none 0 0, .slice none 0 0, .slice none 0 0, .slice none 0 0, I 0, I 0, .slice none 0 0] 30] R) (.q 0 (.q 1 (.q 2 (.q 3 (.q 4 (.q 5 (.l2 6 (.q 7 (.q 8 (.q 9 (.l 10 (.l 11 .nil))))) 10 (.l 6 (.q 7 (.q 8 (.q 9 (.l 11 .nil)))))))))))) mixed (by decide +kernel) rfl ?_
   intro w582z hx_
   replace H := H.ext hx_
   clear hx_
   refine ⟨(H.pk [0, 1, 3, 4, 5, 6, 7, 8]), ?_⟩
   refine t_q rfl (fun w' H => x_fa (a := .pointer (some ⟨b_2, 0, none⟩)) (v := .pointer (some ⟨b_2, 2, none⟩)) rfl (fa_blk (o := 0) Fd30_2 Sz23)) ?_
   refine t_q rfl (fun w' H => x_ld (p := .pointer (some ⟨b_2, 2, none⟩)) (v := v_l10) rfl (ldb_sc Sc23 (H.blk (k := 6) rfl) rfl)) ?_
   refine t_q rfl (fun w' H => x_mv (v := .pointer (some ⟨b_s, 0, none⟩)) rfl) ?_
   refine t_q rfl (fun w' H => x_fa (a := .pointer (some ⟨b_2, 0, none⟩)) (v := .pointer (some ⟨b_2, 2, none⟩)) rfl (fa_blk (o := 0) Fd30_2 Sz23)) ?_
   refine t_q rfl (fun w' H => x_ld (p := .pointer (some ⟨b_2, 2, none⟩)) (v := v_l10) rfl (ldb_sc Sc23 (H.blk (k := 6) rfl) rfl)) ?_
   have hl583z := ((ownSl (H.get (k := 3) rfl))).len_le
   refine t_q rfl (fun w' H => x_lenS T23.und rfl (ownSl (H.get (k := 3) rfl))) ?_
   refine t_l2 rfl rfl ?_ ?_
   ·skip
    obtain ⟨r597z, hx596z, hM⟩ := M.e_bind hM
    refine s_call cf10 [.pointer (some ⟨b_s, 0, none⟩), I (l10.length : Int)] rfl (zab s_bytes s17 s18 (l10.length : Int) (hC_s_bytes.app _) hs_s_bytes hx596z _ ((H.pk [2, 0, 1, 3, 4, 5, 6, 7, 8]).gt 8)) ?_
    rintro vq w598z ⟨r15, q114, q214, hr599z, hvq, H2_⟩
    subst hr599z
    subst vq
    try dsimp only at hM
    replace H := H.pk [2, 0, 1, 3, 4, 5, 6, 7, 8] |>.bk H2_
    clear H2_
    refine s_nil ⟨(H.pk [1, 2, 3, 4, 5, 6, 7, 8]), ?_⟩
    obtain ⟨sd600z, hM⟩ := M.e_grd hM
    simp only [Bool.and_eq_true, decide_eq_true_eq] at sd600z
    refine t_q rfl (fun w' H => x_ix (a := v_l10) (b := I r15) (v := vat v_l10 1 (Int.toNat r15)) rfl rfl (Sl.ix (α := Int) T23.und T23.size (ownSl (H.get (k := 3) rfl)) (by omega) (by omega))) ?_
    refine t_q rfl (fun w' H => x_ld (p := vat v_l10 1 (Int.toNat r15)) (v := I (l10.getD (Int.toNat r15) 0)) rfl (ld_sc Sc3 (At.mono (Int_at (ownSl (H.get (k := 3) rfl)) (i := r15) (by omega) (by omega)) (ownLe _ (H.get (k := 3) rfl))))) ?_
    refine t_q rfl (fun w' H => x_bld (ps := [(0, I (l10.getD (Int.toNat r15) 0))]) (zs := [I 0, .slice none 0 0]) (L' := [I (l10.getD (Int.toNat r15) 0), .slice none 0 0]) rfl Try.underlying67 Al67 rfl (Bd67 Try.underlying67) (.cons (cs := [I (l10.getD (Int.toNat r15) 0)]) rfl rfl rfl rfl rfl <| .nil)) ?_
    refine t_l rfl ?_
    refine t_alloc (cs := [I 0, .slice none 0 0]) H Al67 rfl ?_
    intro b_16 w601z H
    refine s_nil ⟨(H.pk [2, 3, 4, 5, 6, 7, 8, 9]), ?_⟩
    refine t_l rfl ?_
    refine t_sw 0 0 [I (l10.getD (Int.toNat r15) 0), .slice none 0 0] (.agg #[I (l10.getD (Int.toNat r15) 0), .slice none 0 0]) H rfl rfl Sz67 rfl rfl rfl rfl ?_
    intro w602z H
    refine s_nil ⟨(H.pk [2, 3, 4, 5, 6, 7, 8, 9]), ?_⟩
    refine t_nil ?_
    exact ⟨b_16, r15, q114, q214, _, upds_of _ _ ⟨rfl, rfl, rfl, rfl, rfl, trivial⟩, hM, H⟩
   skip
   refine t_alloc (cs := [I 0, .slice none 0 0]) H Al67 rfl ?_
   intro b_16 w603z H
   refine s_nil ⟨(H.pk [1, 2, 4, 5, 6, 7, 8, 9]), ?_⟩
   refine t_l rfl ?_
   obtain ⟨r605z, hx604z, hM⟩ := M.e_bind hM
   refine s_call cf10 [.pointer (some ⟨b_s, 0, none⟩), I (l10.length : Int)] rfl (zab s_bytes s17 s18 (l10.length : Int) (hC_s_bytes.app _) hs_s_bytes hx604z _ ((H.pk [3, 0, 1, 2, 4, 5, 6, 7, 8, 9]).gt 9)) ?_
   rintro vq w606z ⟨r15, q114, q214, hr607z, hvq, H2_⟩
   subst hr607z
   subst vq
   try dsimp only at hM
   replace H := H.pk [3, 0, 1, 2, 4, 5, 6, 7, 8, 9] |>.bk H2_
   clear H2_
   refine s_nil ⟨(H.pk [2, 3, 4, 5, 6, 7, 8, 9]), ?_⟩
   obtain ⟨sd608z, hM⟩ := M.e_grd hM
   simp only [Bool.and_eq_true, decide_eq_true_eq] at sd608z
   refine t_q rfl (fun w' H => x_ix (a := v_l10) (b := I r15) (v := vat v_l10 1 (Int.toNat r15)) rfl rfl (Sl.ix (α := Int) T23.und T23.size (ownSl (H.get (k := 3) rfl)) (by omega) (by omega))) ?_
   refine t_q rfl (fun w' H => x_ld (p := vat v_l10 1 (Int.toNat r15)) (v := I (l10.getD (Int.toNat r15) 0)) rfl (ld_sc Sc3 (At.mono (Int_at (ownSl (H.get (k := 3) rfl)) (i := r15) (by omega) (by omega)) (ownLe _ (H.get (k := 3) rfl))))) ?_
   refine t_q rfl (fun w' H => x_bld (ps := [(0, I (l10.getD (Int.toNat r15) 0))]) (zs := [I 0, .slice none 0 0]) (L' := [I (l10.getD (Int.toNat r15) 0), .slice none 0 0]) rfl Try.underlying67 Al67 rfl (Bd67 Try.underlying67) (.cons (cs := [I (l10.getD (Int.toNat r15) 0)]) rfl rfl rfl rfl rfl <| .nil)) ?_
   refine t_l rfl ?_
   refine t_sw 1 0 [I (l10.getD (Int.toNat r15) 0), .slice none 0 0] (.agg #[I (l10.getD (Int.toNat r15) 0), .slice none 0 0]) H rfl rfl Sz67 rfl rfl rfl rfl ?_
   intro w609z H
   refine s_nil ⟨(H.pk [2, 3, 4, 5, 6, 7, 8, 9]), ?_⟩
   refine t_nil ?_
   exact ⟨b_16, r15, q114, q214, _, upds_of _ _ ⟨rfl, rfl, rfl, rfl, rfl, trivial⟩, hM, (H.pk [1, 0, 2, 3, 4, 5, 6, 7, 8, 9])⟩
  rintro _ w610z ⟨b_16, r15, q114, q214, ρ, rfl, hM, H⟩
  unfold zbi at hM
  refine W.seq ?_
  refine W.seq ?_
  refine W.region rfl ?_
  refine s_val (x_fa (a := .pointer (some ⟨b_16, 0, none⟩)) (v := .pointer (some ⟨b_16, 0, none⟩)) rfl (fa_blk (o := 0) Fd67_0 Sz3)) ?_
  refine s_val (x_ld (p := .pointer (some ⟨b_16, 0, none⟩)) (v := I (l10.getD (Int.toNat r15) 0)) rfl (ldb_sc Sc3 (H.blk (k := 0) rfl) rfl)) ?_
  refine s_val (x_as (v := I (l10.getD (Int.toNat r15) 0)) rfl) ?_
  refine s_nil ?_
  refine W.block ?_
  replace H := H.nilOwn (α := Int) 3
  obtain ⟨ex611z, hi612z, hk613z⟩ := M.e_bind hM
  obtain ⟨m0_, hi612z⟩ := M.e_iter hi612z
  refine W.loop (fun m σ W => ∃ (s12 : Int) (s13 : Int) (s14 : Int) (l14 : List Int) (v_l14 : Value) (ρ : Env), σ = upds ρ [(0, .pointer (some ⟨b_s, 0, none⟩)), (4, .pointer (some ⟨b_1, 0, none⟩)), (5, .pointer (some ⟨b_2, 0, none⟩)), (11, I k2), (12, .pointer (some ⟨b_16, 0, none⟩)), (13, I s14)] /\ M.iterN (zaN s_bytes l) m (s12, s13, s14, l14) = some ex611z /\ St w W [cOwn (α := Int) 3 v_l14 l14, cBlk b_16 [I (l10.getD (Int.toNat r15) 0), v_l14] 67, cBlk b_s [v_s_bytes, I s12, I s13] 71, cOwn (α := Raw 1) 67 v_l17 rw_l17, cRo B_l17, cOwn (α := Town) 54 v_l11 l11, cOwn (α := Int) 3 v_l10 l10, cOwn (α := Span) 27 v_l2 l2, cOwn (α := Int) 3 v_l l, cBlk b_2 [v_l, v_l2, v_l10, v_l11, I r12, I (r12 + r13), v_l17] 30, cBlk b_1 [.slice none 0 0, .slice none 0 0, .slice none 0 0, .slice none 0 0, I 0, I 0, .slice none 0 0] 30] R) ?_ ?_
  ·exact ⟨_, q114, q214, l10.getD (Int.toNat r15) 0, [], (.slice none 0 0), _, upds_of _ _ ⟨rfl, rfl, rfl, rfl, rfl, rfl, trivial⟩, hi612z, H⟩
  rintro m616z σ w614z ⟨s12, s13, s14, l14, v_l14, ρ, rfl, hI615z, H⟩
  obtain ⟨m617z, lt618z, x619z, hM, hN620z⟩ := M.e_iterN hI615z
  simp only [zaN] at hM
  clear hI615z
  refine W.seq ?_
  refine W.seq ?_
  refine W.region rfl ?_
  refine s_val (x_mv (v := I s14) rfl) ?_
  refine s_val (x_cmp (kd := .i64) (a := s14) (b := -1) (r := s14 != (-1)) rfl rfl rfl) ?_
  refine s_nil ?_
  refine W.cond (s14 != (-1)) rfl (fun c621z => ?_) (fun c621z => ?_)
  ·replace hM := M.e_t hM c621z
   simp only [decide_eq_true_eq, decide_eq_false_iff_not, beq_iff_eq, bne_iff_ne, beq_eq_false_iff_ne, bne_eq_false_iff_eq, ne_eq, Decidable.not_not] at c621z
   refine W.skip ?_
   refine W.seq ?_
   refine W.block ?_
   refine W.drawT (fun W => St w W [cOwn (α := Raw 1) 67 v_l17 rw_l17, cRo B_l17, cOwn (α := Town) 54 v_l11 l11, cOwn (α := Int) 3 v_l10 l10, cOwn (α := Span) 27 v_l2 l2, cOwn (α := Int) 3 v_l l, cBlk b_2 [v_l, v_l2, v_l10, v_l11, I r12, I (r12 + r13), v_l17] 30, cBlk b_1 [.slice none 0 0, .slice none 0 0, .slice none 0 0, .slice none 0 0, I 0, I 0, .slice none 0 0] 30] R) (.q 0 (.q 2 (.l2 1 (.l 3 (.l 4 (.l 5 (.q 6 (.l 7 .nil))))) 3 (.l2 1 (.l 4 (.l 5 (.q 6 (.l 7 .nil)))) 4 (.l 1 (.l 5 (.q 6 (.l 7 .nil)))))))) mixed (by decide +kernel) rfl ?_
   intro w622z hx_
   replace H := H.ext hx_
   clear hx_
   refine ⟨(H.pk [3, 4, 5, 6, 7, 8, 9, 10]), ?_⟩
   refine t_q rfl (fun w' H => x_fa (a := .pointer (some ⟨b_16, 0, none⟩)) (v := .pointer (some ⟨b_16, 1, none⟩)) rfl (fa_blk (o := 0) Fd67_1 Sz23)) ?_
   refine t_q rfl (fun w' H => x_mv (v := .pointer (some ⟨b_s, 0, none⟩)) rfl) ?_
   refine t_l2 rfl rfl ?_ ?_
   ·skip
    refine s_val (x_ld (p := .pointer (some ⟨b_16, 1, none⟩)) (v := v_l14) rfl (ldb_sc Sc23 (H.blk (k := 1) rfl) rfl)) ?_
    have hvc_q633z := Sl.cells (ownSl (H.get (k := 0) rfl))
    have hvo_q633z := Sl.oc (ownSl (H.get (k := 0) rfl))
    refine s_nil ⟨(H.pk [3, 4, 5, 6, 7, 8, 9, 10]), ?_⟩
    refine t_l rfl ?_
    obtain ⟨r635z, hx634z, hM⟩ := M.e_bind hM
    refine s_call cf10 [.pointer (some ⟨b_s, 0, none⟩), I 400] rfl (zab s_bytes s12 s13 400 (hC_s_bytes.app _) hs_s_bytes hx634z _ ((H.pk [2, 0, 1, 3, 4, 5, 6, 7, 8, 9, 10]).gt 10)) ?_
    rintro vq w636z ⟨r16, q115, q215, hr637z, hvq, H2_⟩
    subst hr637z
    subst vq
    try dsimp only at hM
    replace H := H.pk [2, 0, 1, 3, 4, 5, 6, 7, 8, 9, 10] |>.bk H2_
    clear H2_
    refine s_nil ⟨(H.pk [3, 4, 5, 6, 7, 8, 9, 10]), ?_⟩
    refine t_l rfl ?_
    refine t_bs (α := Int) T23 [I r16] [(r16 : Int)] H rfl (.cons rfl (Flat.rep_enc _ (r16 : Int)) <| .nil) rfl rfl rfl ?_
    intro v638z w639z H
    have hvc_q640z := Sl.cells (ownSl (H.get (k := 0) rfl))
    have hvo_q640z := Sl.oc (ownSl (H.get (k := 0) rfl))
    refine s_nil ⟨(H.pk [4, 5, 6, 7, 8, 9, 10, 11]), ?_⟩
    refine t_l rfl ?_
    obtain ⟨sd641z, hM⟩ := M.e_grd hM
    simp only [Bool.and_eq_true, decide_eq_true_eq] at sd641z
    refine t_app (α := Int) (k := 2) (l := l14) (l2 := [(r16 : Int)]) (l' := l14 ++ ([(r16 : Int)])) (vy := v638z) T23 rfl H rfl rfl rfl (ownSl (H.get (k := 0) rfl)) (ownLe _ (H.get (k := 0) rfl)) (rfl) (by first | omega | (simp only [List.length_nil] at *; omega)) ?_
    intro v642z w643z H
    replace H := H.nf
    have hvc_q644z := Sl.cells (ownSl (H.get (k := 2) rfl))
    have hvo_q644z := Sl.oc (ownSl (H.get (k := 2) rfl))
    refine s_nil ⟨(H.pk [4, 5, 6, 7, 8, 9, 10, 11]), ?_⟩
    refine t_q rfl (fun w' H => x_fa (a := .pointer (some ⟨b_16, 0, none⟩)) (v := .pointer (some ⟨b_16, 1, none⟩)) rfl (fa_blk (o := 0) Fd67_1 Sz23)) ?_
    refine t_l rfl ?_
    refine t_sw 3 1 [v642z] v642z H rfl rfl Sz23 (Sl.cells (ownSl (H.get (k := 2) rfl))) rfl rfl (by simp only [List.all_cons, List.all_nil, Bool.true_and, Bool.and_true, Sl.oc (ownSl (H.get (k := 2) rfl))]; try rfl) ?_
    intro w645z H
    refine s_nil ⟨(H.pk [4, 5, 6, 7, 8, 9, 10, 11]), ?_⟩
    refine t_nil ?_
    refine W.region rfl ?_
    refine s_val (x_fa (a := .pointer (some ⟨b_2, 0, none⟩)) (v := .pointer (some ⟨b_2, 0, none⟩)) rfl (fa_blk (o := 0) Fd30_0 Sz23)) ?_
    refine s_val (x_ld (p := .pointer (some ⟨b_2, 0, none⟩)) (v := v_l) rfl (ldb_sc Sc23 (H.blk (k := 10) rfl) rfl)) ?_
    refine s_val (x_mv (v := I s14) rfl) ?_
    obtain ⟨sd646z, hM⟩ := M.e_grd hM
    simp only [Bool.and_eq_true, decide_eq_true_eq] at sd646z
    refine s_val (x_ix (a := v_l) (b := I s14) (v := vat v_l 1 (Int.toNat s14)) rfl rfl (Sl.ix (α := Int) T23.und T23.size (ownSl (H.get (k := 9) rfl)) (by omega) (by omega))) ?_
    refine s_val (x_ld (p := vat v_l 1 (Int.toNat s14)) (v := I (l.getD (Int.toNat s14) 0)) rfl (ld_sc Sc3 (At.mono (Int_at (ownSl (H.get (k := 9) rfl)) (i := s14) (by omega) (by omega)) (ownLe _ (H.get (k := 9) rfl))))) ?_
    refine s_val (x_as (v := I (l.getD (Int.toNat s14) 0)) rfl) ?_
    refine s_nil ?_
    exact ⟨m617z, lt618z, q115, q215, l.getD (Int.toNat s14) 0, l14 ++ ([(r16 : Int)]), v642z, _, upds_of _ _ ⟨rfl, rfl, rfl, rfl, rfl, rfl, trivial⟩, M.e_inl hM hN620z, (H.pk [2, 3, 1, 4, 5, 6, 7, 8, 9, 10, 11])⟩
   skip
   obtain ⟨r648z, hx647z, hM⟩ := M.e_bind hM
   refine s_call cf10 [.pointer (some ⟨b_s, 0, none⟩), I 400] rfl (zab s_bytes s12 s13 400 (hC_s_bytes.app _) hs_s_bytes hx647z _ ((H.pk [2, 0, 1, 3, 4, 5, 6, 7, 8, 9, 10]).gt 10)) ?_
   rintro vq w649z ⟨r16, q115, q215, hr650z, hvq, H2_⟩
   subst hr650z
   subst vq
   try dsimp only at hM
   replace H := H.pk [2, 0, 1, 3, 4, 5, 6, 7, 8, 9, 10] |>.bk H2_
   clear H2_
   have hvc_q651z := Sl.cells (ownSl (H.get (k := 1) rfl))
   have hvo_q651z := Sl.oc (ownSl (H.get (k := 1) rfl))
   refine s_nil ⟨(H.pk [3, 4, 5, 6, 7, 8, 9, 10]), ?_⟩
   obtain ⟨sd654z, hM⟩ := M.e_grd hM
   simp only [Bool.and_eq_true, decide_eq_true_eq] at sd654z
   refine t_l2 rfl rfl ?_ ?_
   ·skip
    refine s_val (x_ld (p := .pointer (some ⟨b_16, 1, none⟩)) (v := v_l14) rfl (ldb_sc Sc23 (H.blk (k := 2) rfl) rfl)) ?_
    refine s_nil ⟨(H.pk [3, 4, 5, 6, 7, 8, 9, 10]), ?_⟩
    refine t_l rfl ?_
    refine t_bs (α := Int) T23 [I r16] [(r16 : Int)] H rfl (.cons rfl (Flat.rep_enc _ (r16 : Int)) <| .nil) rfl rfl rfl ?_
    intro v658z w659z H
    have hvc_q660z := Sl.cells (ownSl (H.get (k := 0) rfl))
    have hvo_q660z := Sl.oc (ownSl (H.get (k := 0) rfl))
    refine s_nil ⟨(H.pk [4, 5, 6, 7, 8, 9, 10, 11]), ?_⟩
    refine t_l rfl ?_
    refine t_app (α := Int) (k := 2) (l := l14) (l2 := [(r16 : Int)]) (l' := l14 ++ ([(r16 : Int)])) (vy := v658z) T23 rfl H rfl rfl rfl (ownSl (H.get (k := 0) rfl)) (ownLe _ (H.get (k := 0) rfl)) (rfl) (by first | omega | (simp only [List.length_nil] at *; omega)) ?_
    intro v661z w662z H
    replace H := H.nf
    have hvc_q663z := Sl.cells (ownSl (H.get (k := 2) rfl))
    have hvo_q663z := Sl.oc (ownSl (H.get (k := 2) rfl))
    refine s_nil ⟨(H.pk [4, 5, 6, 7, 8, 9, 10, 11]), ?_⟩
    refine t_q rfl (fun w' H => x_fa (a := .pointer (some ⟨b_16, 0, none⟩)) (v := .pointer (some ⟨b_16, 1, none⟩)) rfl (fa_blk (o := 0) Fd67_1 Sz23)) ?_
    refine t_l rfl ?_
    refine t_sw 3 1 [v661z] v661z H rfl rfl Sz23 (Sl.cells (ownSl (H.get (k := 2) rfl))) rfl rfl (by simp only [List.all_cons, List.all_nil, Bool.true_and, Bool.and_true, Sl.oc (ownSl (H.get (k := 2) rfl))]; try rfl) ?_
    intro w664z H
    refine s_nil ⟨(H.pk [4, 5, 6, 7, 8, 9, 10, 11]), ?_⟩
    refine t_nil ?_
    refine W.region rfl ?_
    refine s_val (x_fa (a := .pointer (some ⟨b_2, 0, none⟩)) (v := .pointer (some ⟨b_2, 0, none⟩)) rfl (fa_blk (o := 0) Fd30_0 Sz23)) ?_
    refine s_val (x_ld (p := .pointer (some ⟨b_2, 0, none⟩)) (v := v_l) rfl (ldb_sc Sc23 (H.blk (k := 10) rfl) rfl)) ?_
    refine s_val (x_mv (v := I s14) rfl) ?_
    obtain ⟨sd665z, hM⟩ := M.e_grd hM
    simp only [Bool.and_eq_true, decide_eq_true_eq] at sd665z
    refine s_val (x_ix (a := v_l) (b := I s14) (v := vat v_l 1 (Int.toNat s14)) rfl rfl (Sl.ix (α := Int) T23.und T23.size (ownSl (H.get (k := 9) rfl)) (by omega) (by omega))) ?_
    refine s_val (x_ld (p := vat v_l 1 (Int.toNat s14)) (v := I (l.getD (Int.toNat s14) 0)) rfl (ld_sc Sc3 (At.mono (Int_at (ownSl (H.get (k := 9) rfl)) (i := s14) (by omega) (by omega)) (ownLe _ (H.get (k := 9) rfl))))) ?_
    refine s_val (x_as (v := I (l.getD (Int.toNat s14) 0)) rfl) ?_
    refine s_nil ?_
    exact ⟨m617z, lt618z, q115, q215, l.getD (Int.toNat s14) 0, l14 ++ ([(r16 : Int)]), v661z, _, upds_of _ _ ⟨rfl, rfl, rfl, rfl, rfl, rfl, trivial⟩, M.e_inl hM hN620z, (H.pk [2, 3, 1, 4, 5, 6, 7, 8, 9, 10, 11])⟩
   skip
   refine t_bs (α := Int) T23 [I r16] [(r16 : Int)] H rfl (.cons rfl (Flat.rep_enc _ (r16 : Int)) <| .nil) rfl rfl rfl ?_
   intro v666z w667z H
   have hvc_q668z := Sl.cells (ownSl (H.get (k := 0) rfl))
   have hvo_q668z := Sl.oc (ownSl (H.get (k := 0) rfl))
   refine s_nil ⟨(H.pk [4, 5, 6, 7, 8, 9, 10, 11]), ?_⟩
   refine t_l rfl ?_
   refine s_val (x_ld (p := .pointer (some ⟨b_16, 1, none⟩)) (v := v_l14) rfl (ldb_sc Sc23 (H.blk (k := 3) rfl) rfl)) ?_
   refine s_nil ⟨(H.pk [4, 5, 6, 7, 8, 9, 10, 11]), ?_⟩
   refine t_l rfl ?_
   refine t_app (α := Int) (k := 2) (l := l14) (l2 := [(r16 : Int)]) (l' := l14 ++ ([(r16 : Int)])) (vy := v666z) T23 rfl H rfl rfl rfl (ownSl (H.get (k := 0) rfl)) (ownLe _ (H.get (k := 0) rfl)) (rfl) (by first | omega | (simp only [List.length_nil] at *; omega)) ?_
   intro v669z w670z H
   replace H := H.nf
   have hvc_q671z := Sl.cells (ownSl (H.get (k := 2) rfl))
   have hvo_q671z := Sl.oc (ownSl (H.get (k := 2) rfl))
   refine s_nil ⟨(H.pk [4, 5, 6, 7, 8, 9, 10, 11]), ?_⟩
   refine t_q rfl (fun w' H => x_fa (a := .pointer (some ⟨b_16, 0, none⟩)) (v := .pointer (some ⟨b_16, 1, none⟩)) rfl (fa_blk (o := 0) Fd67_1 Sz23)) ?_
   refine t_l rfl ?_
   refine t_sw 3 1 [v669z] v669z H rfl rfl Sz23 (Sl.cells (ownSl (H.get (k := 2) rfl))) rfl rfl (by simp only [List.all_cons, List.all_nil, Bool.true_and, Bool.and_true, Sl.oc (ownSl (H.get (k := 2) rfl))]; try rfl) ?_
   intro w672z H
   refine s_nil ⟨(H.pk [4, 5, 6, 7, 8, 9, 10, 11]), ?_⟩
   refine t_nil ?_
   refine W.region rfl ?_
   refine s_val (x_fa (a := .pointer (some ⟨b_2, 0, none⟩)) (v := .pointer (some ⟨b_2, 0, none⟩)) rfl (fa_blk (o := 0) Fd30_0 Sz23)) ?_
   refine s_val (x_ld (p := .pointer (some ⟨b_2, 0, none⟩)) (v := v_l) rfl (ldb_sc Sc23 (H.blk (k := 10) rfl) rfl)) ?_
   refine s_val (x_mv (v := I s14) rfl) ?_
   obtain ⟨sd673z, hM⟩ := M.e_grd hM
   simp only [Bool.and_eq_true, decide_eq_true_eq] at sd673z
   refine s_val (x_ix (a := v_l) (b := I s14) (v := vat v_l 1 (Int.toNat s14)) rfl rfl (Sl.ix (α := Int) T23.und T23.size (ownSl (H.get (k := 9) rfl)) (by omega) (by omega))) ?_
   refine s_val (x_ld (p := vat v_l 1 (Int.toNat s14)) (v := I (l.getD (Int.toNat s14) 0)) rfl (ld_sc Sc3 (At.mono (Int_at (ownSl (H.get (k := 9) rfl)) (i := s14) (by omega) (by omega)) (ownLe _ (H.get (k := 9) rfl))))) ?_
   refine s_val (x_as (v := I (l.getD (Int.toNat s14) 0)) rfl) ?_
   refine s_nil ?_
   exact ⟨m617z, lt618z, q115, q215, l.getD (Int.toNat s14) 0, l14 ++ ([(r16 : Int)]), v669z, _, upds_of _ _ ⟨rfl, rfl, rfl, rfl, rfl, rfl, trivial⟩, M.e_inl hM hN620z, (H.pk [2, 3, 1, 4, 5, 6, 7, 8, 9, 10, 11])⟩
  replace hM := M.e_f hM c621z
  simp only [decide_eq_true_eq, decide_eq_false_iff_not, beq_iff_eq, bne_iff_ne, beq_eq_false_iff_ne, bne_eq_false_iff_eq, ne_eq, Decidable.not_not] at c621z
  refine W.exit ?_
  have hX674z := M.e_inr hM hN620z
  subst hX674z
  replace hM := hk613z
  try dsimp only at hM
  refine W.region rfl ?_
  refine s_val (x_fa (a := .pointer (some ⟨b_2, 0, none⟩)) (v := .pointer (some ⟨b_2, 6, none⟩)) rfl (fa_blk (o := 0) Fd30_5 Sz28)) ?_
  refine s_val (x_ld (p := .pointer (some ⟨b_2, 6, none⟩)) (v := v_l17) rfl (ldb_sc Sc28 (H.blk (k := 9) rfl) rfl)) ?_
  refine s_val (x_ld (p := .pointer (some ⟨b_16, 0, none⟩)) (v := .agg #[I (l10.getD (Int.toNat r15) 0), v_l14]) rfl (ldb_ag (ds := [I (l10.getD (Int.toNat r15) 0), v_l14]) Ag67 Sz67 (H.blk (k := 1) rfl) rfl rfl)) ?_
  obtain ⟨Bs_20, H⟩ := H.emptyE
  obtain ⟨Bs_21, H, hs676z⟩ := H.freezeE (k := 1) rfl
  replace H := H.nf
  have hq675z := hs676z
  obtain ⟨Bs_22, H, le677z, le678z⟩ := H.joinE (i := 0) (j := 1) rfl rfl
  replace hq675z := hq675z.mono le678z
  obtain ⟨rw679z, hrw_rw679z⟩ : ∃ r : Raw 1, r.cs = [I (l10.getD (Int.toNat r15) 0), v_l14] := ⟨Raw.of [I (l10.getD (Int.toNat r15) 0), v_l14] rfl (by simp only [List.all_cons, List.all_nil, Bool.true_and, Bool.and_true, Sl.oc hq675z]; try rfl), rfl⟩
  have hr680z : RepR (α := Flood) Bs_22.cells [rw679z] [(⟨(l10.getD (Int.toNat r15) 0 : Int), l14⟩ : Flood)] := .cons (by rw [hrw_rw679z]; exact ⟨_, rfl, hq675z⟩) <| .nil
  refine t_bs (α := Raw 1) T28 [.agg #[I (l10.getD (Int.toNat r15) 0), v_l14]] [rw679z] H rfl (.cons (by rw [show (Flat.enc rw679z : List Value) = rw679z.cs from rfl, hrw_rw679z]; rfl) (Flat.rep_enc _ _) <| .nil) rfl rfl rfl ?_
  intro v681z w682z H
  replace H := H.nf
  obtain ⟨sd683z, hM⟩ := M.e_grd hM
  simp only [Bool.and_eq_true, decide_eq_true_eq] at sd683z
  have hr684z := hr680z
  obtain ⟨Bs_26, H, le685z, le686z⟩ := H.joinE (i := 7) (j := 1) rfl rfl
  replace hr_l17 := hr_l17.mono le685z
  replace hr684z := hr684z.mono le686z
  have hr689z := hr_l17.app hr684z
  refine t_app (α := Raw 1) (k := 7) (l := rw_l17) (l2 := [rw679z]) (l' := rw_l17 ++ ([rw679z])) (vy := v681z) T28 rfl H rfl rfl rfl (ownSl (H.get (k := 1) rfl)) (ownLe _ (H.get (k := 1) rfl)) (rfl) (by have a_ := hr_l17.len; have b_ := hr684z.len; (try simp only [List.length_nil] at *); first | omega | (rw [a_, b_]; omega)) ?_
  intro v687z w688z H
  replace H := H.nf
  refine s_val (x_fa (a := .pointer (some ⟨b_2, 0, none⟩)) (v := .pointer (some ⟨b_2, 6, none⟩)) rfl (fa_blk (o := 0) Fd30_5 Sz28)) ?_
  refine t_sw 13 6 [v687z] v687z H rfl rfl Sz28 (Sl.cells (rowSl rfl (H.get (k := 7) rfl) (roLe _ (H.get (k := 0) rfl)) hr689z)) rfl rfl (by simp only [List.all_cons, List.all_nil, Bool.true_and, Bool.and_true, Sl.oc (rowSl rfl (H.get (k := 7) rfl) (roLe _ (H.get (k := 0) rfl)) hr689z)]; try rfl) ?_
  intro w690z H
  refine s_nil ?_
  replace H := H.pk [0, 6, 7, 8, 9, 10, 11, 12, 13, 14]
  refine W.region rfl ?_
  refine s_val (x_mv (v := I k2) rfl) ?_
  obtain ⟨sd691z, hM⟩ := M.e_grd hM
  simp only [Bool.and_eq_true, decide_eq_true_eq] at sd691z
  refine s_val (x_ari (a := k2) (b := 1) (r := k2 - 1) rfl rfl rfl (by omega)) ?_
  refine s_val (x_as (v := I (k2 - 1)) rfl) ?_
  refine s_nil ?_
  exact ⟨m577z, lt578z, s12, s13, k2 - 1, l17 ++ ([(⟨(l10.getD (Int.toNat r15) 0 : Int), l14⟩ : Flood)]), v687z, rw_l17 ++ ([rw679z]), Bs_26, _, upds_of _ _ ⟨rfl, rfl, rfl, rfl, trivial⟩, M.e_inl hM hN580z, (H.pk [2, 0, 1, 4, 5, 6, 7, 8, 9]), hr689z⟩
 replace hM := M.e_f hM c581z
 simp only [decide_eq_true_eq, decide_eq_false_iff_not, beq_iff_eq, bne_iff_ne, beq_eq_false_iff_ne, bne_eq_false_iff_eq, ne_eq, Decidable.not_not] at c581z
 refine W.exit ?_
 have hX692z := M.e_inr hM hN580z
 subst hX692z
 replace hM := hk573z
 try dsimp only at hM
 refine W.seq ?_
 refine W.region rfl ?_
 refine s_val (x_ld (p := .pointer (some ⟨b_2, 0, none⟩)) (v := .agg #[v_l, v_l2, v_l10, v_l11, I r12, I (r12 + r13), v_l17]) rfl (ldb_ag (ds := [v_l, v_l2, v_l10, v_l11, I r12, I (r12 + r13), v_l17]) Ag30 Sz30 (H.blk (k := 7) rfl) rfl rfl)) ?_
 refine t_sw 8 0 [v_l, v_l2, v_l10, v_l11, I r12, I (r12 + r13), v_l17] (.agg #[v_l, v_l2, v_l10, v_l11, I r12, I (r12 + r13), v_l17]) H rfl rfl Sz30 rfl rfl rfl (by simp only [List.all_cons, List.all_nil, Bool.true_and, Bool.and_true, Sl.oc (ownSl (H.get (k := 6) rfl)), Sl.oc (ownSl (H.get (k := 5) rfl)), Sl.oc (ownSl (H.get (k := 4) rfl)), Sl.oc (ownSl (H.get (k := 3) rfl)), Sl.oc (rowSl rfl (H.get (k := 0) rfl) (roLe _ (H.get (k := 1) rfl)) hr_l17)]; try rfl) ?_
 intro w693z H
 refine s_nil ?_
 refine W.ret ?_
 have hb694z := (H.blk (k := 8) rfl)
 have hr_ := M.e_pure hM
 exact ⟨_, (resE_of1 (v := .agg #[v_l, v_l2, v_l10, v_l11, I r12, I (r12 + r13), v_l17]) rfl (.cell (v := .agg #[v_l, v_l2, v_l10, v_l11, I r12, I (r12 + r13), v_l17]) rfl (run_loadVar_ag (ds := [v_l, v_l2, v_l10, v_l11, I r12, I (r12 + r13), v_l17]) Ag30 Sz30 hb694z rfl rfl) <| .nil)), ⟨l, l2, l10, l11, r12, (r12 + r13), l17, s17, s18, v_l, v_l2, v_l10, v_l11, v_l17, rw_l17, B_l17, hr_, rfl, (H.pk [6, 5, 4, 3, 0, 1, 2]), hr_l17⟩⟩

end Go.Proofs.Ytbaehghammbjdaa
end
namespace Go.Proofs.Ytbaehghammbjdaa
open Go Go.Nm
end Go.Proofs.Ytbaehghammbjdaa
namespace Go.Nm
namespace Wn
/-- What is made so far of the first stations. -/
structure Mk (n i : Nat) (l : List Int) (l2 : List Span) (l3 : List Int) : Prop where
  z1 : l.length = i
  z2 : l2.length = i
  nx : ∀ j, j < i -> l.getD j 0 = -1 ∨ ((j : Int) + 1 <= l.getD j 0 /\ l.getD j 0 < n)
  hr : ∀ j, j < i -> 0 <= (l2.getD j default).lo /\ (l2.getD j default).lo <= (l2.getD j default).hi /\ (l2.getD j default).hi <= 1000
  s8 : l3.length <= 8
  sr : l3.Pairwise (· < ·)
  si : ∀ x ∈ l3, 0 <= x /\ x < (i : Int)
theorem getD_app {α : Type} {l : List α} {x d : α} {j : Nat} (h : j < l.length) : (l ++ [x]).getD j d = l.getD j d := by
  simp [List.getD, List.getElem?_append_left h]
theorem getD_appE {α : Type} {l : List α} {x d : α} {j : Nat} (h : l.length = j) : (l ++ [x]).getD j d = x := by
  subst h
  simp [List.getD]
theorem Mk.step {n i : Nat} {l : List Int} {l2 : List Span} {l3 l3' : List Int} {d : Int} {s : Span} (h : Mk n i l l2 l3) (hd : d = -1 ∨ ((i : Int) + 1 <= d /\ d < n)) (hs : 0 <= s.lo /\ s.lo <= s.hi /\ s.hi <= 1000)
    (h3 : l3' = l3 ∨ (l3' = l3 ++ [(i : Int)] /\ l3.length < 8)) : Mk n (i + 1) (l ++ [d]) (l2 ++ [s]) l3' := by
  refine ⟨by simp [h.z1], by simp [h.z2], fun j hj => ?_, fun j hj => ?_, ?_, ?_, fun x hx => ?_⟩
  · rcases Nat.lt_or_eq_of_le (Nat.le_of_lt_succ hj) with e | e
    · rw [getD_app (by rw [h.z1]; exact e)]
      exact h.nx j e
    · subst e
      rw [getD_appE h.z1]
      exact hd
  · rcases Nat.lt_or_eq_of_le (Nat.le_of_lt_succ hj) with e | e
    · rw [getD_app (by rw [h.z2]; exact e)]
      exact h.hr j e
    · subst e
      rw [getD_appE h.z2]
      exact hs
  · rcases h3 with rfl | ⟨rfl, h3⟩
    · exact h.s8
    · simp; omega
  · rcases h3 with rfl | ⟨rfl, h3⟩
    · exact h.sr
    · rw [List.pairwise_append]
      exact ⟨h.sr, List.pairwise_singleton _ _, fun a ha b hb => by
        rw [List.mem_singleton] at hb
        subst hb
        exact (h.si a ha).2⟩
  · rcases h3 with rfl | ⟨rfl, h3⟩
    · have := h.si x hx
      omega
    · rcases List.mem_append.1 hx with hx | hx
      · have := h.si x hx
        omega
      · rw [List.mem_singleton] at hx
        omega
end Wn
end Go.Nm
namespace Go.Proofs.Ytbaehghammbjdaa
open Go Go.Nm
theorem made_j5 {b : List UInt8} {n i : Nat} {l : List Int} {l2 : List Span} {l3 : List Int} {c u x d : Int} (h : Wn.Mk n i l l2 l3) (hi : i < n) (hn : n <= 12) (hS : SOk c u x) (hc : c <= 100000) (hd : d = -1 ∨ ((i : Int) + 1 <= d /\ d < n)) :
    (zan b i l l2 l3 u x d).Out (fun r => match r with | .inl (u', x', i', a1, a2, a3) => i' = i + 1 /\ SOk (c + 3) u' x' /\ Wn.Mk n (i + 1) a1 a2 a3 | .inr _ => False) := by
  have e1 := h.z1
  have e2 := h.z2
  have e8 := h.s8
  unfold zan
  refine M.o_bind (next_out hS (by omega) (by omega)) ?_
  rintro ⟨r5, u5, x5⟩ ⟨k5, g5, _⟩
  have g5 := g5 (by omega)
  dsimp only at k5 g5 ⊢
  refine M.o_grdD (by simp; omega) (M.o_bind (next_out k5 (by omega) (by omega)) ?_)
  rintro ⟨r6, u6, x6⟩ ⟨k6, g6, _⟩
  have g6 := g6 (by omega)
  dsimp only at k6 g6 ⊢
  refine M.o_grd (gA2 (by omega) (by omega)) (M.o_grdD (by simp; omega) ?_)
  unfold zbj
  have hs : 0 <= (⟨r5, r5 + r6⟩ : Span).lo /\ (⟨r5, r5 + r6⟩ : Span).lo <= (⟨r5, r5 + r6⟩ : Span).hi /\ (⟨r5, r5 + r6⟩ : Span).hi <= 1000 := by dsimp only; omega
  refine M.o_if (fun hb => ?_) (fun hb => ?_)
  · have hb' := of_decide_eq_true hb
    refine M.o_bind (next_out k6 (by omega) (by omega)) ?_
    rintro ⟨r7, u7, x7⟩ ⟨k7, g7, _⟩
    dsimp only at k7 g7 ⊢
    refine M.o_if (fun hq => ?_) (fun hq => ?_)
    · exact M.o_grdD (by simp; omega) (M.o_grd (gA2 (by omega) (by omega)) (M.o_pure ⟨rfl, k7.mono (by omega), h.step hd hs (.inr ⟨rfl, by omega⟩)⟩))
    · exact M.o_grd (gA2 (by omega) (by omega)) (M.o_pure ⟨rfl, k7.mono (by omega), h.step hd hs (.inl rfl)⟩)
  · exact M.o_grd (gA2 (by omega) (by omega)) (M.o_pure ⟨rfl, k6.mono (by omega), h.step hd hs (.inl rfl)⟩)
theorem made_stations {b : List UInt8} {n : Nat} {c u x : Int} (h1 : 1 <= n) (hn : n <= 12) (hS : SOk c u x) (hc : c <= 1000) :
    (M.iter (zaC b (n : Int)) (u, x, 0, [], [], [])).Out (fun r => SOk (c + 100) r.1 r.2.1 /\ ∃ l l2 l3, r.2.2 = (l, l2, l3, l3, l2, l) /\ Wn.Mk n n l l2 l3) := by
  refine M.o_for n (fun i (s : Int × Int × Nat × List Int × List Span × List Int) => s.2.2.1 = i /\ SOk (c + 6 * i) s.1 s.2.1 /\ Wn.Mk n i s.2.2.2.1 s.2.2.2.2.1 s.2.2.2.2.2) ?_ ?_ ⟨rfl, hS.mono (by omega), rfl, rfl, fun j hj => by omega, fun j hj => by omega, by simp, List.Pairwise.nil, fun x hx => by cases hx⟩
  · rintro i ⟨u, x, q, l, l2, l3⟩ hi ⟨e1, hS, hM⟩
    dsimp only at e1 hS hM
    subst e1
    simp only [zaC]
    have fin : ∀ {c' u' x' d : Int}, SOk c' u' x' -> c' + 3 <= c + 6 * ((q + 1 : Nat) : Int) -> (d = -1 ∨ ((q : Int) + 1 <= d /\ d < n)) →
        ∀ {Q : ((Int × Int × Nat × List Int × List Span × List Int) ⊕ (Int × Int × List Int × List Span × List Int × List Int × List Span × List Int)) -> Prop}, (∀ s', s'.2.2.1 = q + 1 /\ SOk (c + 6 * ((q + 1 : Nat) : Int)) s'.1 s'.2.1 /\ Wn.Mk n (q + 1) s'.2.2.2.1 s'.2.2.2.2.1 s'.2.2.2.2.2 -> Q (.inl s')) →
        (zan b q l l2 l3 u' x' d).Out Q := by
      intro c' u' x' d k1 k2 k3 Q kQ
      refine M.o_mono (made_j5 (b := b) hM hi hn k1 (by omega) k3) ?_
      rintro (⟨u2, x2, i2, a1, a2, a3⟩ | r) hr
      · exact kQ _ ⟨hr.1, hr.2.1.mono k2, hr.2.2⟩
      · exact hr.elim
    refine M.o_t (decide_eq_true (by omega)) (M.o_grd (gA2 (by omega) (by omega)) (M.o_if (fun hb => ?_) (fun hb => fin hS (by omega) (.inl rfl) fun s' h => h)))
    have hb' := of_decide_eq_true hb
    refine M.o_bind (next_out hS (by omega) (by omega)) ?_
    rintro ⟨r, u7, x7⟩ ⟨k7, g7, _⟩
    dsimp only at k7 g7 ⊢
    refine M.o_if (fun hq => ?_) (fun hq => fin k7 (by omega) (.inl rfl) fun s' h => h)
    refine M.o_grd (gA2 (by omega) (by omega)) (M.o_grd (gA2 (by omega) (by omega)) (M.o_bind (within_out k7 (by omega) (by omega) (by omega) (by omega)) ?_))
    rintro ⟨r4, u8, x8⟩ ⟨k8, g8, g9⟩
    dsimp only at k8 g8 g9 ⊢
    have g10 := Int.le_trans g9 (Int.min_le_left ((n : Int) - 1) ((q : Int) + 3))
    exact fin k8 (by omega) (.inr ⟨g8, by omega⟩) fun s' h => h
  · rintro ⟨u, x, q, l, l2, l3⟩ ⟨e1, hS, hM⟩
    dsimp only at e1 hS hM
    subst e1
    simp only [zaC]
    exact M.o_f (decide_eq_false (by omega)) (M.o_pure ⟨hS.mono (by omega), l, l2, l3, rfl, hM⟩)
def TwOk (n : Nat) (tw : List Town) : Prop := ∀ t ∈ tw, (0 <= t.station /\ t.station < n) /\ (0 <= t.lead /\ t.lead <= 1000) /\ 0 <= t.alarm /\ t.alarm <= 2000
theorem made_towns {b : List UInt8} {n : Nat} {c u x k : Int} (h1 : 1 <= n) (hn : n <= 12) (hS : SOk c u x) (hc : c <= 10000) (hk : 0 <= k /\ k < 8) :
    (M.iter (za8 b (n : Int)) (u, x, k, [])).Out (fun r => SOk (c + 100) r.1 r.2.1 /\ r.2.2.2.length <= 8 /\ TwOk n r.2.2.2) := by
  refine M.o_iter (fun m (s : Int × Int × Int × List Town) => s.2.2.1 = (m : Int) /\ m <= 8 /\ SOk (c + 4 * (8 - (m : Int))) s.1 s.2.1 /\ s.2.2.2.length + m <= 8 /\ TwOk n s.2.2.2) ?_ (Int.toNat k) _ ⟨by dsimp only; omega, by omega, hS.mono (by omega), by simp; omega, fun t ht => by cases ht⟩
  rintro m ⟨u, x, k, l⟩ ⟨e1, hm, hS, hl, hT⟩
  dsimp only at e1 hS hl hT
  subst e1
  simp only [za8]
  refine M.o_if (fun hb => ?_) (fun hb => M.o_pure ⟨hS.mono (by omega), by dsimp only; omega, hT⟩)
  have hb := of_decide_eq_true hb
  refine M.o_bind (next_out hS (by omega) (by omega)) ?_
  rintro ⟨r1, u1, x1⟩ ⟨k1, g1, _⟩
  have g1 := g1 (by omega)
  dsimp only at k1 g1 ⊢
  refine M.o_bind (next_out k1 (by omega) (by omega)) ?_
  rintro ⟨r2, u2, x2⟩ ⟨k2, g2, _⟩
  have g2 := g2 (by omega)
  dsimp only at k2 g2 ⊢
  refine M.o_bind (within_out k2 (by omega) (by omega) (by omega) (by omega)) ?_
  rintro ⟨r3, u3, x3⟩ ⟨k3, g3, g4⟩
  dsimp only at k3 g3 g4 ⊢
  refine M.o_grdD (by simp; omega) (M.o_grd (gA2 (by omega) (by omega)) (M.o_pure ⟨m - 1, by omega, by dsimp only; omega, by omega, k3.mono (by omega), by simp; omega, fun t ht => ?_⟩))
  rcases List.mem_append.1 ht with ht | ht
  · exact hT t ht
  · rw [List.mem_singleton] at ht
    subst ht
    dsimp only
    omega
def FlOk (dn sp : List Int) (fl : List Flood) : Prop := ∀ f ∈ fl, f.spring ∈ sp /\ f.stages.length = (Wn.P dn f.spring).length /\ ∀ x ∈ f.stages, 0 <= x /\ x <= 2000
theorem made_stages {b : List UInt8} {dn : List Int} {c u x s : Int} (hd : Wn.Dn dn) (hn : dn.length <= 12) (hs : 0 <= s /\ s < dn.length) (hS : SOk c u x) (hc : c <= 100000) :
    (M.iter (zaN b dn) (u, x, s, [])).Out (fun r => SOk (c + 12) r.1 r.2.1 /\ r.2.2.2.length = (Wn.P dn s).length /\ ∀ x ∈ r.2.2.2, 0 <= x /\ x <= 2000) := by
  have hst : Wn.Stn dn s := .inr hs
  have hsh := Wn.P_short hd hst
  refine M.o_for (Wn.P dn s).length (fun i (t : Int × Int × Int × List Int) => (Wn.P dn t.2.2.1 = (Wn.P dn s).drop i /\ Wn.Stn dn t.2.2.1) /\ SOk (c + i) t.1 t.2.1 /\ t.2.2.2.length = i /\ ∀ x ∈ t.2.2.2, 0 <= x /\ x <= 2000) ?_ ?_ ⟨⟨by rw [List.drop_zero], hst⟩, hS.mono (by omega), rfl, fun x hx => by cases hx⟩
  · rintro i ⟨u, x, q, l⟩ hi ⟨⟨e2, e3⟩, hS, hl, hx⟩
    dsimp only at e2 e3 hS hl hx
    subst hl
    simp only [zaN]
    have hdr : (Wn.P dn s).drop l.length = (Wn.P dn s)[l.length] :: (Wn.P dn s).drop (l.length + 1) := List.drop_eq_getElem_cons hi
    have hq : 0 <= q /\ q < dn.length := by
      rcases e3 with rfl | e3
      · rw [Wn.P_none, hdr] at e2
        cases e2
      · exact e3
    rw [Wn.P_cons hd hq.1 hq.2, hdr] at e2
    obtain ⟨_, g2⟩ := List.cons.inj e2
    refine M.o_t (by simp; omega) (M.o_bind (next_out hS (by omega) (by omega)) ?_)
    rintro ⟨r, u1, x1⟩ ⟨k1, g1, _⟩
    have g1 := g1 (by omega)
    dsimp only at k1 g1 ⊢
    refine M.o_grdD (by simp; omega) (M.o_grd (gA2 (by omega) (by omega)) (M.o_pure ⟨⟨g2, hd.next_st hq.1 hq.2⟩, k1.mono (by omega), by simp, fun y hy => ?_⟩))
    rcases List.mem_append.1 hy with hy | hy
    · exact hx y hy
    · rw [List.mem_singleton] at hy
      omega
  · rintro ⟨u, x, q, l⟩ ⟨⟨e2, e3⟩, hS, hl, hx⟩
    dsimp only at e2 e3 hS hl hx
    simp only [zaN]
    rw [List.drop_length] at e2
    have hq : q = -1 := by
      rcases e3 with e3 | e3
      · exact e3
      · rw [Wn.P_cons hd e3.1 e3.2] at e2
        cases e2
    subst hq
    exact M.o_f rfl (M.o_pure ⟨hS.mono (by omega), hl, hx⟩)
theorem made_floods {b : List UInt8} {dn sp : List Int} {c u x k : Int} (hd : Wn.Dn dn) (hn : dn.length <= 12) (h1 : 1 <= sp.length) (h8 : sp.length <= 8) (hsp : ∀ x ∈ sp, 0 <= x /\ x < dn.length) (hS : SOk c u x) (hc : c <= 10000) (hk : 0 <= k /\ k < 10) :
    (M.iter (za0 b dn sp) (u, x, k, [])).Out (fun r => SOk (c + 1000) r.2.2.1 r.2.2.2 /\ r.2.1.length <= 20 /\ FlOk dn sp r.2.1) := by
  refine M.o_iter (fun m (s : Int × Int × Int × List Flood) => s.2.2.1 = (m : Int) /\ m <= 10 /\ SOk (c + 20 * (10 - (m : Int))) s.1 s.2.1 /\ s.2.2.2.length + m <= 10 /\ FlOk dn sp s.2.2.2) ?_ (Int.toNat k) _ ⟨by dsimp only; omega, by omega, hS.mono (by omega), by simp; omega, fun t ht => by cases ht⟩
  rintro m ⟨u, x, k, l⟩ ⟨e1, hm, hS, hl, hF⟩
  dsimp only at e1 hS hl hF
  subst e1
  simp only [za0]
  refine M.o_if (fun hb => ?_) (fun hb => M.o_pure ⟨hS.mono (by omega), by dsimp only; omega, hF⟩)
  have hb := of_decide_eq_true hb
  refine M.o_bind (next_out hS (by omega) (by omega)) ?_
  rintro ⟨r, u1, x1⟩ ⟨k1, g1, _⟩
  have g1 := g1 (by omega)
  dsimp only at k1 g1 ⊢
  refine M.o_grd (gA2 (by omega) (by omega)) ?_
  unfold zbi
  have hm' : sp.getD (Int.toNat r) 0 ∈ sp := by
    have hi : Int.toNat r < sp.length := by omega
    rw [List.getD_eq_getElem?_getD, List.getElem?_eq_getElem hi, Option.getD_some]
    exact List.getElem_mem hi
  refine M.o_bind (made_stages hd hn (hsp _ hm') k1 (by omega)) ?_
  rintro ⟨u2, x2, q2, l2⟩ ⟨k2, g2, g3⟩
  dsimp only at k2 g2 g3 ⊢
  refine M.o_grdD (by simp; omega) (M.o_grd (gA2 (by omega) (by omega)) (M.o_pure ⟨m - 1, by omega, by dsimp only; omega, by omega, k2.mono (by omega), by simp; omega, fun f hf => ?_⟩))
  rcases List.mem_append.1 hf with hf | hf
  · exact hF f hf
  · rw [List.mem_singleton] at hf
    subst hf
    exact ⟨hm', g2, g3⟩
end Go.Proofs.Ytbaehghammbjdaa
namespace Go.Proofs.Ytbaehghammbjdaa
open Go Go.Nm
theorem made_j16 {b : List UInt8} {n : Nat} {l : List Int} {l2 : List Span} {sp : List Int} {c u x : Int} (h1 : 1 <= n) (hn : n <= 12) (hl : l.length = n) (hl2 : l2.length = n) (hd : Wn.Dn l) (ht : ∀ i, i < n -> 0 <= (l2.getD i default).lo /\ (l2.getD i default).lo <= (l2.getD i default).hi /\ (l2.getD i default).hi <= 1000)
    (s1 : 1 <= sp.length) (s8 : sp.length <= 8) (sr : sp.Pairwise (· < ·)) (si : ∀ x ∈ sp, 0 <= x /\ x < (n : Int)) (hS : SOk c u x) (hc : c <= 1000) :
    (zaI b (n : Int) u x l2 l sp).Out (fun y => Wn.Rv y.1 y.2.1 y.2.2.1 y.2.2.2.1 y.2.2.2.2.1 y.2.2.2.2.2.1 y.2.2.2.2.2.2.1 /\ (y.2.2.2.2.1 <= 2 /\ y.2.2.2.2.2.1 <= 4) /\ SOk (c + 5000) y.2.2.2.2.2.2.2.1 y.2.2.2.2.2.2.2.2) := by
  unfold zaI
  refine M.o_bind (next_out hS (by omega) (by omega)) ?_
  rintro ⟨r1, u1, x1⟩ ⟨k1, g1, _⟩
  have g1 := g1 (by omega)
  dsimp only at k1 g1 ⊢
  refine M.o_bind (made_towns h1 hn k1 (by omega) g1) ?_
  rintro ⟨u2, x2, a1, tw⟩ ⟨k2, t8, tok⟩
  dsimp only at k2 t8 tok ⊢
  refine M.o_bind (next_out k2 (by omega) (by omega)) ?_
  rintro ⟨r3, u3, x3⟩ ⟨k3, g3, _⟩
  have g3 := g3 (by omega)
  dsimp only at k3 g3 ⊢
  refine M.o_bind (next_out k3 (by omega) (by omega)) ?_
  rintro ⟨r4, u4, x4⟩ ⟨k4, g4, _⟩
  have g4 := g4 (by omega)
  dsimp only at k4 g4 ⊢
  refine M.o_grd (gA2 (by omega) (by omega)) ?_
  unfold zbe
  refine M.o_bind (next_out k4 (by omega) (by omega)) ?_
  rintro ⟨r5, u5, x5⟩ ⟨k5, g5, _⟩
  have g5 := g5 (by omega)
  dsimp only at k5 g5 ⊢
  refine M.o_bind (made_floods hd (by omega) s1 s8 (by rw [hl]; exact si) k5 (by omega) g5) ?_
  rintro ⟨a2, fl, u6, x6⟩ ⟨k6, f20, fok⟩
  dsimp only at k6 f20 fok ⊢
  exact M.o_pure ⟨⟨by rw [hl]; exact h1, by rw [hl]; exact hn, hd, by rw [hl, hl2], fun i hi => ht i (by dsimp only at hi; omega), s1, s8, sr, by rw [hl]; exact si, t8, by rw [hl]; exact tok, g3.1, by dsimp only; omega, by dsimp only; omega, f20, fok⟩, ⟨by dsimp only; omega, by dsimp only; omega⟩, k6.mono (by omega)⟩
theorem made_out {b : List UInt8} {u x : Int} (hS : SOk 0 u x) : (zbf b u x 12).Out (fun y => Wn.Rv y.1 y.2.1 y.2.2.1 y.2.2.2.1 y.2.2.2.2.1 y.2.2.2.2.2.1 y.2.2.2.2.2.2.1 /\ (y.2.2.2.2.1 <= 2 /\ y.2.2.2.2.2.1 <= 4) /\ SOk 10000 y.2.2.2.2.2.2.2.1 y.2.2.2.2.2.2.2.2) := by
  unfold zbf
  refine M.o_bind (within_out hS (by omega) (by omega) (by omega) (by omega)) ?_
  rintro ⟨r, u1, x1⟩ ⟨k1, g1, g2⟩
  dsimp only at k1 g1 g2 ⊢
  obtain ⟨n, rfl⟩ := Int.eq_ofNat_of_zero_le (show 0 <= r by omega)
  refine M.o_bind (made_stations (by omega) (by omega) k1 (by omega)) ?_
  rintro ⟨u2, x2, z⟩ ⟨k2, l, l2, l3, e, hM⟩
  dsimp only at k2 e ⊢
  subst e
  dsimp only
  have hd : Wn.Dn l := fun i hi => by
    have := hM.nx i (by have := hM.z1; omega)
    have := hM.z1
    omega
  refine M.o_if (fun hb => ?_) (fun hb => ?_)
  · refine M.o_mono (made_j16 (b := b) (by omega) (by omega) hM.z1 hM.z2 hd (fun i hi => hM.hr i hi) (by simp) (by simp) (List.pairwise_singleton _ _) (fun x hx => ?_) k2 (by omega)) fun y hy => ⟨hy.1, hy.2.1, hy.2.2.mono (by omega)⟩
    rw [List.mem_singleton] at hx
    omega
  · have hb : l3.length ≠ 0 := by
      have := beq_eq_false_iff_ne.1 hb
      omega
    refine M.o_mono (made_j16 (b := b) (by omega) (by omega) hM.z1 hM.z2 hd (fun i hi => hM.hr i hi) (by omega) hM.s8 hM.sr hM.si k2 (by omega)) fun y hy => ⟨hy.1, hy.2.1, hy.2.2.mono (by omega)⟩
theorem same_int (l : List Int) : (zaf l l).Ends true := by
  unfold zaf
  refine M.i_f (by simp) (M.i_bind (a := (.inr () : Unit ⊕ Unit)) ?_ M.i_pure)
  refine M.i_for (fun i => i) l.length (fun i hi => ?_) ?_
  · simp only [za7]
    exact M.i_t (decide_eq_true (by omega)) (M.i_grd (decide_eq_true (by omega)) (M.i_grd (decide_eq_true (by omega)) (M.i_f (by simp) M.i_pure)))
  · simp only [za7]
    exact M.i_f (by simp) M.i_pure
end Go.Proofs.Ytbaehghammbjdaa
section
set_option maxRecDepth 100000
set_option maxHeartbeats 16000000
namespace Go.Proofs.Ytbaehghammbjdaa
open Go Go.Nm
def zaq : (List Int) -> (Int × Int) -> M ((List Int) ⊕ Unit) := fun l (x, x2) =>
  M.grd (decide ((l.length + ([(x2 : Int)]).length) * 8 <= 140737488355328)) <|
  M.pure (.inl (l ++ ([(x2 : Int)])))
def zat (r__Down : List Int) (r__Travel : List Span) (r__Springs : List Int) (r__Towns : List Town) (r__Delay_Lo : Int) (r__Delay_Hi : Int) (r__Floods : List Flood) (station : Int) : M ((List Int) × Int) :=
  M.bind (zak r__Down r__Travel r__Springs r__Towns r__Delay_Lo r__Delay_Hi r__Floods) fun x_ => match x_ with
  | (.inl r1) => (
  bif r1 != 0 then (
  M.pure (([]), r1))
  else (
  M.fail))
  | (.inr (r04, r05, r12)) => (
  bif r12 != 0 then (
  M.fail)
  else (
  M.bind (zar r__Down r__Travel r__Springs r__Towns r04 r05 r__Floods station) fun r2 =>
  bif !r2 then (
  M.pure (([]), 2))
  else (
  M.bind (zaj r__Down r__Travel r__Springs r__Towns r04 r05 r__Floods station) fun (r00, r14, r15) =>
  M.bind (zal (M.yl zaq) (.inl ([])) r00 r__Down r__Travel r__Springs r__Towns r14 r15 r__Floods) fun x_ => match x_ with
  | (.inl l, q0) => (
  M.pure (l, 0))
  | (.inr _, _) => M.fail)))
theorem zbC {R : List Chunk} {C_r__Down : Cells} {v_r__Down : Value} {C_r__Travel : Cells} {v_r__Travel : Value} {C_r__Springs : Cells} {v_r__Springs : Value} {C_r__Towns : Cells} {v_r__Towns : Value} {C_r__Floods : Cells} {v_r__Floods : Value} (r__Down : List Int) (r__Travel : List Span) (r__Springs : List Int) (r__Towns : List Town) (r__Delay_Lo : Int) (r__Delay_Hi : Int) (r__Floods : List Flood) (station : Int) (hC_r__Down : Reads R C_r__Down) (hs_r__Down : Sl C_r__Down v_r__Down r__Down) (hC_r__Travel : Reads R C_r__Travel) (hs_r__Travel : Sl C_r__Travel v_r__Travel r__Travel) (hC_r__Springs : Reads R C_r__Springs) (hs_r__Springs : Sl C_r__Springs v_r__Springs r__Springs) (hC_r__Towns : Reads R C_r__Towns) (hs_r__Towns : Sl C_r__Towns v_r__Towns r__Towns) (hC_r__Floods : Reads R C_r__Floods) (hs_r__Floods : Sl C_r__Floods v_r__Floods r__Floods) {r : ((List Int) × Int)} (hM : (zat r__Down r__Travel r__Springs r__Towns r__Delay_Lo r__Delay_Hi r__Floods station).Ends r) (w : World) (H : St w w [] R) : Ret Try.prog 17 #[.agg #[v_r__Down, v_r__Travel, v_r__Springs, v_r__Towns, I r__Delay_Lo, I r__Delay_Hi, v_r__Floods], I station] w fun v w' => ∃ (y0 : List Int) (y1 : Int) (u0 : Value), (y0, y1) = r /\ v = .tuple #[u0, I y1] /\ St w w' [cOwn (α := Int) 3 u0 y0] R := by
 refine ret_of_WD Try.func17 rfl rfl rfl ?_
 replace H : St w w [cMk ([])] R := H.mk0
 have hl_r__Down := hs_r__Down.len_le
 have hl_r__Travel := hs_r__Travel.len_le
 have hl_r__Springs := hs_r__Springs.len_le
 have hl_r__Towns := hs_r__Towns.len_le
 have hl_r__Floods := hs_r__Floods.len_le
 unfold zat at hM
 refine WD.seq ?_
 refine WD.of ?_
 refine W.region rfl ?_
 refine t_box (v := .agg #[v_r__Down, v_r__Travel, v_r__Springs, v_r__Towns, I r__Delay_Lo, I r__Delay_Hi, v_r__Floods]) (cs := [v_r__Down, v_r__Travel, v_r__Springs, v_r__Towns, I r__Delay_Lo, I r__Delay_Hi, v_r__Floods]) H rfl rfl ?_
 intro b_1 w1z H
 refine s_val (x_as (v := .slice none 0 0) rfl) ?_
 refine s_val (x_as (v := I 0) rfl) ?_
 refine s_nil ?_
 refine WD.seq ?_
 refine WD.of ?_
 refine W.region rfl ?_
 refine s_val (x_ld (p := .pointer (some ⟨b_1, 0, none⟩)) (v := .agg #[v_r__Down, v_r__Travel, v_r__Springs, v_r__Towns, I r__Delay_Lo, I r__Delay_Hi, v_r__Floods]) rfl (ldb_ag (ds := [v_r__Down, v_r__Travel, v_r__Springs, v_r__Towns, I r__Delay_Lo, I r__Delay_Hi, v_r__Floods]) Ag30 Sz30 (H.blk (k := 0) rfl) rfl rfl)) ?_
 obtain ⟨r3z, hx2z, hM⟩ := M.e_bind hM
 refine s_call cf44 [.agg #[v_r__Down, v_r__Travel, v_r__Springs, v_r__Towns, I r__Delay_Lo, I r__Delay_Hi, v_r__Floods]] rfl (zaB r__Down r__Travel r__Springs r__Towns r__Delay_Lo r__Delay_Hi r__Floods (hC_r__Down.app _) hs_r__Down (hC_r__Travel.app _) hs_r__Travel (hC_r__Springs.app _) hs_r__Springs (hC_r__Towns.app _) hs_r__Towns (hC_r__Floods.app _) hs_r__Floods hx2z _ (H.gt 2)) ?_
 rintro vq w4z (⟨r1, hr5z, hvq, H2_⟩ | ⟨r04, r05, r12, nb0_2, nb1_3, Bs2_4, hr6z, hvq, H2_⟩)
 ·subst hr5z
  subst vq
  try dsimp only at hM
  replace H := H.bk H2_
  clear H2_
  refine s_val (x_mv (v := .tuple #[.pointer none, I r1]) rfl) ?_
  refine s_val (x_ext (vs := [.pointer none, I r1]) (v := .pointer none) rfl rfl) ?_
  refine s_val (x_ext (vs := [.pointer none, I r1]) (v := I r1) rfl rfl) ?_
  refine s_val (x_as (v := .pointer none) rfl) ?_
  refine s_val (x_as (v := I r1) rfl) ?_
  refine s_nil ?_
  refine WD.seq ?_
  refine WD.block ?_
  refine WD.seq ?_
  refine WD.of ?_
  refine W.region rfl ?_
  refine s_val (x_mv (v := I r1) rfl) ?_
  refine s_val (x_cmp (kd := .i64) (a := r1) (b := 0) (r := r1 != 0) rfl rfl rfl) ?_
  refine s_val (x_as (v := B (r1 != 0)) rfl) ?_
  refine s_nil ?_
  refine WD.cond (r1 != 0) rfl (fun c7z => ?_) (fun c7z => ?_)
  ·replace hM := M.e_t hM c7z
   simp only [decide_eq_true_eq, decide_eq_false_iff_not, beq_iff_eq, bne_iff_ne, beq_eq_false_iff_ne, bne_eq_false_iff_eq, ne_eq, Decidable.not_not] at c7z
   refine WD.seq ?_
   refine WD.of ?_
   refine W.region rfl ?_
   refine s_val (x_mv (v := I r1) rfl) ?_
   refine s_val (x_as (v := .slice none 0 0) rfl) ?_
   refine s_val (x_as (v := I r1) rfl) ?_
   refine s_nil ?_
   refine WD.of ?_
   refine W.ret ?_
   refine bodyD_r (H.pk [1, 0]) ?_
   intro w8z H
   replace H := H.nf
   have hr_ := M.e_pure hM
   replace H := H.nilOwn (α := Int) 3
   exact ⟨_, resE_tmp2 rfl, ⟨([]), r1, (.slice none 0 0), hr_, rfl, (H.pk [0])⟩⟩
  replace hM := M.e_f hM c7z
  exact (M.e_fail hM).elim
 subst hr6z
 subst vq
 try dsimp only at hM
 replace H := H.bk H2_
 clear H2_
 refine s_val (x_mv (v := .tuple #[.pointer (some ⟨nb0_2, 0, none⟩), I r12]) rfl) ?_
 refine s_val (x_ext (vs := [.pointer (some ⟨nb0_2, 0, none⟩), I r12]) (v := .pointer (some ⟨nb0_2, 0, none⟩)) rfl rfl) ?_
 refine s_val (x_ext (vs := [.pointer (some ⟨nb0_2, 0, none⟩), I r12]) (v := I r12) rfl rfl) ?_
 refine s_val (x_as (v := .pointer (some ⟨nb0_2, 0, none⟩)) rfl) ?_
 refine s_val (x_as (v := I r12) rfl) ?_
 refine s_nil ?_
 refine WD.seq ?_
 refine WD.block ?_
 refine WD.seq ?_
 refine WD.of ?_
 refine W.region rfl ?_
 refine s_val (x_mv (v := I r12) rfl) ?_
 refine s_val (x_cmp (kd := .i64) (a := r12) (b := 0) (r := r12 != 0) rfl rfl rfl) ?_
 refine s_val (x_as (v := B (r12 != 0)) rfl) ?_
 refine s_nil ?_
 refine WD.cond (r12 != 0) rfl (fun c9z => ?_) (fun c9z => ?_)
 ·replace hM := M.e_t hM c9z
  exact (M.e_fail hM).elim
 replace hM := M.e_f hM c9z
 simp only [decide_eq_true_eq, decide_eq_false_iff_not, beq_iff_eq, bne_iff_ne, beq_eq_false_iff_ne, bne_eq_false_iff_eq, ne_eq, Decidable.not_not] at c9z
 refine WD.seq ?_
 refine WD.of ?_
 refine W.region rfl ?_
 refine s_val (x_mv (v := .pointer (some ⟨nb0_2, 0, none⟩)) rfl) ?_
 refine s_val (x_mv (v := I station) rfl) ?_
 obtain ⟨r11z, hx10z, hM⟩ := M.e_bind hM
 refine s_call cf45 [.pointer (some ⟨nb0_2, 0, none⟩), I station] rfl (zbn r__Down r__Travel r__Springs r__Towns r04 r05 r__Floods station (hC_r__Down.app _) hs_r__Down (hC_r__Travel.app _) hs_r__Travel (hC_r__Springs.app _) hs_r__Springs (hC_r__Towns.app _) hs_r__Towns (hC_r__Floods.app _) hs_r__Floods (Has.here (k := 0) rfl) hx10z _ (H.gt 4)) ?_
 rintro vq w12z ⟨r2, hr13z, hvq, H2_⟩
 subst hr13z
 subst vq
 try dsimp only at hM
 replace H := H.bk H2_
 clear H2_
 refine s_val (x_not (b := r2) rfl) ?_
 refine s_val (x_as (v := B (!r2)) rfl) ?_
 refine s_nil ?_
 refine WD.cond (!r2) rfl (fun c14z => ?_) (fun c14z => ?_)
 ·replace hM := M.e_t hM c14z
  refine WD.seq ?_
  refine WD.of ?_
  refine W.region rfl ?_
  refine s_val (x_as (v := .slice none 0 0) rfl) ?_
  refine s_val (x_as (v := I 2) rfl) ?_
  refine s_nil ?_
  replace H := H.pk [3]
  refine WD.of ?_
  refine W.ret ?_
  refine bodyD_r (H.pk [0]) ?_
  intro w15z H
  replace H := H.nf
  have hr_ := M.e_pure hM
  replace H := H.nilOwn (α := Int) 3
  exact ⟨_, resE_tmp2 rfl, ⟨([]), 2, (.slice none 0 0), hr_, rfl, H⟩⟩
 replace hM := M.e_f hM c14z
 refine WD.of ?_
 refine W.skip ?_
 refine WD.seq ?_
 refine WD.of ?_
 refine W.region rfl ?_
 refine t_alloc (cs := [.slice none 0 0]) H Al23 rfl ?_
 intro b_5 w16z H
 refine s_nil ?_
 refine WD.seq ?_
 refine WD.seq ?_
 refine WD.of ?_
 refine W.region rfl ?_
 refine s_val (x_mv (v := .pointer (some ⟨nb0_2, 0, none⟩)) rfl) ?_
 refine s_val (x_nc (a := ⟨nb0_2, 0, none⟩) rfl) ?_
 refine s_val (x_fa (a := .pointer (some ⟨nb0_2, 0, none⟩)) (v := .pointer (some ⟨nb0_2, 0, none⟩)) rfl (fa_blk (o := 0) Fd86_0 Sz30)) ?_
 refine s_val (x_ld (p := .pointer (some ⟨nb0_2, 0, none⟩)) (v := .agg #[v_r__Down, v_r__Travel, v_r__Springs, v_r__Towns, I r04, I r05, v_r__Floods]) rfl (ldb_ag (ds := [v_r__Down, v_r__Travel, v_r__Springs, v_r__Towns, I r04, I r05, v_r__Floods]) Ag30 Sz30 (H.blk (k := 1) rfl) rfl rfl)) ?_
 refine s_val (x_mv (v := I station) rfl) ?_
 obtain ⟨r18z, hx17z, hM⟩ := M.e_bind hM
 refine s_call cf46 [.agg #[v_r__Down, v_r__Travel, v_r__Springs, v_r__Towns, I r04, I r05, v_r__Floods], I station] rfl (zaJ r__Down r__Travel r__Springs r__Towns r04 r05 r__Floods station (hC_r__Down.app _) hs_r__Down (hC_r__Travel.app _) hs_r__Travel (hC_r__Springs.app _) hs_r__Springs (hC_r__Towns.app _) hs_r__Towns (hC_r__Floods.app _) hs_r__Floods hx17z _ (H.gt 5)) ?_
 rintro vq w19z ⟨r00, r14, r15, nb0_6, nb1_7, hr20z, hvq, H2_⟩
 subst hr20z
 subst vq
 try dsimp only at hM
 replace H := H.bk H2_
 clear H2_
 refine s_nil ?_
 replace H := H.pk [0, 1, 2, 6]
 refine WD.block ?_
 replace H := H.nilOwn (α := Int) 3
 obtain ⟨t21z, hx22z, hM⟩ := M.e_bind hM
 refine WD.range (L := [cOwn (α := Int) 3 (.slice none 0 0) ([]), cBlk b_5 [(.slice none 0 0)] 23, cBlk nb1_7 [v_r__Down, v_r__Travel, v_r__Springs, v_r__Towns, I r14, I r15, v_r__Floods] 30, cBlk nb0_6 [I r00] 3]) [.pointer (some ⟨nb0_6, 0, none⟩), .pointer (some ⟨nb1_7, 0, none⟩)] (H.pk [4, 0, 3, 2, 1]) rfl cf67 ?_
 intro l23z D24z r25z w26z hr27z H
 have hYC : YieldC Try.prog ([cMk (D24z :: ([])), cBlk nb1_7 [v_r__Down, v_r__Travel, v_r__Springs, v_r__Towns, I r14, I r15, v_r__Floods] 30] ++ R) arII (yJ l23z r25z (fun l Ls_ => ∃ (v_l : Value), Ls_ = [cOwn (α := Int) 3 v_l l, cBlk b_5 [v_l] 23]) (fun (_ : Unit) _ => False) (fun _ => .ret)) (.func (.yield l23z) #[] #[]) (M.yl zaq) := by
  refine YieldC.mk hr27z (fun l Ls_ => ∃ (v_l : Value), Ls_ = [cOwn (α := Int) 3 v_l l, cBlk b_5 [v_l] 23]) (fun (_ : Unit) _ => False) (fun _ => .ret) zaq (by rintro l _ h_; obtain ⟨_, rfl⟩ := h_; rfl) (fun _ _ h_ => h_.elim) rfl (arII_len rfl) ?_
  intro C_ vs_ x_ W_ hA_
  obtain ⟨x, x2⟩ := x_
  obtain rfl := hA_
  refine W.region rfl ?_
  refine s_val (x_as (v := I x2) rfl) ?_
  refine s_nil ?_
  refine ⟨rfl, rfl, ?_⟩
  intro w R hR_ Ls_ s_ r hY_ hM H
  skip
  obtain ⟨l, hs_eq_⟩ : ∃ y_, y_ = s_ := ⟨_, rfl⟩
  subst hs_eq_
  obtain ⟨v_l, rfl⟩ := hY_
  replace hC_r__Down := hC_r__Down.sub hR_
  replace hC_r__Travel := hC_r__Travel.sub hR_
  replace hC_r__Springs := hC_r__Springs.sub hR_
  replace hC_r__Towns := hC_r__Towns.sub hR_
  replace hC_r__Floods := hC_r__Floods.sub hR_
  replace hM : (zaq l (x, x2)).Ends r := hM
  simp only [zaq] at hM
  replace H := H.pk [0, 1, 3, 2]
  refine W.block ?_
  refine W.region rfl ?_
  refine s_val (x_ld (p := .pointer (some ⟨b_5, 0, none⟩)) (v := v_l) rfl (ldb_sc Sc23 (H.blk (k := 1) rfl) rfl)) ?_
  refine s_val (x_mv (v := I x2) rfl) ?_
  refine t_bs (α := Int) T23 [I x2] [(x2 : Int)] H rfl (.cons rfl (Flat.rep_enc _ (x2 : Int)) <| .nil) rfl rfl rfl ?_
  intro v28z w29z H
  obtain ⟨sd30z, hM⟩ := M.e_grd hM
  simp only [Bool.and_eq_true, decide_eq_true_eq] at sd30z
  refine t_app (α := Int) (k := 1) (l := l) (l2 := [(x2 : Int)]) (l' := l ++ ([(x2 : Int)])) (vy := v28z) T23 rfl H rfl rfl rfl (ownSl (H.get (k := 0) rfl)) (ownLe _ (H.get (k := 0) rfl)) (rfl) (by first | omega | (simp only [List.length_nil] at *; omega)) ?_
  intro v31z w32z H
  replace H := H.nf
  refine t_sw 2 0 [v31z] v31z H rfl rfl Sz23 (Sl.cells (ownSl (H.get (k := 1) rfl))) rfl rfl (by simp only [List.all_cons, List.all_nil, Bool.true_and, Bool.and_true, Sl.oc (ownSl (H.get (k := 1) rfl))]; try rfl) ?_
  intro w33z H
  refine s_nil ?_
  exact ⟨l ++ ([(x2 : Int)]), [cOwn (α := Int) 3 v31z (l ++ ([(x2 : Int)])), cBlk b_5 [v31z] 23], (M.e_pure hM).symm, ⟨v31z, rfl⟩, H.pick [1, 2, 4, 3] (by decide) rfl⟩
 replace H : St w w26z (cAll (cObj l23z (.loop r25z) :: [cOwn (α := Int) 3 (.slice none 0 0) ([]), cBlk b_5 [(.slice none 0 0)] 23]) :: [cBlk nb0_6 [I r00] 3, cMk (D24z :: ([])), cBlk nb1_7 [v_r__Down, v_r__Travel, v_r__Springs, v_r__Towns, I r14, I r15, v_r__Floods] 30]) R := St.bundleB (A := cObj l23z (.loop r25z) :: [cOwn (α := Int) 3 (.slice none 0 0) ([]), cBlk b_5 [(.slice none 0 0)] 23]) (T := [cBlk nb0_6 [I r00] 3, cMk (D24z :: ([])), cBlk nb1_7 [v_r__Down, v_r__Travel, v_r__Springs, v_r__Towns, I r14, I r15, v_r__Floods] 30]) rfl (H.pk [0, 2, 3, 5, 1, 4])
 refine (zax (M.yl zaq) (.inl ([])) r00 r__Down r__Travel r__Springs r__Towns r14 r15 r__Floods hYC ⟨_, rfl, ⟨(.slice none 0 0), rfl⟩⟩ (hC_r__Down.app _) hs_r__Down (hC_r__Travel.app _) hs_r__Travel (hC_r__Springs.app _) hs_r__Springs (hC_r__Towns.app _) hs_r__Towns (hC_r__Floods.app _) hs_r__Floods (Has.here (k := 1) rfl) hx22z _ (H.gt 2)).mono ?_
 rintro vq w34z ⟨t38z, q0, Ls36z, hq39z, hvq, H2_, hY37z⟩
 subst hq39z
 replace H := H.back H2_ rfl
 clear H2_ hYC
 rcases t38z with l | _
 ·try dsimp only at hM
  obtain ⟨_, rfl, v_l, rfl⟩ := hY37z
  refine ⟨_, [cOwn (α := Int) 3 v_l l, cBlk b_5 [v_l] 23, cBlk nb1_7 [v_r__Down, v_r__Travel, v_r__Springs, v_r__Towns, I r14, I r15, v_r__Floods] 30, cBlk nb0_6 [I q0] 3], H.unbundle.pick [0, 4, 1, 2, 5, 3] (by decide) rfl, hr27z.nb, ?_⟩
  intro w35z H
  rw [hr27z.pd]
  replace H := H.nf
  try simp only []
  replace H := H.pk [0, 1, 2]
  refine WD.seq ?_
  refine WD.of ?_
  refine W.region rfl ?_
  refine s_val (x_ld (p := .pointer (some ⟨b_5, 0, none⟩)) (v := v_l) rfl (ldb_sc Sc23 (H.blk (k := 2) rfl) rfl)) ?_
  refine s_val (x_as (v := v_l) rfl) ?_
  refine s_val (x_as (v := I 0) rfl) ?_
  refine s_nil ?_
  refine WD.of ?_
  refine W.ret ?_
  refine bodyD_r (H.pk [0, 1, 2]) ?_
  intro w40z H
  replace H := H.nf
  have hr_ := M.e_pure hM
  exact ⟨_, resE_tmp2 rfl, ⟨l, 0, v_l, hr_, rfl, (H.pk [0])⟩⟩
 obtain ⟨_, _, h_⟩ := hY37z; exact h_.elim

def zam (r__Down : List Int) (r__Travel : List Span) (r__Springs : List Int) (r__Towns : List Town) (r__Delay_Lo : Int) (r__Delay_Hi : Int) (r__Floods : List Flood) (from_ : Int) (to_ : Int) : M (Int × Int × Int) :=
  M.bind (zak r__Down r__Travel r__Springs r__Towns r__Delay_Lo r__Delay_Hi r__Floods) fun x_ => match x_ with
  | (.inl r1) => (
  bif r1 != 0 then (
  M.pure (0, 0, r1))
  else (
  M.fail))
  | (.inr (r04, r05, r12)) => (
  bif r12 != 0 then (
  M.fail)
  else (
  M.bind (zar r__Down r__Travel r__Springs r__Towns r04 r05 r__Floods from_) fun r2 =>
  M.bind (M.opt (!(!r2)) (zar r__Down r__Travel r__Springs r__Towns r04 r05 r__Floods to_) false) fun r3 =>
  bif ((!r2) || (!r3)) then (
  M.pure (0, 0, 2))
  else (
  M.bind (zao r__Down r__Travel r__Springs r__Towns r04 r05 r__Floods from_ to_) fun (r00, r01, r13) =>
  bif !r13 then (
  M.pure (0, 0, 5))
  else (
  M.pure (r00, r01, 0)))))
theorem zbo {R : List Chunk} {C_r__Down : Cells} {v_r__Down : Value} {C_r__Travel : Cells} {v_r__Travel : Value} {C_r__Springs : Cells} {v_r__Springs : Value} {C_r__Towns : Cells} {v_r__Towns : Value} {C_r__Floods : Cells} {v_r__Floods : Value} (r__Down : List Int) (r__Travel : List Span) (r__Springs : List Int) (r__Towns : List Town) (r__Delay_Lo : Int) (r__Delay_Hi : Int) (r__Floods : List Flood) (from_ : Int) (to_ : Int) (hC_r__Down : Reads R C_r__Down) (hs_r__Down : Sl C_r__Down v_r__Down r__Down) (hC_r__Travel : Reads R C_r__Travel) (hs_r__Travel : Sl C_r__Travel v_r__Travel r__Travel) (hC_r__Springs : Reads R C_r__Springs) (hs_r__Springs : Sl C_r__Springs v_r__Springs r__Springs) (hC_r__Towns : Reads R C_r__Towns) (hs_r__Towns : Sl C_r__Towns v_r__Towns r__Towns) (hC_r__Floods : Reads R C_r__Floods) (hs_r__Floods : Sl C_r__Floods v_r__Floods r__Floods) {r : (Int × Int × Int)} (hM : (zam r__Down r__Travel r__Springs r__Towns r__Delay_Lo r__Delay_Hi r__Floods from_ to_).Ends r) (w : World) (H : St w w [] R) : Ret Try.prog 20 #[.agg #[v_r__Down, v_r__Travel, v_r__Springs, v_r__Towns, I r__Delay_Lo, I r__Delay_Hi, v_r__Floods], I from_, I to_] w fun v w' => ∃ (y0 : Int) (y1 : Int) (y2 : Int), (y0, y1, y2) = r /\ v = .tuple #[.agg #[I y0, I y1], I y2] /\ St w w' [] R := by
 refine ret_of_W Try.func20 rfl rfl rfl ?_
 refine W.seq ?_
 refine W.region rfl ?_
 refine t_box (v := .agg #[v_r__Down, v_r__Travel, v_r__Springs, v_r__Towns, I r__Delay_Lo, I r__Delay_Hi, v_r__Floods]) (cs := [v_r__Down, v_r__Travel, v_r__Springs, v_r__Towns, I r__Delay_Lo, I r__Delay_Hi, v_r__Floods]) H rfl rfl ?_
 intro b_1 w1z H
 refine t_alloc (cs := [I 0, I 0]) H Al27 rfl ?_
 intro b_2 w2z H
 refine s_val (x_as (v := I 0) rfl) ?_
 refine s_nil ?_
 refine W.seq ?_
 refine W.region rfl ?_
 refine s_val (x_ld (p := .pointer (some ⟨b_1, 0, none⟩)) (v := .agg #[v_r__Down, v_r__Travel, v_r__Springs, v_r__Towns, I r__Delay_Lo, I r__Delay_Hi, v_r__Floods]) rfl (ldb_ag (ds := [v_r__Down, v_r__Travel, v_r__Springs, v_r__Towns, I r__Delay_Lo, I r__Delay_Hi, v_r__Floods]) Ag30 Sz30 (H.blk (k := 1) rfl) rfl rfl)) ?_
 obtain ⟨r4z, hx3z, hM⟩ := M.e_bind hM
 refine s_call cf44 [.agg #[v_r__Down, v_r__Travel, v_r__Springs, v_r__Towns, I r__Delay_Lo, I r__Delay_Hi, v_r__Floods]] rfl (zaB r__Down r__Travel r__Springs r__Towns r__Delay_Lo r__Delay_Hi r__Floods (hC_r__Down.app _) hs_r__Down (hC_r__Travel.app _) hs_r__Travel (hC_r__Springs.app _) hs_r__Springs (hC_r__Towns.app _) hs_r__Towns (hC_r__Floods.app _) hs_r__Floods hx3z _ (H.gt 2)) ?_
 rintro vq w5z (⟨r1, hr6z, hvq, H2_⟩ | ⟨r04, r05, r12, nb0_3, nb1_4, Bs2_5, hr7z, hvq, H2_⟩)
 ·subst hr6z
  subst vq
  try dsimp only at hM
  replace H := H.bk H2_
  clear H2_
  refine s_val (x_mv (v := .tuple #[.pointer none, I r1]) rfl) ?_
  refine s_val (x_ext (vs := [.pointer none, I r1]) (v := .pointer none) rfl rfl) ?_
  refine s_val (x_ext (vs := [.pointer none, I r1]) (v := I r1) rfl rfl) ?_
  refine s_val (x_as (v := .pointer none) rfl) ?_
  refine s_val (x_as (v := I r1) rfl) ?_
  refine s_nil ?_
  refine W.seq ?_
  refine W.block ?_
  refine W.seq ?_
  refine W.region rfl ?_
  refine s_val (x_mv (v := I r1) rfl) ?_
  refine s_val (x_cmp (kd := .i64) (a := r1) (b := 0) (r := r1 != 0) rfl rfl rfl) ?_
  refine s_val (x_as (v := B (r1 != 0)) rfl) ?_
  refine s_nil ?_
  refine W.cond (r1 != 0) rfl (fun c8z => ?_) (fun c8z => ?_)
  ·replace hM := M.e_t hM c8z
   simp only [decide_eq_true_eq, decide_eq_false_iff_not, beq_iff_eq, bne_iff_ne, beq_eq_false_iff_ne, bne_eq_false_iff_eq, ne_eq, Decidable.not_not] at c8z
   refine W.seq ?_
   refine W.region rfl ?_
   refine s_val (x_bld (ps := []) (zs := [I 0, I 0]) (L' := [I 0, I 0]) rfl Try.underlying27 Al27 rfl (Bd27 Try.underlying27) (.nil)) ?_
   refine s_val (x_mv (v := I r1) rfl) ?_
   refine t_sw 0 0 [I 0, I 0] (.agg #[I 0, I 0]) H rfl rfl Sz27 rfl rfl rfl rfl ?_
   intro w9z H
   refine s_val (x_as (v := I r1) rfl) ?_
   refine s_nil ?_
   refine W.ret ?_
   have hb10z := (H.blk (k := 0) rfl)
   have hr_ := M.e_pure hM
   exact ⟨_, (resE_ofn (vs := [.agg #[I 0, I 0], I r1]) rfl rfl (.cell (v := .agg #[I 0, I 0]) rfl (run_loadVar_ag (ds := [I 0, I 0]) Ag27 Sz27 hb10z rfl rfl) <| .tmp (v := I r1) rfl <| .nil)), ⟨0, 0, r1, hr_, rfl, (H.pk [])⟩⟩
  replace hM := M.e_f hM c8z
  exact (M.e_fail hM).elim
 subst hr7z
 subst vq
 try dsimp only at hM
 replace H := H.bk H2_
 clear H2_
 refine s_val (x_mv (v := .tuple #[.pointer (some ⟨nb0_3, 0, none⟩), I r12]) rfl) ?_
 refine s_val (x_ext (vs := [.pointer (some ⟨nb0_3, 0, none⟩), I r12]) (v := .pointer (some ⟨nb0_3, 0, none⟩)) rfl rfl) ?_
 refine s_val (x_ext (vs := [.pointer (some ⟨nb0_3, 0, none⟩), I r12]) (v := I r12) rfl rfl) ?_
 refine s_val (x_as (v := .pointer (some ⟨nb0_3, 0, none⟩)) rfl) ?_
 refine s_val (x_as (v := I r12) rfl) ?_
 refine s_nil ?_
 refine W.seq ?_
 refine W.block ?_
 refine W.seq ?_
 refine W.region rfl ?_
 refine s_val (x_mv (v := I r12) rfl) ?_
 refine s_val (x_cmp (kd := .i64) (a := r12) (b := 0) (r := r12 != 0) rfl rfl rfl) ?_
 refine s_val (x_as (v := B (r12 != 0)) rfl) ?_
 refine s_nil ?_
 refine W.cond (r12 != 0) rfl (fun c11z => ?_) (fun c11z => ?_)
 ·replace hM := M.e_t hM c11z
  exact (M.e_fail hM).elim
 replace hM := M.e_f hM c11z
 simp only [decide_eq_true_eq, decide_eq_false_iff_not, beq_iff_eq, bne_iff_ne, beq_eq_false_iff_ne, bne_eq_false_iff_eq, ne_eq, Decidable.not_not] at c11z
 refine W.seq ?_
 refine W.region rfl ?_
 refine s_val (x_mv (v := .pointer (some ⟨nb0_3, 0, none⟩)) rfl) ?_
 refine s_val (x_mv (v := I from_) rfl) ?_
 obtain ⟨r13z, hx12z, hM⟩ := M.e_bind hM
 refine s_call cf45 [.pointer (some ⟨nb0_3, 0, none⟩), I from_] rfl (zbn r__Down r__Travel r__Springs r__Towns r04 r05 r__Floods from_ (hC_r__Down.app _) hs_r__Down (hC_r__Travel.app _) hs_r__Travel (hC_r__Springs.app _) hs_r__Springs (hC_r__Towns.app _) hs_r__Towns (hC_r__Floods.app _) hs_r__Floods (Has.here (k := 0) rfl) hx12z _ (H.gt 4)) ?_
 rintro vq w14z ⟨r2, hr15z, hvq, H2_⟩
 subst hr15z
 subst vq
 try dsimp only at hM
 replace H := H.bk H2_
 clear H2_
 refine s_val (x_not (b := r2) rfl) ?_
 refine s_val (x_mv (v := B (!r2)) rfl) ?_
 refine g_val (!(!r2)) (gy_f rfl) (fun hg => x_mv (v := .pointer (some ⟨nb0_3, 0, none⟩)) rfl) ?_
 refine g_val (!(!r2)) (gy_f rfl) (fun hg => x_mv (v := I to_) rfl) ?_
 obtain ⟨r3, hx16z, hM⟩ := M.e_bind hM
 refine t_gcall (!(!r2)) (gy_f rfl) cf45 (B r3) (fun _ => [.pointer (some ⟨nb0_3, 0, none⟩), I to_]) (fun hg => lst2 (gd_of (c := !(!r2)) hg (.pointer (some ⟨nb0_3, 0, none⟩))) (gd_of (c := !(!r2)) hg (I to_))) H (fun hg => (zbn r__Down r__Travel r__Springs r__Towns r04 r05 r__Floods to_ (hC_r__Down.app _) hs_r__Down (hC_r__Travel.app _) hs_r__Travel (hC_r__Springs.app _) hs_r__Springs (hC_r__Towns.app _) hs_r__Towns (hC_r__Floods.app _) hs_r__Floods (Has.here (k := 0) rfl) (M.e_opt hx16z hg) _ (H.give (A := []) rfl)).mono fun v_ w_ ⟨y_, hr_, hv_, H_⟩ => by subst hr_; exact ⟨hv_, H.via H_⟩) ?_
 intro w17z H
 refine g_val (!(!r2)) (gy_f rfl) (fun hg => x_not (b := r3) (gd_of (c := !(!r2)) hg (B r3))) ?_
 refine s_val (x_por (b := !r2) (r := !r3) rfl rfl (fun hb => gd_of (c := !(!r2)) (by first | exact hb | (rw [hb]; rfl) | simp_all) (B (!r3)))) ?_
 refine s_val (x_as (v := B ((!r2) || (!r3))) rfl) ?_
 refine s_nil ?_
 refine W.cond ((!r2) || (!r3)) rfl (fun c18z => ?_) (fun c18z => ?_)
 ·replace hM := M.e_t hM c18z
  refine W.seq ?_
  refine W.region rfl ?_
  refine s_val (x_bld (ps := []) (zs := [I 0, I 0]) (L' := [I 0, I 0]) rfl Try.underlying27 Al27 rfl (Bd27 Try.underlying27) (.nil)) ?_
  refine t_sw 2 0 [I 0, I 0] (.agg #[I 0, I 0]) H rfl rfl Sz27 rfl rfl rfl rfl ?_
  intro w19z H
  refine s_val (x_as (v := I 2) rfl) ?_
  refine s_nil ?_
  replace H := H.pk [2]
  refine W.ret ?_
  have hb20z := (H.blk (k := 0) rfl)
  have hr_ := M.e_pure hM
  exact ⟨_, (resE_ofn (vs := [.agg #[I 0, I 0], I 2]) rfl rfl (.cell (v := .agg #[I 0, I 0]) rfl (run_loadVar_ag (ds := [I 0, I 0]) Ag27 Sz27 hb20z rfl rfl) <| .tmp (v := I 2) rfl <| .nil)), ⟨0, 0, 2, hr_, rfl, (H.pk [])⟩⟩
 replace hM := M.e_f hM c18z
 refine W.skip ?_
 refine W.seq ?_
 refine W.region rfl ?_
 refine s_val (x_mv (v := .pointer (some ⟨nb0_3, 0, none⟩)) rfl) ?_
 refine s_val (x_mv (v := I from_) rfl) ?_
 refine s_val (x_mv (v := I to_) rfl) ?_
 obtain ⟨r22z, hx21z, hM⟩ := M.e_bind hM
 refine s_call cf47 [.pointer (some ⟨nb0_3, 0, none⟩), I from_, I to_] rfl (zbm r__Down r__Travel r__Springs r__Towns r04 r05 r__Floods from_ to_ (hC_r__Down.app _) hs_r__Down (hC_r__Travel.app _) hs_r__Travel (hC_r__Springs.app _) hs_r__Springs (hC_r__Towns.app _) hs_r__Towns (hC_r__Floods.app _) hs_r__Floods (Has.here (k := 0) rfl) hx21z _ (H.gt 4)) ?_
 rintro vq w23z ⟨r00, r01, r13, hr24z, hvq, H2_⟩
 subst hr24z
 subst vq
 try dsimp only at hM
 replace H := H.bk H2_
 clear H2_
 refine s_val (x_mv (v := .tuple #[.agg #[I r00, I r01], B r13]) rfl) ?_
 refine s_val (x_ext (vs := [.agg #[I r00, I r01], B r13]) (v := .agg #[I r00, I r01]) rfl rfl) ?_
 refine s_val (x_ext (vs := [.agg #[I r00, I r01], B r13]) (v := B r13) rfl rfl) ?_
 refine t_alloc (cs := [I 0, I 0]) H Al27 rfl ?_
 intro b_6 w25z H
 refine t_sw 0 0 [I r00, I r01] (.agg #[I r00, I r01]) H rfl rfl Sz27 rfl rfl rfl rfl ?_
 intro w26z H
 refine s_val (x_as (v := B r13) rfl) ?_
 refine s_nil ?_
 replace H := H.pk [0, 3]
 refine W.seq ?_
 refine W.seq ?_
 refine W.region rfl ?_
 refine s_val (x_mv (v := B r13) rfl) ?_
 refine s_val (x_not (b := r13) rfl) ?_
 refine s_nil ?_
 refine W.cond (!r13) rfl (fun c27z => ?_) (fun c27z => ?_)
 ·replace hM := M.e_t hM c27z
  refine W.seq ?_
  refine W.region rfl ?_
  refine s_val (x_bld (ps := []) (zs := [I 0, I 0]) (L' := [I 0, I 0]) rfl Try.underlying27 Al27 rfl (Bd27 Try.underlying27) (.nil)) ?_
  refine t_sw 1 0 [I 0, I 0] (.agg #[I 0, I 0]) H rfl rfl Sz27 rfl rfl rfl rfl ?_
  intro w28z H
  refine s_val (x_as (v := I 5) rfl) ?_
  refine s_nil ?_
  refine W.ret ?_
  have hb29z := (H.blk (k := 1) rfl)
  have hr_ := M.e_pure hM
  exact ⟨_, (resE_ofn (vs := [.agg #[I 0, I 0], I 5]) rfl rfl (.cell (v := .agg #[I 0, I 0]) rfl (run_loadVar_ag (ds := [I 0, I 0]) Ag27 Sz27 hb29z rfl rfl) <| .tmp (v := I 5) rfl <| .nil)), ⟨0, 0, 5, hr_, rfl, (H.pk [])⟩⟩
 replace hM := M.e_f hM c27z
 refine W.skip ?_
 refine W.seq ?_
 refine W.region rfl ?_
 refine s_val (x_ld (p := .pointer (some ⟨b_6, 0, none⟩)) (v := .agg #[I r00, I r01]) rfl (ldb_ag (ds := [I r00, I r01]) Ag27 Sz27 (H.blk (k := 0) rfl) rfl rfl)) ?_
 refine t_sw 1 0 [I r00, I r01] (.agg #[I r00, I r01]) H rfl rfl Sz27 rfl rfl rfl rfl ?_
 intro w30z H
 refine s_val (x_as (v := I 0) rfl) ?_
 refine s_nil ?_
 refine W.ret ?_
 have hb31z := (H.blk (k := 1) rfl)
 have hr_ := M.e_pure hM
 exact ⟨_, (resE_ofn (vs := [.agg #[I r00, I r01], I 0]) rfl rfl (.cell (v := .agg #[I r00, I r01]) rfl (run_loadVar_ag (ds := [I r00, I r01]) Ag27 Sz27 hb31z rfl rfl) <| .tmp (v := I 0) rfl <| .nil)), ⟨r00, r01, 0, hr_, rfl, (H.pk [])⟩⟩

def zaT (l : List Int) (s : Int) : (Bool × Nat) -> M ((Bool × Nat) ⊕ Bool) := fun (met, i) =>
  bif decide ((i : Int) < (l.length : Int)) then (
  M.grd ((!(!met) || (decide ((i : Int) < (l.length : Int))))) <|
  M.pure (.inl ((met || ((l.getD i 0) == s)), i + 1)))
  else (
  M.pure (.inr met))
def zay (l : List Int) (s : Int) : M Bool :=
  M.bind (M.iter (zaT l s) (false, 0)) fun met2 =>
  M.pure met2
theorem zbW {R : List Chunk} {C_l : Cells} {v_l : Value} (l : List Int) (s : Int) (hC_l : Reads R C_l) (hs_l : Sl C_l v_l l) {r : Bool} (hM : (zay l s).Ends r) (w : World) (H : St w w [] R) : Ret Try.prog 19 #[v_l, I s] w fun v w' => ∃ (y0 : Bool), y0 = r /\ v = B y0 /\ St w w' [] R := by
 refine ret_of_W Try.func19 rfl rfl rfl ?_
 refine W.seq ?_
 refine W.region rfl ?_
 refine s_val (x_as (v := B false) rfl) ?_
 refine s_nil ?_
 refine W.seq ?_
 refine W.region rfl ?_
 refine s_val (x_as (v := B false) rfl) ?_
 refine s_nil ?_
 refine W.seq ?_
 refine W.seq ?_
 refine W.region rfl ?_
 refine s_val (x_as (v := I 0) rfl) ?_
 refine s_nil ?_
 refine W.block ?_
 obtain ⟨ex1z, hi2z, hk3z⟩ := M.e_bind hM
 obtain ⟨m0_, hi2z⟩ := M.e_iter hi2z
 refine W.loop (fun m σ W => ∃ (met : Bool) (i : Nat) (ρ : Env), σ = upds ρ [(0, v_l), (1, I s), (5, B met), (6, I (i : Int))] /\ M.iterN (zaT l s) m (met, i) = some ex1z /\ St w W [] R) ?_ ?_
 ·exact ⟨_, false, 0, _, upds_of _ _ ⟨rfl, rfl, rfl, rfl, trivial⟩, hi2z, H⟩
 rintro m6z σ w4z ⟨met, i, ρ, rfl, hI5z, H⟩
 obtain ⟨m7z, lt8z, x9z, hM, hN10z⟩ := M.e_iterN hI5z
 simp only [zaT] at hM
 clear hI5z
 refine W.seq ?_
 refine W.seq ?_
 refine W.region rfl ?_
 refine s_val (x_mv (v := I (i : Int)) rfl) ?_
 refine s_val (x_mv (v := v_l) rfl) ?_
 have hl11z := (hs_l).len_le
 refine s_val (x_lenS T23.und rfl hs_l) ?_
 refine s_val (x_cmp (kd := .i64) (a := (i : Int)) (b := (l.length : Int)) (r := decide ((i : Int) < (l.length : Int))) rfl rfl rfl) ?_
 refine s_nil ?_
 refine W.cond (decide ((i : Int) < (l.length : Int))) rfl (fun c12z => ?_) (fun c12z => ?_)
 ·replace hM := M.e_t hM c12z
  simp only [decide_eq_true_eq, decide_eq_false_iff_not, beq_iff_eq, bne_iff_ne, beq_eq_false_iff_ne, bne_eq_false_iff_eq, ne_eq, Decidable.not_not] at c12z
  refine W.skip ?_
  refine W.seq ?_
  refine W.block ?_
  refine W.region rfl ?_
  refine s_val (x_mv (v := B met) rfl) ?_
  refine s_val (x_mv (v := B met) rfl) ?_
  refine g_val (!met) (gy_f rfl) (fun hg => x_mv (v := v_l) rfl) ?_
  refine g_val (!met) (gy_f rfl) (fun hg => x_mv (v := I (i : Int)) rfl) ?_
  obtain ⟨sd13z, hM⟩ := M.e_grd hM
  replace sd13z := M.imp_of sd13z
  simp only [Bool.and_eq_true, decide_eq_true_eq] at sd13z
  refine g_val (!met) (gy_f rfl) (fun hg => x_ix (a := v_l) (b := I (i : Int)) (v := vat v_l 1 (Int.toNat (i : Int))) (gd_of (c := !met) hg (v_l)) (gd_of (c := !met) hg (I (i : Int))) (Sl.ix (α := Int) T23.und T23.size hs_l (by have h1_ := sd13z.resolve_left (by rw [hg]; decide); first | exact h1_ | exact h1_.1 | exact h1_.2 | omega | (have hx_ := hg; simp at hx_; omega)) (by have h1_ := sd13z.resolve_left (by rw [hg]; decide); first | exact h1_ | exact h1_.1 | exact h1_.2 | omega | (have hx_ := hg; simp at hx_; omega)))) ?_
  refine g_val (!met) (gy_f rfl) (fun hg => x_ld (p := vat v_l 1 (Int.toNat (i : Int))) (v := I (l.getD i 0)) (gd_of (c := !met) hg (vat v_l 1 (Int.toNat (i : Int)))) (ld_sc Sc3 (At.mono (Int_at hs_l (i := (i : Int)) (by have h1_ := sd13z.resolve_left (by rw [hg]; decide); first | exact h1_ | exact h1_.1 | exact h1_.2 | omega | (have hx_ := hg; simp at hx_; omega)) (by have h1_ := sd13z.resolve_left (by rw [hg]; decide); first | exact h1_ | exact h1_.1 | exact h1_.2 | omega | (have hx_ := hg; simp at hx_; omega))) (hC_l.at H)))) ?_
  refine g_val (!met) (gy_f rfl) (fun hg => x_mv (v := I s) rfl) ?_
  refine g_val (!met) (gy_f rfl) (fun hg => x_cmp (kd := .i64) (a := l.getD i 0) (b := s) (r := (l.getD i 0) == s) (gd_of (c := !met) hg (I (l.getD i 0))) (gd_of (c := !met) hg (I s)) rfl) ?_
  refine s_val (x_por (b := met) (r := (l.getD i 0) == s) rfl rfl (fun hb => gd_of (c := !met) (by first | exact hb | (rw [hb]; rfl) | simp_all) (B ((l.getD i 0) == s)))) ?_
  refine s_val (x_as (v := B (met || ((l.getD i 0) == s))) rfl) ?_
  refine s_nil ?_
  refine W.region rfl ?_
  refine s_val (x_mv (v := I (i : Int)) rfl) ?_
  refine s_val (x_ari (a := (i : Int)) (b := 1) (r := (i : Int) + 1) rfl rfl rfl (by omega)) ?_
  refine s_val (x_as (v := I ((i : Int) + 1)) rfl) ?_
  refine s_nil ?_
  exact ⟨m7z, lt8z, (met || ((l.getD i 0) == s)), i + 1, _, upds_of _ _ ⟨rfl, rfl, rfl, rfl, trivial⟩, M.e_inl hM hN10z, H⟩
 replace hM := M.e_f hM c12z
 simp only [decide_eq_true_eq, decide_eq_false_iff_not, beq_iff_eq, bne_iff_ne, beq_eq_false_iff_ne, bne_eq_false_iff_eq, ne_eq, Decidable.not_not] at c12z
 refine W.exit ?_
 have hX14z := M.e_inr hM hN10z
 subst hX14z
 replace hM := hk3z
 try dsimp only at hM
 refine W.seq ?_
 refine W.region rfl ?_
 refine s_val (x_mv (v := B met) rfl) ?_
 refine s_val (x_as (v := B met) rfl) ?_
 refine s_nil ?_
 refine W.ret ?_
 have hr_ := M.e_pure hM
 exact ⟨_, resE_tmp rfl, ⟨met, hr_, rfl, H⟩⟩

def zaM (r0 : List Int) (r12 : List Span) (r22 : List Int) (r3 : List Town) (r4 : Int) (r5 : Int) (r6 : List Flood) (r02 : List Int) : Nat -> M (Nat ⊕ (Unit ⊕ Unit)) := fun i =>
  bif decide ((i : Int) < (r02.length : Int)) then (
  M.grd (decide ((i : Int) < (r02.length : Int))) <|
  M.bind (zat r0 r12 r22 r3 r4 r5 r6 (r02.getD i 0)) fun (r03, r14) =>
  M.bind (M.opt (!(r14 != 0)) (zaf r03 (r02.drop i)) false) fun r10 =>
  bif ((r14 != 0) || (!r10)) then (
  M.pure (.inr (.inl ())))
  else (
  M.pure (.inl (i + 1))))
  else (
  M.pure (.inr (.inr ())))
def zbN (numbers : List UInt8) (a : Int) (b : Int) (c : Int) : M Bool :=
  M.bind (zbF numbers) fun (r1, r2) =>
  M.bind (zbf numbers r1 r2 12) fun (r0, r12, r22, r3, r4, r5, r6, q1, q2) =>
  M.bind (zaz a (r0.length : Int)) fun r7 =>
  M.bind (zaz b (r0.length : Int)) fun r8 =>
  M.bind (zaz c (r0.length : Int)) fun r9 =>
  M.bind (zat r0 r12 r22 r3 r4 r5 r6 r7) fun (r02, r13) =>
  M.grd ((!(!((r13 != 0) || ((r02.length : Int) == 0))) || (decide (0 < (r02.length : Int))))) <|
  bif (((r13 != 0) || ((r02.length : Int) == 0)) || ((r02.getD 0 0) != r7)) then (
  M.pure false)
  else (
  M.bind (M.iter (zaM r0 r12 r22 r3 r4 r5 r6 r02) 0) fun x_ => match x_ with
  | (.inl (_ : Unit)) => (
  M.pure false)
  | (.inr (_ : Unit)) => (
  M.bind (zam r0 r12 r22 r3 r4 r5 r6 r7 r8) fun (r00, r01, r15) =>
  M.bind (zay r02 r8) fun r11 =>
  bif (((r15 == 0) != r11) || ((r15 != 0) && (r15 != 5))) then (
  M.pure false)
  else (
  M.bind (zat r0 r12 r22 r3 r4 r5 r6 r8) fun (r04, r16) =>
  M.bind (zam r0 r12 r22 r3 r4 r5 r6 r8 r9) fun (r002, r012, r17) =>
  M.bind (zam r0 r12 r22 r3 r4 r5 r6 r7 r9) fun (r003, r013, r18) =>
  M.bind (M.opt (!(r16 != 0)) (zay r04 r9) false) fun r19 =>
  M.bind (M.opt (!((r16 != 0) || ((r17 == 0) != r19))) (zay r02 r9) false) fun r20 =>
  bif (((r16 != 0) || ((r17 == 0) != r19)) || ((r18 == 0) != r20)) then (
  M.pure false)
  else (
  bif ((r15 == 0) && (r17 == 0)) then (
  M.grd ((!(r18 == 0) || (decide ((-9223372036854775808 : Int) <= (r00 + r002)) && decide ((r00 + r002) <= (9223372036854775807 : Int))))) <|
  M.grd ((!(r18 == 0) || (decide ((-9223372036854775808 : Int) <= (r01 + r012)) && decide ((r01 + r012) <= (9223372036854775807 : Int))))) <|
  M.bind (M.opt ((r18 == 0) && (decide ((⟨(r003 : Int), (r013 : Int)⟩ : Span) = (⟨(r00 + r002 : Int), (r01 + r012 : Int)⟩ : Span)))) (za5) false) fun r21 =>
  M.pure (((r18 == 0) && (decide ((⟨(r003 : Int), (r013 : Int)⟩ : Span) = (⟨(r00 + r002 : Int), (r01 + r012 : Int)⟩ : Span)))) && r21))
  else (
  M.bind (zam r0 r12 r22 r3 r4 r5 r6 r7 r7) fun (r004, r014, r110) =>
  M.bind (M.opt ((r110 == 0) && (decide ((⟨(r004 : Int), (r014 : Int)⟩ : Span) = (⟨(0 : Int), (0 : Int)⟩ : Span)))) (za5) false) fun r23 =>
  M.pure (((r110 == 0) && (decide ((⟨(r004 : Int), (r014 : Int)⟩ : Span) = (⟨(0 : Int), (0 : Int)⟩ : Span)))) && r23))))))
theorem zcE {R : List Chunk} {C_numbers : Cells} {v_numbers : Value} (numbers : List UInt8) (a : Int) (b : Int) (c : Int) (hC_numbers : Reads R C_numbers) (hs_numbers : Sl C_numbers v_numbers numbers) {r : Bool} (hM : (zbN numbers a b c).Ends r) (w : World) (H : St w w [] R) : Ret Try.prog 4 #[v_numbers, I a, I b, I c] w fun v w' => ∃ (y0 : Bool), y0 = r /\ v = B y0 /\ St w w' [] R := by
 refine ret_of_W Try.func4 rfl rfl rfl ?_
 refine W.seq ?_
 refine W.region rfl ?_
 refine s_val (x_as (v := B false) rfl) ?_
 refine s_nil ?_
 refine W.seq ?_
 refine W.region rfl ?_
 refine s_val (x_mv (v := v_numbers) rfl) ?_
 obtain ⟨r2z, hx1z, hM⟩ := M.e_bind hM
 refine s_call cf9 [v_numbers] rfl (zcJ numbers (hC_numbers.app _) hs_numbers hx1z _ (H.gt 0)) ?_
 rintro vq w3z ⟨r1, r2, nb0_1, hr4z, hvq, H2_⟩
 subst hr4z
 subst vq
 try dsimp only at hM
 replace H := H.bk H2_
 clear H2_
 obtain ⟨r6z, hx5z, hM⟩ := M.e_bind hM
 refine s_call cf8 [.pointer (some ⟨nb0_1, 0, none⟩), I 12] rfl (zc6 numbers r1 r2 12 (hC_numbers.app _) hs_numbers hx5z _ (H.gt 0)) ?_
 rintro vq w7z ⟨r0, r12, r22, r3, r4, r5, r6, q1, q2, u0_2, u1_3, u2_4, u3_5, u4_6, rr5_7, Bs6_8, hr8z, hvq, H2_, hf9z⟩
 subst hr8z
 subst vq
 try dsimp only at hM
 replace H := H.bk H2_
 clear H2_
 refine t_alloc (cs := [.slice none 0 0, .slice none 0 0, .slice none 0 0, .slice none 0 0, I 0, I 0, .slice none 0 0]) H Al30 rfl ?_
 intro b_9 w10z H
 refine t_sw 0 0 [u0_2, u1_3, u2_4, u3_5, I r4, I r5, u4_6] (.agg #[u0_2, u1_3, u2_4, u3_5, I r4, I r5, u4_6]) H rfl rfl Sz30 rfl rfl rfl (by simp only [List.all_cons, List.all_nil, Bool.true_and, Bool.and_true, Sl.oc (ownSl (H.get (k := 1) rfl)), Sl.oc (ownSl (H.get (k := 2) rfl)), Sl.oc (ownSl (H.get (k := 3) rfl)), Sl.oc (ownSl (H.get (k := 4) rfl)), Sl.oc (rowSl rfl (H.get (k := 5) rfl) (roLe _ (H.get (k := 6) rfl)) hf9z)]; try rfl) ?_
 intro w11z H
 refine s_nil ?_
 refine W.seq ?_
 refine W.draw (fun W => St w W [cBlk b_9 [u0_2, u1_3, u2_4, u3_5, I r4, I r5, u4_6] 30, cOwn (α := Int) 3 u0_2 r0, cOwn (α := Span) 27 u1_3 r12, cOwn (α := Int) 3 u2_4 r22, cOwn (α := Town) 54 u3_5 r3, cOwn (α := Raw 1) 67 u4_6 rr5_7, cRo Bs6_8, cBlk nb0_1 [v_numbers, I q1, I q2] 71] R) [(0, true), (1, true), (2, true), (3, true), (5, true), (6, true), (7, true), (8, true), (10, true), (11, true), (12, true), (13, true), (4, false), (9, false), (14, false), (15, true), (16, true), (17, true)] mixed (by decide +kernel) rfl ?_
 intro w12z hx_
 replace H := H.ext hx_
 clear hx_
 refine ⟨(H.pk [0, 1, 2, 3, 4, 5, 6, 7]), ?_⟩
 refine d_q rfl (fun w' H => x_mv (v := I a) rfl) ?_
 refine d_q rfl (fun w' H => x_fa (a := .pointer (some ⟨b_9, 0, none⟩)) (v := .pointer (some ⟨b_9, 0, none⟩)) rfl (fa_blk (o := 0) Fd30_0 Sz23)) ?_
 refine d_q rfl (fun w' H => x_ld (p := .pointer (some ⟨b_9, 0, none⟩)) (v := u0_2) rfl (ldb_sc Sc23 (H.blk (k := 0) rfl) rfl)) ?_
 have hl13z := ((ownSl (H.get (k := 1) rfl))).len_le
 refine d_q rfl (fun w' H => x_lenS T23.und rfl (ownSl (H.get (k := 1) rfl))) ?_
 refine d_q rfl (fun w' H => x_mv (v := I b) rfl) ?_
 refine d_q rfl (fun w' H => x_fa (a := .pointer (some ⟨b_9, 0, none⟩)) (v := .pointer (some ⟨b_9, 0, none⟩)) rfl (fa_blk (o := 0) Fd30_0 Sz23)) ?_
 refine d_q rfl (fun w' H => x_ld (p := .pointer (some ⟨b_9, 0, none⟩)) (v := u0_2) rfl (ldb_sc Sc23 (H.blk (k := 0) rfl) rfl)) ?_
 have hl14z := ((ownSl (H.get (k := 1) rfl))).len_le
 refine d_q rfl (fun w' H => x_lenS T23.und rfl (ownSl (H.get (k := 1) rfl))) ?_
 refine d_q rfl (fun w' H => x_mv (v := I c) rfl) ?_
 refine d_q rfl (fun w' H => x_fa (a := .pointer (some ⟨b_9, 0, none⟩)) (v := .pointer (some ⟨b_9, 0, none⟩)) rfl (fa_blk (o := 0) Fd30_0 Sz23)) ?_
 refine d_q rfl (fun w' H => x_ld (p := .pointer (some ⟨b_9, 0, none⟩)) (v := u0_2) rfl (ldb_sc Sc23 (H.blk (k := 0) rfl) rfl)) ?_
 have hl15z := ((ownSl (H.get (k := 1) rfl))).len_le
 refine d_q rfl (fun w' H => x_lenS T23.und rfl (ownSl (H.get (k := 1) rfl))) ?_
 refine d_l rfl ?_
 obtain ⟨r17z, hx16z, hM⟩ := M.e_bind hM
 refine s_call cf16 [I a, I (r0.length : Int)] rfl (zbX a (r0.length : Int) hx16z _ (H.gt 8)) ?_
 rintro vq w18z ⟨r7, hr19z, hvq, H2_⟩
 subst hr19z
 subst vq
 try dsimp only at hM
 replace H := H.bk H2_
 clear H2_
 refine s_nil ⟨(H.pk [0, 1, 2, 3, 4, 5, 6, 7]), ?_⟩
 refine d_l rfl ?_
 obtain ⟨r21z, hx20z, hM⟩ := M.e_bind hM
 refine s_call cf16 [I b, I (r0.length : Int)] rfl (zbX b (r0.length : Int) hx20z _ (H.gt 8)) ?_
 rintro vq w22z ⟨r8, hr23z, hvq, H2_⟩
 subst hr23z
 subst vq
 try dsimp only at hM
 replace H := H.bk H2_
 clear H2_
 refine s_nil ⟨(H.pk [0, 1, 2, 3, 4, 5, 6, 7]), ?_⟩
 refine d_l rfl ?_
 obtain ⟨r25z, hx24z, hM⟩ := M.e_bind hM
 refine s_call cf16 [I c, I (r0.length : Int)] rfl (zbX c (r0.length : Int) hx24z _ (H.gt 8)) ?_
 rintro vq w26z ⟨r9, hr27z, hvq, H2_⟩
 subst hr27z
 subst vq
 try dsimp only at hM
 replace H := H.bk H2_
 clear H2_
 refine s_nil ⟨(H.pk [0, 1, 2, 3, 4, 5, 6, 7]), ?_⟩
 refine d_q rfl (fun w' H => x_as (v := I r7) rfl) ?_
 refine d_q rfl (fun w' H => x_as (v := I r8) rfl) ?_
 refine d_q rfl (fun w' H => x_as (v := I r9) rfl) ?_
 refine d_nil ?_
 refine W.seq ?_
 refine W.region rfl ?_
 refine s_val (x_ld (p := .pointer (some ⟨b_9, 0, none⟩)) (v := .agg #[u0_2, u1_3, u2_4, u3_5, I r4, I r5, u4_6]) rfl (ldb_ag (ds := [u0_2, u1_3, u2_4, u3_5, I r4, I r5, u4_6]) Ag30 Sz30 (H.blk (k := 0) rfl) rfl rfl)) ?_
 refine s_val (x_mv (v := I r7) rfl) ?_
 obtain ⟨r29z, hx28z, hM⟩ := M.e_bind hM
 refine s_call cf17 [.agg #[u0_2, u1_3, u2_4, u3_5, I r4, I r5, u4_6], I r7] rfl (zbC r0 r12 r22 r3 r4 r5 r6 r7 (Reads.of (k := 1) rfl ownLe) (ownSl (H.get (k := 1) rfl)) (Reads.of (k := 2) rfl ownLe) (ownSl (H.get (k := 2) rfl)) (Reads.of (k := 3) rfl ownLe) (ownSl (H.get (k := 3) rfl)) (Reads.of (k := 4) rfl ownLe) (ownSl (H.get (k := 4) rfl)) (Reads.sup (Reads.of (k := 5) rfl ownLe) (Reads.of (k := 6) rfl roLe)) (rowSl rfl (H.get (k := 5) rfl) (roLe _ (H.get (k := 6) rfl)) hf9z) hx28z _ (H.gt 8)) ?_
 rintro vq w30z ⟨r02, r13, u0_10, hr31z, hvq, H2_⟩
 subst hr31z
 subst vq
 try dsimp only at hM
 replace H := H.bk H2_
 clear H2_
 refine s_val (x_mv (v := .tuple #[u0_10, I r13]) rfl) ?_
 refine s_val (x_ext (vs := [u0_10, I r13]) (v := u0_10) rfl rfl) ?_
 refine s_val (x_ext (vs := [u0_10, I r13]) (v := I r13) rfl rfl) ?_
 refine s_val (x_as (v := u0_10) rfl) ?_
 refine s_val (x_as (v := I r13) rfl) ?_
 refine s_nil ?_
 refine W.seq ?_
 refine W.seq ?_
 refine W.region rfl ?_
 refine s_val (x_mv (v := I r13) rfl) ?_
 refine s_val (x_cmp (kd := .i64) (a := r13) (b := 0) (r := r13 != 0) rfl rfl rfl) ?_
 refine s_val (x_mv (v := B (r13 != 0)) rfl) ?_
 refine g_val (!(r13 != 0)) (gy_f rfl) (fun hg => x_mv (v := u0_10) rfl) ?_
 refine g_val (!(r13 != 0)) (gy_f rfl) (fun hg => x_lenS T23.und (gd_of (c := !(r13 != 0)) hg (u0_10)) (ownSl (H.get (k := 0) rfl))) ?_
 refine g_val (!(r13 != 0)) (gy_f rfl) (fun hg => x_cmp (kd := .i64) (a := (r02.length : Int)) (b := 0) (r := (r02.length : Int) == 0) (gd_of (c := !(r13 != 0)) hg (I (r02.length : Int))) rfl rfl) ?_
 refine s_val (x_por (b := r13 != 0) (r := (r02.length : Int) == 0) rfl rfl (fun hb => gd_of (c := !(r13 != 0)) (by first | exact hb | (rw [hb]; rfl) | simp_all) (B ((r02.length : Int) == 0)))) ?_
 refine s_val (x_mv (v := B ((r13 != 0) || ((r02.length : Int) == 0))) rfl) ?_
 refine g_val (!((r13 != 0) || ((r02.length : Int) == 0))) (gy_f rfl) (fun hg => x_mv (v := u0_10) rfl) ?_
 obtain ⟨sd33z, hM⟩ := M.e_grd hM
 replace sd33z := M.imp_of sd33z
 simp only [Bool.and_eq_true, decide_eq_true_eq] at sd33z
 refine g_val (!((r13 != 0) || ((r02.length : Int) == 0))) (gy_f rfl) (fun hg => x_ix (a := u0_10) (b := I 0) (v := vat u0_10 1 (Int.toNat 0)) (gd_of (c := !((r13 != 0) || ((r02.length : Int) == 0))) hg (u0_10)) rfl (Sl.ix (α := Int) T23.und T23.size (ownSl (H.get (k := 0) rfl)) (by have h1_ := sd33z.resolve_left (by rw [hg]; decide); first | exact h1_ | exact h1_.1 | exact h1_.2 | omega | (have hx_ := hg; simp at hx_; omega)) (by have h1_ := sd33z.resolve_left (by rw [hg]; decide); first | exact h1_ | exact h1_.1 | exact h1_.2 | omega | (have hx_ := hg; simp at hx_; omega)))) ?_
 refine g_val (!((r13 != 0) || ((r02.length : Int) == 0))) (gy_f rfl) (fun hg => x_ld (p := vat u0_10 1 (Int.toNat 0)) (v := I (r02.getD 0 0)) (gd_of (c := !((r13 != 0) || ((r02.length : Int) == 0))) hg (vat u0_10 1 (Int.toNat 0))) (ld_sc Sc3 (At.mono (Int_at (ownSl (H.get (k := 0) rfl)) (i := 0) (by have h1_ := sd33z.resolve_left (by rw [hg]; decide); first | exact h1_ | exact h1_.1 | exact h1_.2 | omega | (have hx_ := hg; simp at hx_; omega)) (by have h1_ := sd33z.resolve_left (by rw [hg]; decide); first | exact h1_ | exact h1_.1 | exact h1_.2 | omega | (have hx_ := hg; simp at hx_; omega))) (ownLe _ (H.get (k := 0) rfl))))) ?_
 refine g_val (!((r13 != 0) || ((r02.length : Int) == 0))) (gy_f rfl) (fun hg => x_mv (v := I r7) rfl) ?_
 refine g_val (!((r13 != 0) || ((r02.length : Int) == 0))) (gy_f rfl) (fun hg => x_cmp (kd := .i64) (a := r02.getD 0 0) (b := r7) (r := (r02.getD 0 0) != r7) (gd_of (c := !((r13 != 0) || ((r02.length : Int) == 0))) hg (I (r02.getD 0 0))) (gd_of (c := !((r13 != 0) || ((r02.length : Int) == 0))) hg (I r7)) rfl) ?_
 refine s_val (x_por (b := ((r13 != 0) || ((r02.length : Int) == 0))) (r := (r02.getD 0 0) != r7) rfl rfl (fun hb => gd_of (c := !((r13 != 0) || ((r02.length : Int) == 0))) (by first | exact hb | (rw [hb]; rfl) | simp_all) (B ((r02.getD 0 0) != r7)))) ?_
 refine s_nil ?_
 refine W.cond (((r13 != 0) || ((r02.length : Int) == 0)) || ((r02.getD 0 0) != r7)) rfl (fun c34z => ?_) (fun c34z => ?_)
 ·replace hM := M.e_t hM c34z
  refine W.seq ?_
  refine W.region rfl ?_
  refine s_val (x_as (v := B false) rfl) ?_
  refine s_nil ?_
  replace H := H.pk []
  refine W.ret ?_
  have hr_ := M.e_pure hM
  exact ⟨_, resE_tmp rfl, ⟨false, hr_, rfl, H⟩⟩
 replace hM := M.e_f hM c34z
 refine W.skip ?_
 refine W.seq ?_
 refine W.seq ?_
 refine W.region rfl ?_
 refine s_val (x_as (v := I 0) rfl) ?_
 refine s_nil ?_
 refine W.block ?_
 obtain ⟨ex35z, hi36z, hk37z⟩ := M.e_bind hM
 obtain ⟨m0_, hi36z⟩ := M.e_iter hi36z
 refine W.loop (fun m σ W => ∃ (i : Nat) (ρ : Env), σ = upds ρ [(9, .pointer (some ⟨b_9, 0, none⟩)), (10, I r7), (11, I r8), (12, I r9), (13, u0_10), (15, I (i : Int))] /\ M.iterN (zaM r0 r12 r22 r3 r4 r5 r6 r02) m i = some ex35z /\ St w W [cOwn (α := Int) 3 u0_10 r02, cBlk b_9 [u0_2, u1_3, u2_4, u3_5, I r4, I r5, u4_6] 30, cOwn (α := Int) 3 u0_2 r0, cOwn (α := Span) 27 u1_3 r12, cOwn (α := Int) 3 u2_4 r22, cOwn (α := Town) 54 u3_5 r3, cOwn (α := Raw 1) 67 u4_6 rr5_7, cRo Bs6_8, cBlk nb0_1 [v_numbers, I q1, I q2] 71] R) ?_ ?_
 ·exact ⟨_, 0, _, upds_of _ _ ⟨rfl, rfl, rfl, rfl, rfl, rfl, trivial⟩, hi36z, H⟩
 rintro m40z σ w38z ⟨i, ρ, rfl, hI39z, H⟩
 obtain ⟨m41z, lt42z, x43z, hM, hN44z⟩ := M.e_iterN hI39z
 simp only [zaM] at hM
 clear hI39z
 refine W.seq ?_
 refine W.seq ?_
 refine W.region rfl ?_
 refine s_val (x_mv (v := I (i : Int)) rfl) ?_
 refine s_val (x_mv (v := u0_10) rfl) ?_
 have hl45z := ((ownSl (H.get (k := 0) rfl))).len_le
 refine s_val (x_lenS T23.und rfl (ownSl (H.get (k := 0) rfl))) ?_
 refine s_val (x_cmp (kd := .i64) (a := (i : Int)) (b := (r02.length : Int)) (r := decide ((i : Int) < (r02.length : Int))) rfl rfl rfl) ?_
 refine s_nil ?_
 refine W.cond (decide ((i : Int) < (r02.length : Int))) rfl (fun c46z => ?_) (fun c46z => ?_)
 ·replace hM := M.e_t hM c46z
  simp only [decide_eq_true_eq, decide_eq_false_iff_not, beq_iff_eq, bne_iff_ne, beq_eq_false_iff_ne, bne_eq_false_iff_eq, ne_eq, Decidable.not_not] at c46z
  refine W.skip ?_
  refine W.seq ?_
  refine W.block ?_
  refine W.seq ?_
  refine W.draw (fun W => St w W [cOwn (α := Int) 3 u0_10 r02, cBlk b_9 [u0_2, u1_3, u2_4, u3_5, I r4, I r5, u4_6] 30, cOwn (α := Int) 3 u0_2 r0, cOwn (α := Span) 27 u1_3 r12, cOwn (α := Int) 3 u2_4 r22, cOwn (α := Town) 54 u3_5 r3, cOwn (α := Raw 1) 67 u4_6 rr5_7, cRo Bs6_8, cBlk nb0_1 [v_numbers, I q1, I q2] 71] R) [(0, true), (1, true), (2, true), (3, true), (4, true), (5, false), (6, true), (7, true), (8, true), (9, true), (10, true)] mixed (by decide +kernel) rfl ?_
  intro w47z hx_
  replace H := H.ext hx_
  clear hx_
  refine ⟨(H.pk [0, 1, 2, 3, 4, 5, 6, 7, 8]), ?_⟩
  refine d_q rfl (fun w' H => x_ld (p := .pointer (some ⟨b_9, 0, none⟩)) (v := .agg #[u0_2, u1_3, u2_4, u3_5, I r4, I r5, u4_6]) rfl (ldb_ag (ds := [u0_2, u1_3, u2_4, u3_5, I r4, I r5, u4_6]) Ag30 Sz30 (H.blk (k := 1) rfl) rfl rfl)) ?_
  refine d_q rfl (fun w' H => x_mv (v := u0_10) rfl) ?_
  refine d_q rfl (fun w' H => x_mv (v := I (i : Int)) rfl) ?_
  obtain ⟨sd48z, hM⟩ := M.e_grd hM
  simp only [Bool.and_eq_true, decide_eq_true_eq] at sd48z
  refine d_q rfl (fun w' H => x_ix (a := u0_10) (b := I (i : Int)) (v := vat u0_10 1 (Int.toNat (i : Int))) rfl rfl (Sl.ix (α := Int) T23.und T23.size (ownSl (H.get (k := 0) rfl)) (by omega) (by omega))) ?_
  refine d_q rfl (fun w' H => x_ld (p := vat u0_10 1 (Int.toNat (i : Int))) (v := I (r02.getD i 0)) rfl (ld_sc Sc3 (At.mono (Int_at (ownSl (H.get (k := 0) rfl)) (i := (i : Int)) (by omega) (by omega)) (ownLe _ (H.get (k := 0) rfl))))) ?_
  refine d_l rfl ?_
  obtain ⟨r50z, hx49z, hM⟩ := M.e_bind hM
  refine s_call cf17 [.agg #[u0_2, u1_3, u2_4, u3_5, I r4, I r5, u4_6], I (r02.getD i 0)] rfl (zbC r0 r12 r22 r3 r4 r5 r6 (r02.getD i 0) (Reads.of (k := 2) rfl ownLe) (ownSl (H.get (k := 2) rfl)) (Reads.of (k := 3) rfl ownLe) (ownSl (H.get (k := 3) rfl)) (Reads.of (k := 4) rfl ownLe) (ownSl (H.get (k := 4) rfl)) (Reads.of (k := 5) rfl ownLe) (ownSl (H.get (k := 5) rfl)) (Reads.sup (Reads.of (k := 6) rfl ownLe) (Reads.of (k := 7) rfl roLe)) (rowSl rfl (H.get (k := 6) rfl) (roLe _ (H.get (k := 7) rfl)) hf9z) hx49z _ (H.gt 9)) ?_
  rintro vq w51z ⟨r03, r14, u0_11, hr52z, hvq, H2_⟩
  subst hr52z
  subst vq
  try dsimp only at hM
  replace H := H.bk H2_
  clear H2_
  have hvc_q53z := Sl.cells (ownSl (H.get (k := 0) rfl))
  have hvo_q53z := Sl.oc (ownSl (H.get (k := 0) rfl))
  refine s_nil ⟨(H.pk [1, 2, 3, 4, 5, 6, 7, 8, 9]), ?_⟩
  refine d_q rfl (fun w' H => x_mv (v := .tuple #[u0_11, I r14]) rfl) ?_
  refine d_q rfl (fun w' H => x_ext (vs := [u0_11, I r14]) (v := u0_11) rfl rfl) ?_
  refine d_q rfl (fun w' H => x_ext (vs := [u0_11, I r14]) (v := I r14) rfl rfl) ?_
  refine d_q rfl (fun w' H => x_as (v := u0_11) rfl) ?_
  refine d_q rfl (fun w' H => x_as (v := I r14) rfl) ?_
  refine d_nil ?_
  refine W.seq ?_
  refine W.region rfl ?_
  refine s_val (x_mv (v := I r14) rfl) ?_
  refine s_val (x_cmp (kd := .i64) (a := r14) (b := 0) (r := r14 != 0) rfl rfl rfl) ?_
  refine s_val (x_mv (v := B (r14 != 0)) rfl) ?_
  refine g_val (!(r14 != 0)) (gy_f rfl) (fun hg => x_mv (v := u0_11) rfl) ?_
  refine g_val (!(r14 != 0)) (gy_f rfl) (fun hg => x_mv (v := u0_10) rfl) ?_
  refine g_val (!(r14 != 0)) (gy_f rfl) (fun hg => x_mv (v := I (i : Int)) rfl) ?_
  obtain ⟨u54z, hr_u54z, hs55z⟩ := gd_ex (c := !(r14 != 0)) fun hg => sl_lo T23.und T23.size (ownSl (H.get (k := 1) rfl)) (i := (i : Int)) (by first | omega | (have hx_ := hg; simp at hx_; omega)) (by first | omega | (have hx_ := hg; simp at hx_; omega))
  replace hs55z : (!(r14 != 0)) = true -> Sl _ u54z (r02.drop i) := hs55z
  refine g_val (!(r14 != 0)) (gy_f rfl) (fun hg => x_sl (v := u0_10) (u := u54z) (lo' := some (I (i : Int))) (hi' := none) (mx' := none) (gd_of (c := !(r14 != 0)) hg (u0_10)) (congrArg some (gd_of (c := !(r14 != 0)) hg (I (i : Int)))) rfl rfl (hr_u54z hg _)) ?_
  obtain ⟨r10, hx56z, hM⟩ := M.e_bind hM
  refine t_gcall (!(r14 != 0)) (gy_f rfl) cf18 (B r10) (fun _ => [u0_11, u54z]) (fun hg => lst2 (gd_of (c := !(r14 != 0)) hg (u0_11)) (gd_of (c := !(r14 != 0)) hg (u54z))) H (fun hg => (zai r03 (r02.drop i) (Reads.of (k := 0) rfl ownLe) (ownSl (H.get (k := 0) rfl)) (Reads.of (k := 1) rfl ownLe) (hs55z hg) (M.e_opt hx56z hg) _ (H.give (A := []) rfl)).mono fun v_ w_ ⟨y_, hr_, hv_, H_⟩ => by subst hr_; exact ⟨hv_, H.via H_⟩) ?_
  intro w57z H
  refine g_val (!(r14 != 0)) (gy_f rfl) (fun hg => x_not (b := r10) (gd_of (c := !(r14 != 0)) hg (B r10))) ?_
  refine s_val (x_por (b := r14 != 0) (r := !r10) rfl rfl (fun hb => gd_of (c := !(r14 != 0)) (by first | exact hb | (rw [hb]; rfl) | simp_all) (B (!r10)))) ?_
  refine s_nil ?_
  refine W.cond ((r14 != 0) || (!r10)) rfl (fun c58z => ?_) (fun c58z => ?_)
  ·replace hM := M.e_t hM c58z
   refine W.seq ?_
   refine W.region rfl ?_
   refine s_val (x_as (v := B false) rfl) ?_
   refine s_nil ?_
   refine W.ret ?_
   have hX59z := M.e_inr hM hN44z
   subst hX59z
   replace hM := hk37z
   try dsimp only at hM
   have hr_ := M.e_pure hM
   exact ⟨_, resE_tmp rfl, ⟨false, hr_, rfl, (H.pk [])⟩⟩
  replace hM := M.e_f hM c58z
  refine W.skip ?_
  refine W.region rfl ?_
  refine s_val (x_mv (v := I (i : Int)) rfl) ?_
  refine s_val (x_ari (a := (i : Int)) (b := 1) (r := (i : Int) + 1) rfl rfl rfl (by omega)) ?_
  refine s_val (x_as (v := I ((i : Int) + 1)) rfl) ?_
  refine s_nil ?_
  exact ⟨m41z, lt42z, i + 1, _, upds_of _ _ ⟨rfl, rfl, rfl, rfl, rfl, rfl, trivial⟩, M.e_inl hM hN44z, (H.pk [1, 2, 3, 4, 5, 6, 7, 8, 9])⟩
 replace hM := M.e_f hM c46z
 simp only [decide_eq_true_eq, decide_eq_false_iff_not, beq_iff_eq, bne_iff_ne, beq_eq_false_iff_ne, bne_eq_false_iff_eq, ne_eq, Decidable.not_not] at c46z
 refine W.exit ?_
 have hX60z := M.e_inr hM hN44z
 subst hX60z
 replace hM := hk37z
 try dsimp only at hM
 refine W.seq ?_
 refine W.region rfl ?_
 refine s_val (x_as (v := .func (.func 19) #[] #[]) rfl) ?_
 refine s_nil ?_
 refine W.seq ?_
 refine W.region rfl ?_
 refine s_val (x_ld (p := .pointer (some ⟨b_9, 0, none⟩)) (v := .agg #[u0_2, u1_3, u2_4, u3_5, I r4, I r5, u4_6]) rfl (ldb_ag (ds := [u0_2, u1_3, u2_4, u3_5, I r4, I r5, u4_6]) Ag30 Sz30 (H.blk (k := 1) rfl) rfl rfl)) ?_
 refine s_val (x_mv (v := I r7) rfl) ?_
 refine s_val (x_mv (v := I r8) rfl) ?_
 obtain ⟨r62z, hx61z, hM⟩ := M.e_bind hM
 refine s_call cf20 [.agg #[u0_2, u1_3, u2_4, u3_5, I r4, I r5, u4_6], I r7, I r8] rfl (zbo r0 r12 r22 r3 r4 r5 r6 r7 r8 (Reads.of (k := 2) rfl ownLe) (ownSl (H.get (k := 2) rfl)) (Reads.of (k := 3) rfl ownLe) (ownSl (H.get (k := 3) rfl)) (Reads.of (k := 4) rfl ownLe) (ownSl (H.get (k := 4) rfl)) (Reads.of (k := 5) rfl ownLe) (ownSl (H.get (k := 5) rfl)) (Reads.sup (Reads.of (k := 6) rfl ownLe) (Reads.of (k := 7) rfl roLe)) (rowSl rfl (H.get (k := 6) rfl) (roLe _ (H.get (k := 7) rfl)) hf9z) hx61z _ (H.gt 9)) ?_
 rintro vq w63z ⟨r00, r01, r15, hr64z, hvq, H2_⟩
 subst hr64z
 subst vq
 try dsimp only at hM
 replace H := H.bk H2_
 clear H2_
 refine s_val (x_mv (v := .tuple #[.agg #[I r00, I r01], I r15]) rfl) ?_
 refine s_val (x_ext (vs := [.agg #[I r00, I r01], I r15]) (v := .agg #[I r00, I r01]) rfl rfl) ?_
 refine s_val (x_ext (vs := [.agg #[I r00, I r01], I r15]) (v := I r15) rfl rfl) ?_
 refine t_alloc (cs := [I 0, I 0]) H Al27 rfl ?_
 intro b_12 w65z H
 refine t_sw 0 0 [I r00, I r01] (.agg #[I r00, I r01]) H rfl rfl Sz27 rfl rfl rfl rfl ?_
 intro w66z H
 refine s_val (x_as (v := I r15) rfl) ?_
 refine s_nil ?_
 refine W.seq ?_
 refine W.seq ?_
 refine W.region rfl ?_
 refine s_val (x_mv (v := I r15) rfl) ?_
 refine s_val (x_cmp (kd := .i64) (a := r15) (b := 0) (r := r15 == 0) rfl rfl rfl) ?_
 refine s_val (x_mv (v := .func (.func 19) #[] #[]) rfl) ?_
 refine s_val (x_mv (v := u0_10) rfl) ?_
 refine s_val (x_mv (v := I r8) rfl) ?_
 obtain ⟨r68z, hx67z, hM⟩ := M.e_bind hM
 refine s_callv (f := 19) rfl cf19 [u0_10, I r8] rfl (zbW r02 r8 (Reads.of (k := 1) rfl ownLe) (ownSl (H.get (k := 1) rfl)) hx67z _ (H.gt 10)) ?_
 rintro vq w69z ⟨r11, hr70z, hvq, H2_⟩
 subst hr70z
 subst vq
 try dsimp only at hM
 replace H := H.bk H2_
 clear H2_
 refine s_val (x_eqb (a := r15 == 0) (b := r11) (r := ((r15 == 0) != r11)) rfl rfl Try.underlying4 rfl) ?_
 refine s_val (x_mv (v := B ((r15 == 0) != r11)) rfl) ?_
 refine g_val (!((r15 == 0) != r11)) (gy_f rfl) (fun hg => x_mv (v := I r15) rfl) ?_
 refine g_val (!((r15 == 0) != r11)) (gy_f rfl) (fun hg => x_cmp (kd := .i64) (a := r15) (b := 0) (r := r15 != 0) (gd_of (c := !((r15 == 0) != r11)) hg (I r15)) rfl rfl) ?_
 refine g_val (!((r15 == 0) != r11)) (gy_f rfl) (fun hg => x_mv (v := B (r15 != 0)) (gd_of (c := !((r15 == 0) != r11)) hg (B (r15 != 0)))) ?_
 refine g_val ((!((r15 == 0) != r11)) && (r15 != 0)) (gy_gt rfl rfl) (fun hg => x_mv (v := I r15) rfl) ?_
 refine g_val ((!((r15 == 0) != r11)) && (r15 != 0)) (gy_gt rfl rfl) (fun hg => x_cmp (kd := .i64) (a := r15) (b := 5) (r := r15 != 5) (gd_of (c := ((!((r15 == 0) != r11)) && (r15 != 0))) hg (I r15)) rfl rfl) ?_
 refine g_val (!((r15 == 0) != r11)) (gy_f rfl) (fun hg => x_pand (b := r15 != 0) (r := r15 != 5) (gd_of (c := !((r15 == 0) != r11)) hg (B (r15 != 0))) (fun hb => gd_of (c := ((!((r15 == 0) != r11)) && (r15 != 0))) (by first | exact hb | (rw [hb]; rfl) | simp_all) (B (r15 != 5))) rfl) ?_
 refine s_val (x_por (b := ((r15 == 0) != r11)) (r := ((r15 != 0) && (r15 != 5))) rfl rfl (fun hb => gd_of (c := !((r15 == 0) != r11)) (by first | exact hb | (rw [hb]; rfl) | simp_all) (B ((r15 != 0) && (r15 != 5))))) ?_
 refine s_nil ?_
 refine W.cond (((r15 == 0) != r11) || ((r15 != 0) && (r15 != 5))) rfl (fun c71z => ?_) (fun c71z => ?_)
 ·replace hM := M.e_t hM c71z
  refine W.seq ?_
  refine W.region rfl ?_
  refine s_val (x_as (v := B false) rfl) ?_
  refine s_nil ?_
  replace H := H.pk []
  refine W.ret ?_
  have hr_ := M.e_pure hM
  exact ⟨_, resE_tmp rfl, ⟨false, hr_, rfl, H⟩⟩
 replace hM := M.e_f hM c71z
 refine W.skip ?_
 refine W.seq ?_
 refine W.region rfl ?_
 refine s_val (x_ld (p := .pointer (some ⟨b_9, 0, none⟩)) (v := .agg #[u0_2, u1_3, u2_4, u3_5, I r4, I r5, u4_6]) rfl (ldb_ag (ds := [u0_2, u1_3, u2_4, u3_5, I r4, I r5, u4_6]) Ag30 Sz30 (H.blk (k := 2) rfl) rfl rfl)) ?_
 refine s_val (x_mv (v := I r8) rfl) ?_
 obtain ⟨r73z, hx72z, hM⟩ := M.e_bind hM
 refine s_call cf17 [.agg #[u0_2, u1_3, u2_4, u3_5, I r4, I r5, u4_6], I r8] rfl (zbC r0 r12 r22 r3 r4 r5 r6 r8 (Reads.of (k := 3) rfl ownLe) (ownSl (H.get (k := 3) rfl)) (Reads.of (k := 4) rfl ownLe) (ownSl (H.get (k := 4) rfl)) (Reads.of (k := 5) rfl ownLe) (ownSl (H.get (k := 5) rfl)) (Reads.of (k := 6) rfl ownLe) (ownSl (H.get (k := 6) rfl)) (Reads.sup (Reads.of (k := 7) rfl ownLe) (Reads.of (k := 8) rfl roLe)) (rowSl rfl (H.get (k := 7) rfl) (roLe _ (H.get (k := 8) rfl)) hf9z) hx72z _ (H.gt 10)) ?_
 rintro vq w74z ⟨r04, r16, u0_13, hr75z, hvq, H2_⟩
 subst hr75z
 subst vq
 try dsimp only at hM
 replace H := H.bk H2_
 clear H2_
 refine s_val (x_mv (v := .tuple #[u0_13, I r16]) rfl) ?_
 refine s_val (x_ext (vs := [u0_13, I r16]) (v := u0_13) rfl rfl) ?_
 refine s_val (x_ext (vs := [u0_13, I r16]) (v := I r16) rfl rfl) ?_
 refine s_val (x_as (v := u0_13) rfl) ?_
 refine s_val (x_as (v := I r16) rfl) ?_
 refine s_nil ?_
 refine W.seq ?_
 refine W.region rfl ?_
 refine s_val (x_ld (p := .pointer (some ⟨b_9, 0, none⟩)) (v := .agg #[u0_2, u1_3, u2_4, u3_5, I r4, I r5, u4_6]) rfl (ldb_ag (ds := [u0_2, u1_3, u2_4, u3_5, I r4, I r5, u4_6]) Ag30 Sz30 (H.blk (k := 3) rfl) rfl rfl)) ?_
 refine s_val (x_mv (v := I r8) rfl) ?_
 refine s_val (x_mv (v := I r9) rfl) ?_
 obtain ⟨r77z, hx76z, hM⟩ := M.e_bind hM
 refine s_call cf20 [.agg #[u0_2, u1_3, u2_4, u3_5, I r4, I r5, u4_6], I r8, I r9] rfl (zbo r0 r12 r22 r3 r4 r5 r6 r8 r9 (Reads.of (k := 4) rfl ownLe) (ownSl (H.get (k := 4) rfl)) (Reads.of (k := 5) rfl ownLe) (ownSl (H.get (k := 5) rfl)) (Reads.of (k := 6) rfl ownLe) (ownSl (H.get (k := 6) rfl)) (Reads.of (k := 7) rfl ownLe) (ownSl (H.get (k := 7) rfl)) (Reads.sup (Reads.of (k := 8) rfl ownLe) (Reads.of (k := 9) rfl roLe)) (rowSl rfl (H.get (k := 8) rfl) (roLe _ (H.get (k := 9) rfl)) hf9z) hx76z _ (H.gt 11)) ?_
 rintro vq w78z ⟨r002, r012, r17, hr79z, hvq, H2_⟩
 subst hr79z
 subst vq
 try dsimp only at hM
 replace H := H.bk H2_
 clear H2_
 refine s_val (x_mv (v := .tuple #[.agg #[I r002, I r012], I r17]) rfl) ?_
 refine s_val (x_ext (vs := [.agg #[I r002, I r012], I r17]) (v := .agg #[I r002, I r012]) rfl rfl) ?_
 refine s_val (x_ext (vs := [.agg #[I r002, I r012], I r17]) (v := I r17) rfl rfl) ?_
 refine t_alloc (cs := [I 0, I 0]) H Al27 rfl ?_
 intro b_14 w80z H
 refine t_sw 0 0 [I r002, I r012] (.agg #[I r002, I r012]) H rfl rfl Sz27 rfl rfl rfl rfl ?_
 intro w81z H
 refine s_val (x_as (v := I r17) rfl) ?_
 refine s_nil ?_
 refine W.seq ?_
 refine W.region rfl ?_
 refine s_val (x_ld (p := .pointer (some ⟨b_9, 0, none⟩)) (v := .agg #[u0_2, u1_3, u2_4, u3_5, I r4, I r5, u4_6]) rfl (ldb_ag (ds := [u0_2, u1_3, u2_4, u3_5, I r4, I r5, u4_6]) Ag30 Sz30 (H.blk (k := 4) rfl) rfl rfl)) ?_
 refine s_val (x_mv (v := I r7) rfl) ?_
 refine s_val (x_mv (v := I r9) rfl) ?_
 obtain ⟨r83z, hx82z, hM⟩ := M.e_bind hM
 refine s_call cf20 [.agg #[u0_2, u1_3, u2_4, u3_5, I r4, I r5, u4_6], I r7, I r9] rfl (zbo r0 r12 r22 r3 r4 r5 r6 r7 r9 (Reads.of (k := 5) rfl ownLe) (ownSl (H.get (k := 5) rfl)) (Reads.of (k := 6) rfl ownLe) (ownSl (H.get (k := 6) rfl)) (Reads.of (k := 7) rfl ownLe) (ownSl (H.get (k := 7) rfl)) (Reads.of (k := 8) rfl ownLe) (ownSl (H.get (k := 8) rfl)) (Reads.sup (Reads.of (k := 9) rfl ownLe) (Reads.of (k := 10) rfl roLe)) (rowSl rfl (H.get (k := 9) rfl) (roLe _ (H.get (k := 10) rfl)) hf9z) hx82z _ (H.gt 12)) ?_
 rintro vq w84z ⟨r003, r013, r18, hr85z, hvq, H2_⟩
 subst hr85z
 subst vq
 try dsimp only at hM
 replace H := H.bk H2_
 clear H2_
 refine s_val (x_mv (v := .tuple #[.agg #[I r003, I r013], I r18]) rfl) ?_
 refine s_val (x_ext (vs := [.agg #[I r003, I r013], I r18]) (v := .agg #[I r003, I r013]) rfl rfl) ?_
 refine s_val (x_ext (vs := [.agg #[I r003, I r013], I r18]) (v := I r18) rfl rfl) ?_
 refine t_alloc (cs := [I 0, I 0]) H Al27 rfl ?_
 intro b_15 w86z H
 refine t_sw 0 0 [I r003, I r013] (.agg #[I r003, I r013]) H rfl rfl Sz27 rfl rfl rfl rfl ?_
 intro w87z H
 refine s_val (x_as (v := I r18) rfl) ?_
 refine s_nil ?_
 refine W.seq ?_
 refine W.seq ?_
 refine W.region rfl ?_
 refine s_val (x_mv (v := I r16) rfl) ?_
 refine s_val (x_cmp (kd := .i64) (a := r16) (b := 0) (r := r16 != 0) rfl rfl rfl) ?_
 refine s_val (x_mv (v := B (r16 != 0)) rfl) ?_
 refine g_val (!(r16 != 0)) (gy_f rfl) (fun hg => x_mv (v := I r17) rfl) ?_
 refine g_val (!(r16 != 0)) (gy_f rfl) (fun hg => x_cmp (kd := .i64) (a := r17) (b := 0) (r := r17 == 0) (gd_of (c := !(r16 != 0)) hg (I r17)) rfl rfl) ?_
 refine g_val (!(r16 != 0)) (gy_f rfl) (fun hg => x_mv (v := .func (.func 19) #[] #[]) rfl) ?_
 refine g_val (!(r16 != 0)) (gy_f rfl) (fun hg => x_mv (v := u0_13) rfl) ?_
 refine g_val (!(r16 != 0)) (gy_f rfl) (fun hg => x_mv (v := I r9) rfl) ?_
 obtain ⟨r19, hx88z, hM⟩ := M.e_bind hM
 refine t_gcallv (cap := []) (!(r16 != 0)) (gy_f rfl) cf19 (fun hg => (gd_of (c := !(r16 != 0)) hg (.func (.func 19) #[] #[]))) (B r19) (fun _ => [u0_13, I r9]) (fun hg => lst2 (gd_of (c := !(r16 != 0)) hg (u0_13)) (gd_of (c := !(r16 != 0)) hg (I r9))) H (fun hg => (zbW r04 r9 (Reads.of (k := 2) rfl ownLe) (ownSl (H.get (k := 2) rfl)) (M.e_opt hx88z hg) _ (H.give (A := []) rfl)).mono fun v_ w_ ⟨y_, hr_, hv_, H_⟩ => by subst hr_; exact ⟨hv_, H.via H_⟩) ?_
 intro w89z H
 refine g_val (!(r16 != 0)) (gy_f rfl) (fun hg => x_eqb (a := r17 == 0) (b := r19) (r := ((r17 == 0) != r19)) (gd_of (c := !(r16 != 0)) hg (B (r17 == 0))) (gd_of (c := !(r16 != 0)) hg (B r19)) Try.underlying4 rfl) ?_
 refine s_val (x_por (b := r16 != 0) (r := ((r17 == 0) != r19)) rfl rfl (fun hb => gd_of (c := !(r16 != 0)) (by first | exact hb | (rw [hb]; rfl) | simp_all) (B ((r17 == 0) != r19)))) ?_
 refine s_val (x_mv (v := B ((r16 != 0) || ((r17 == 0) != r19))) rfl) ?_
 refine g_val (!((r16 != 0) || ((r17 == 0) != r19))) (gy_f rfl) (fun hg => x_mv (v := I r18) rfl) ?_
 refine g_val (!((r16 != 0) || ((r17 == 0) != r19))) (gy_f rfl) (fun hg => x_cmp (kd := .i64) (a := r18) (b := 0) (r := r18 == 0) (gd_of (c := !((r16 != 0) || ((r17 == 0) != r19))) hg (I r18)) rfl rfl) ?_
 refine g_val (!((r16 != 0) || ((r17 == 0) != r19))) (gy_f rfl) (fun hg => x_mv (v := .func (.func 19) #[] #[]) rfl) ?_
 refine g_val (!((r16 != 0) || ((r17 == 0) != r19))) (gy_f rfl) (fun hg => x_mv (v := u0_10) rfl) ?_
 refine g_val (!((r16 != 0) || ((r17 == 0) != r19))) (gy_f rfl) (fun hg => x_mv (v := I r9) rfl) ?_
 obtain ⟨r20, hx90z, hM⟩ := M.e_bind hM
 refine t_gcallv (cap := []) (!((r16 != 0) || ((r17 == 0) != r19))) (gy_f rfl) cf19 (fun hg => (gd_of (c := !((r16 != 0) || ((r17 == 0) != r19))) hg (.func (.func 19) #[] #[]))) (B r20) (fun _ => [u0_10, I r9]) (fun hg => lst2 (gd_of (c := !((r16 != 0) || ((r17 == 0) != r19))) hg (u0_10)) (gd_of (c := !((r16 != 0) || ((r17 == 0) != r19))) hg (I r9))) H (fun hg => (zbW r02 r9 (Reads.of (k := 4) rfl ownLe) (ownSl (H.get (k := 4) rfl)) (M.e_opt hx90z hg) _ (H.give (A := []) rfl)).mono fun v_ w_ ⟨y_, hr_, hv_, H_⟩ => by subst hr_; exact ⟨hv_, H.via H_⟩) ?_
 intro w91z H
 refine g_val (!((r16 != 0) || ((r17 == 0) != r19))) (gy_f rfl) (fun hg => x_eqb (a := r18 == 0) (b := r20) (r := ((r18 == 0) != r20)) (gd_of (c := !((r16 != 0) || ((r17 == 0) != r19))) hg (B (r18 == 0))) (gd_of (c := !((r16 != 0) || ((r17 == 0) != r19))) hg (B r20)) Try.underlying4 rfl) ?_
 refine s_val (x_por (b := ((r16 != 0) || ((r17 == 0) != r19))) (r := ((r18 == 0) != r20)) rfl rfl (fun hb => gd_of (c := !((r16 != 0) || ((r17 == 0) != r19))) (by first | exact hb | (rw [hb]; rfl) | simp_all) (B ((r18 == 0) != r20)))) ?_
 refine s_nil ?_
 replace H := H.pk [0, 1, 3, 5, 6, 7, 8, 9, 10, 11]
 refine W.cond (((r16 != 0) || ((r17 == 0) != r19)) || ((r18 == 0) != r20)) rfl (fun c92z => ?_) (fun c92z => ?_)
 ·replace hM := M.e_t hM c92z
  refine W.seq ?_
  refine W.region rfl ?_
  refine s_val (x_as (v := B false) rfl) ?_
  refine s_nil ?_
  replace H := H.pk []
  refine W.ret ?_
  have hr_ := M.e_pure hM
  exact ⟨_, resE_tmp rfl, ⟨false, hr_, rfl, H⟩⟩
 replace hM := M.e_f hM c92z
 refine W.skip ?_
 refine W.seq ?_
 refine W.seq ?_
 refine W.region rfl ?_
 refine s_val (x_mv (v := I r15) rfl) ?_
 refine s_val (x_cmp (kd := .i64) (a := r15) (b := 0) (r := r15 == 0) rfl rfl rfl) ?_
 refine s_val (x_mv (v := B (r15 == 0)) rfl) ?_
 refine g_val (r15 == 0) (gy_t rfl) (fun hg => x_mv (v := I r17) rfl) ?_
 refine g_val (r15 == 0) (gy_t rfl) (fun hg => x_cmp (kd := .i64) (a := r17) (b := 0) (r := r17 == 0) (gd_of (c := r15 == 0) hg (I r17)) rfl rfl) ?_
 refine s_val (x_pand (b := r15 == 0) (r := r17 == 0) rfl (fun hb => gd_of (c := r15 == 0) (by first | exact hb | (rw [hb]; rfl) | simp_all) (B (r17 == 0))) rfl) ?_
 refine s_nil ?_
 refine W.cond ((r15 == 0) && (r17 == 0)) rfl (fun c93z => ?_) (fun c93z => ?_)
 ·replace hM := M.e_t hM c93z
  refine W.seq ?_
  refine W.region rfl ?_
  refine s_val (x_mv (v := I r18) rfl) ?_
  refine s_val (x_cmp (kd := .i64) (a := r18) (b := 0) (r := r18 == 0) rfl rfl rfl) ?_
  refine s_val (x_mv (v := B (r18 == 0)) rfl) ?_
  refine g_val (r18 == 0) (gy_t rfl) (fun hg => x_ld (p := .pointer (some ⟨b_15, 0, none⟩)) (v := .agg #[I r003, I r013]) rfl (ldb_ag (ds := [I r003, I r013]) Ag27 Sz27 (H.blk (k := 0) rfl) rfl rfl)) ?_
  refine g_val (r18 == 0) (gy_t rfl) (fun hg => x_fa (a := .pointer (some ⟨b_12, 0, none⟩)) (v := .pointer (some ⟨b_12, 0, none⟩)) rfl (fa_blk (o := 0) Fd27_0 Sz3)) ?_
  refine g_val (r18 == 0) (gy_t rfl) (fun hg => x_ld (p := .pointer (some ⟨b_12, 0, none⟩)) (v := I r00) (gd_of (c := r18 == 0) hg (.pointer (some ⟨b_12, 0, none⟩))) (ldb_sc Sc3 (H.blk (k := 2) rfl) rfl)) ?_
  refine g_val (r18 == 0) (gy_t rfl) (fun hg => x_fa (a := .pointer (some ⟨b_14, 0, none⟩)) (v := .pointer (some ⟨b_14, 0, none⟩)) rfl (fa_blk (o := 0) Fd27_0 Sz3)) ?_
  refine g_val (r18 == 0) (gy_t rfl) (fun hg => x_ld (p := .pointer (some ⟨b_14, 0, none⟩)) (v := I r002) (gd_of (c := r18 == 0) hg (.pointer (some ⟨b_14, 0, none⟩))) (ldb_sc Sc3 (H.blk (k := 1) rfl) rfl)) ?_
  obtain ⟨sd94z, hM⟩ := M.e_grd hM
  replace sd94z := M.imp_of sd94z
  simp only [Bool.and_eq_true, decide_eq_true_eq] at sd94z
  refine g_val (r18 == 0) (gy_t rfl) (fun hg => x_ari (a := r00) (b := r002) (r := r00 + r002) (gd_of (c := r18 == 0) hg (I r00)) (gd_of (c := r18 == 0) hg (I r002)) rfl (by have h1_ := sd94z.resolve_left (by rw [hg]; decide); first | exact h1_ | exact h1_.1 | exact h1_.2 | omega | (have hx_ := hg; simp at hx_; omega))) ?_
  refine g_val (r18 == 0) (gy_t rfl) (fun hg => x_fa (a := .pointer (some ⟨b_12, 0, none⟩)) (v := .pointer (some ⟨b_12, 1, none⟩)) rfl (fa_blk (o := 0) Fd27_1 Sz3)) ?_
  refine g_val (r18 == 0) (gy_t rfl) (fun hg => x_ld (p := .pointer (some ⟨b_12, 1, none⟩)) (v := I r01) (gd_of (c := r18 == 0) hg (.pointer (some ⟨b_12, 1, none⟩))) (ldb_sc Sc3 (H.blk (k := 2) rfl) rfl)) ?_
  refine g_val (r18 == 0) (gy_t rfl) (fun hg => x_fa (a := .pointer (some ⟨b_14, 0, none⟩)) (v := .pointer (some ⟨b_14, 1, none⟩)) rfl (fa_blk (o := 0) Fd27_1 Sz3)) ?_
  refine g_val (r18 == 0) (gy_t rfl) (fun hg => x_ld (p := .pointer (some ⟨b_14, 1, none⟩)) (v := I r012) (gd_of (c := r18 == 0) hg (.pointer (some ⟨b_14, 1, none⟩))) (ldb_sc Sc3 (H.blk (k := 1) rfl) rfl)) ?_
  obtain ⟨sd95z, hM⟩ := M.e_grd hM
  replace sd95z := M.imp_of sd95z
  simp only [Bool.and_eq_true, decide_eq_true_eq] at sd95z
  refine g_val (r18 == 0) (gy_t rfl) (fun hg => x_ari (a := r01) (b := r012) (r := r01 + r012) (gd_of (c := r18 == 0) hg (I r01)) (gd_of (c := r18 == 0) hg (I r012)) rfl (by have h1_ := sd94z.resolve_left (by rw [hg]; decide); have h2_ := sd95z.resolve_left (by rw [hg]; decide); first | exact h1_ | exact h1_.1 | exact h1_.2 | exact h2_ | exact h2_.1 | exact h2_.2 | omega | (have hx_ := hg; simp at hx_; omega))) ?_
  refine g_val (r18 == 0) (gy_t rfl) (fun hg => x_bld (ps := [(0, I (r00 + r002)), (1, I (r01 + r012))]) (zs := [I 0, I 0]) (L' := [I (r00 + r002), I (r01 + r012)]) (by exact prs2 (gd_of (c := r18 == 0) hg (I (r00 + r002))) (gd_of (c := r18 == 0) hg (I (r01 + r012)))) Try.underlying27 Al27 rfl (Bd27 Try.underlying27) (.cons (cs := [I (r00 + r002)]) rfl rfl rfl rfl rfl <| .cons (cs := [I (r01 + r012)]) rfl rfl rfl rfl rfl <| .nil)) ?_
  refine g_val (r18 == 0) (gy_t rfl) (fun hg => x_eqS (eqT27 (⟨(r003 : Int), (r013 : Int)⟩ : Span) (⟨(r00 + r002 : Int), (r01 + r012 : Int)⟩ : Span) _) gdT27 (gd_of (c := r18 == 0) hg (.agg #[I r003, I r013])) (gd_of (c := r18 == 0) hg (.agg #[I (r00 + r002), I (r01 + r012)]))) ?_
  refine s_val (x_pand (b := r18 == 0) (r := decide ((⟨(r003 : Int), (r013 : Int)⟩ : Span) = (⟨(r00 + r002 : Int), (r01 + r012 : Int)⟩ : Span))) rfl (fun hb => gd_of (c := r18 == 0) (by first | exact hb | (rw [hb]; rfl) | simp_all) (B (decide ((⟨(r003 : Int), (r013 : Int)⟩ : Span) = (⟨(r00 + r002 : Int), (r01 + r012 : Int)⟩ : Span))))) rfl) ?_
  refine s_val (x_mv (v := B ((r18 == 0) && (decide ((⟨(r003 : Int), (r013 : Int)⟩ : Span) = (⟨(r00 + r002 : Int), (r01 + r012 : Int)⟩ : Span))))) rfl) ?_
  obtain ⟨r21, hx96z, hM⟩ := M.e_bind hM
  refine t_gcall ((r18 == 0) && (decide ((⟨(r003 : Int), (r013 : Int)⟩ : Span) = (⟨(r00 + r002 : Int), (r01 + r012 : Int)⟩ : Span)))) (gy_t rfl) cf15 (B r21) (fun _ => []) (fun _ => rfl) H (fun hg => (zb6 (M.e_opt hx96z hg) _ (H.give (A := []) rfl)).mono fun v_ w_ ⟨y_, hr_, hv_, H_⟩ => by subst hr_; exact ⟨hv_, H.via H_⟩) ?_
  intro w97z H
  refine s_val (x_pand (b := ((r18 == 0) && (decide ((⟨(r003 : Int), (r013 : Int)⟩ : Span) = (⟨(r00 + r002 : Int), (r01 + r012 : Int)⟩ : Span))))) (r := r21) rfl (fun hb => gd_of (c := ((r18 == 0) && (decide ((⟨(r003 : Int), (r013 : Int)⟩ : Span) = (⟨(r00 + r002 : Int), (r01 + r012 : Int)⟩ : Span))))) (by first | exact hb | (rw [hb]; rfl) | simp_all) (B r21)) rfl) ?_
  refine s_val (x_as (v := B (((r18 == 0) && (decide ((⟨(r003 : Int), (r013 : Int)⟩ : Span) = (⟨(r00 + r002 : Int), (r01 + r012 : Int)⟩ : Span)))) && r21)) rfl) ?_
  refine s_nil ?_
  replace H := H.pk []
  refine W.ret ?_
  have hr_ := M.e_pure hM
  exact ⟨_, resE_tmp rfl, ⟨(((r18 == 0) && (decide ((⟨(r003 : Int), (r013 : Int)⟩ : Span) = (⟨(r00 + r002 : Int), (r01 + r012 : Int)⟩ : Span)))) && r21), hr_, rfl, H⟩⟩
 replace hM := M.e_f hM c93z
 refine W.skip ?_
 replace H := H.pk [3, 4, 5, 6, 7, 8, 9]
 refine W.seq ?_
 refine W.region rfl ?_
 refine s_val (x_ld (p := .pointer (some ⟨b_9, 0, none⟩)) (v := .agg #[u0_2, u1_3, u2_4, u3_5, I r4, I r5, u4_6]) rfl (ldb_ag (ds := [u0_2, u1_3, u2_4, u3_5, I r4, I r5, u4_6]) Ag30 Sz30 (H.blk (k := 0) rfl) rfl rfl)) ?_
 refine s_val (x_mv (v := I r7) rfl) ?_
 refine s_val (x_mv (v := I r7) rfl) ?_
 obtain ⟨r99z, hx98z, hM⟩ := M.e_bind hM
 refine s_call cf20 [.agg #[u0_2, u1_3, u2_4, u3_5, I r4, I r5, u4_6], I r7, I r7] rfl (zbo r0 r12 r22 r3 r4 r5 r6 r7 r7 (Reads.of (k := 1) rfl ownLe) (ownSl (H.get (k := 1) rfl)) (Reads.of (k := 2) rfl ownLe) (ownSl (H.get (k := 2) rfl)) (Reads.of (k := 3) rfl ownLe) (ownSl (H.get (k := 3) rfl)) (Reads.of (k := 4) rfl ownLe) (ownSl (H.get (k := 4) rfl)) (Reads.sup (Reads.of (k := 5) rfl ownLe) (Reads.of (k := 6) rfl roLe)) (rowSl rfl (H.get (k := 5) rfl) (roLe _ (H.get (k := 6) rfl)) hf9z) hx98z _ (H.gt 7)) ?_
 rintro vq w100z ⟨r004, r014, r110, hr101z, hvq, H2_⟩
 subst hr101z
 subst vq
 try dsimp only at hM
 replace H := H.bk H2_
 clear H2_
 refine s_val (x_mv (v := .tuple #[.agg #[I r004, I r014], I r110]) rfl) ?_
 refine s_val (x_ext (vs := [.agg #[I r004, I r014], I r110]) (v := .agg #[I r004, I r014]) rfl rfl) ?_
 refine s_val (x_ext (vs := [.agg #[I r004, I r014], I r110]) (v := I r110) rfl rfl) ?_
 refine t_alloc (cs := [I 0, I 0]) H Al27 rfl ?_
 intro b_16 w102z H
 refine t_sw 0 0 [I r004, I r014] (.agg #[I r004, I r014]) H rfl rfl Sz27 rfl rfl rfl rfl ?_
 intro w103z H
 refine s_val (x_as (v := I r110) rfl) ?_
 refine s_nil ?_
 replace H := H.pk [0]
 refine W.seq ?_
 refine W.region rfl ?_
 refine s_val (x_mv (v := I r110) rfl) ?_
 refine s_val (x_cmp (kd := .i64) (a := r110) (b := 0) (r := r110 == 0) rfl rfl rfl) ?_
 refine s_val (x_mv (v := B (r110 == 0)) rfl) ?_
 refine g_val (r110 == 0) (gy_t rfl) (fun hg => x_ld (p := .pointer (some ⟨b_16, 0, none⟩)) (v := .agg #[I r004, I r014]) rfl (ldb_ag (ds := [I r004, I r014]) Ag27 Sz27 (H.blk (k := 0) rfl) rfl rfl)) ?_
 refine g_val (r110 == 0) (gy_t rfl) (fun hg => x_bld (ps := []) (zs := [I 0, I 0]) (L' := [I 0, I 0]) rfl Try.underlying27 Al27 rfl (Bd27 Try.underlying27) (.nil)) ?_
 refine g_val (r110 == 0) (gy_t rfl) (fun hg => x_eqS (eqT27 (⟨(r004 : Int), (r014 : Int)⟩ : Span) (⟨(0 : Int), (0 : Int)⟩ : Span) _) gdT27 (gd_of (c := r110 == 0) hg (.agg #[I r004, I r014])) (gd_of (c := r110 == 0) hg (.agg #[I 0, I 0]))) ?_
 refine s_val (x_pand (b := r110 == 0) (r := decide ((⟨(r004 : Int), (r014 : Int)⟩ : Span) = (⟨(0 : Int), (0 : Int)⟩ : Span))) rfl (fun hb => gd_of (c := r110 == 0) (by first | exact hb | (rw [hb]; rfl) | simp_all) (B (decide ((⟨(r004 : Int), (r014 : Int)⟩ : Span) = (⟨(0 : Int), (0 : Int)⟩ : Span))))) rfl) ?_
 refine s_val (x_mv (v := B ((r110 == 0) && (decide ((⟨(r004 : Int), (r014 : Int)⟩ : Span) = (⟨(0 : Int), (0 : Int)⟩ : Span))))) rfl) ?_
 obtain ⟨r23, hx104z, hM⟩ := M.e_bind hM
 refine t_gcall ((r110 == 0) && (decide ((⟨(r004 : Int), (r014 : Int)⟩ : Span) = (⟨(0 : Int), (0 : Int)⟩ : Span)))) (gy_t rfl) cf15 (B r23) (fun _ => []) (fun _ => rfl) H (fun hg => (zb6 (M.e_opt hx104z hg) _ (H.give (A := []) rfl)).mono fun v_ w_ ⟨y_, hr_, hv_, H_⟩ => by subst hr_; exact ⟨hv_, H.via H_⟩) ?_
 intro w105z H
 refine s_val (x_pand (b := ((r110 == 0) && (decide ((⟨(r004 : Int), (r014 : Int)⟩ : Span) = (⟨(0 : Int), (0 : Int)⟩ : Span))))) (r := r23) rfl (fun hb => gd_of (c := ((r110 == 0) && (decide ((⟨(r004 : Int), (r014 : Int)⟩ : Span) = (⟨(0 : Int), (0 : Int)⟩ : Span))))) (by first | exact hb | (rw [hb]; rfl) | simp_all) (B r23)) rfl) ?_
 refine s_val (x_as (v := B (((r110 == 0) && (decide ((⟨(r004 : Int), (r014 : Int)⟩ : Span) = (⟨(0 : Int), (0 : Int)⟩ : Span)))) && r23)) rfl) ?_
 refine s_nil ?_
 refine W.ret ?_
 have hr_ := M.e_pure hM
 exact ⟨_, resE_tmp rfl, ⟨(((r110 == 0) && (decide ((⟨(r004 : Int), (r014 : Int)⟩ : Span) = (⟨(0 : Int), (0 : Int)⟩ : Span)))) && r23), hr_, rfl, (H.pk [])⟩⟩

end Go.Proofs.Ytbaehghammbjdaa
end
namespace Go.Proofs.Ytbaehghammbjdaa
open Go Go.Nm
variable {dn : List Int} {tr : List Span} {sp : List Int} {tw : List Town} {dl dh : Int} {fl : List Flood}
theorem path_ends (R : Wn.Rv dn tr sp tw dl dh fl) {s : Int} (h0 : 0 <= s) (h1 : s < dn.length) : (zat dn tr sp tw dl dh fl s).Ends (Wn.P dn s, 0) := by
  refine M.Out.ends ?_
  unfold zat
  refine M.o_bindE (opened_ends R) ?_
  dsimp only
  have hp : (zaj dn tr sp tw dl dh fl s).Ends (s, dl, dh) := M.i_pure
  have hst : Wn.Stn dn s := .inr ⟨h0, h1⟩
  have h12 := R.n12
  have hsh := Wn.P_short R.nx hst
  refine M.o_f rfl (M.o_bindE (station_true R h0 h1) (M.o_f rfl (M.o_bindE hp ?_)))
  dsimp only
  refine M.o_bind (path_out (Q := fun x => x = (.inl (Wn.P dn s) : List Int ⊕ Unit)) R.nx R.n12 hst (fun k (l : List Int) => l = (Wn.P dn s).take k) (by simp) ?_ ?_ _ _ _ _ _ _) ?_
  · rintro k hk _ rfl
    simp only [zaq]
    exact M.o_grdD (by simp; omega) (M.o_pure (List.take_succ_eq_append_getElem hk).symm)
  · rintro _ rfl
    rw [List.take_length]
  · rintro ⟨x, q⟩ hq
    dsimp only at hq
    subst hq
    exact M.o_pure rfl
theorem travelsx_ends (R : Wn.Rv dn tr sp tw dl dh fl) {s y : Int} (h0 : 0 <= s) (h1 : s < dn.length) (h2 : 0 <= y) (h3 : y < dn.length) :
    (zam dn tr sp tw dl dh fl s y).Ends (if y ∈ Wn.P dn s then (Wn.sm (Wn.lo tr) (Wn.upto (Wn.P dn s) y), Wn.sm (Wn.hi tr) (Wn.upto (Wn.P dn s) y), 0) else (0, 0, 5)) := by
  unfold zam
  refine M.i_bind (opened_ends R) ?_
  dsimp only
  refine M.i_f rfl (M.i_bind (station_true R h0 h1) (M.i_bind (M.i_opt (fun _ => station_true R h2 h3) (fun h => by cases h)) (M.i_f rfl (M.i_bind (travels_ends R (.inr ⟨h0, h1⟩) y) ?_))))
  by_cases hy : y ∈ Wn.P dn s
  · rw [if_pos hy, if_pos hy]
    exact M.i_f rfl M.i_pure
  · rw [if_neg hy, if_neg hy]
    exact M.i_t rfl M.i_pure
theorem on_ends (l : List Int) (s : Int) : (zay l s).Ends (l.contains s) := by
  unfold zay
  refine M.i_bind (a := l.contains s) ?_ M.i_pure
  refine M.Out.ends ?_
  refine M.o_for l.length (fun i (t : Bool × Nat) => t = ((l.take i).contains s, i)) ?_ ?_ (by simp)
  · rintro i _ hi rfl
    simp only [zaT]
    refine M.o_t (decide_eq_true (by omega)) (M.o_grd ?_ (M.o_pure ?_))
    · rw [decide_eq_true (show (i : Int) < (l.length : Int) by omega)]
      simp
    · rw [List.take_succ_eq_append_getElem hi, show l.getD i 0 = l[i] from by simp [List.getD, hi]]
      congr 1
      rw [Bool.eq_iff_iff]
      rw [Bool.or_eq_true, List.contains_iff_mem, List.contains_iff_mem, List.mem_append, List.mem_singleton, beq_iff_eq]
      exact or_congr Iff.rfl ⟨Eq.symm, Eq.symm⟩
  · rintro _ rfl
    simp only [zaT]
    refine M.o_f (decide_eq_false (by omega)) (M.o_pure ?_)
    rw [List.take_length]
theorem passed_paths (R : Wn.Rv dn tr sp tw dl dh fl) {x : Int} (h0 : 0 <= x) (h1 : x < dn.length) : (M.iter (zaM dn tr sp tw dl dh fl (Wn.P dn x)) 0).Ends (.inr ()) := by
  refine M.i_for (fun i => i) (Wn.P dn x).length (fun i hi => ?_) ?_
  · simp only [zaM]
    have e : (Wn.P dn x).getD i 0 = (Wn.P dn x)[i] := by simp [List.getD, hi]
    have hm := Wn.P_mem R.nx x (.inr ⟨h0, h1⟩) _ (List.getElem_mem hi)
    rw [e]
    refine M.i_t (decide_eq_true (by omega)) (M.i_grd (decide_eq_true (by omega)) (M.i_bind (path_ends R hm.2.1 hm.2.2) ?_))
    dsimp only
    rw [Wn.P_drop R.nx x (.inr ⟨h0, h1⟩) i hi]
    exact M.i_bind (M.i_opt (fun _ => same_int _) (fun h => by cases h)) (M.i_f rfl M.i_pure)
  · simp only [zaM]
    exact M.i_f (decide_eq_false (by omega)) M.i_pure
theorem zcU (p : List UInt8) (a b c : Int) : (zbN p a b c).Ends true := by
  refine M.Out.ends ?_
  unfold zbN
  have hnew : (zbF p).Ends (0, 0) := M.i_pure
  refine M.o_bindE hnew (M.o_bind (made_out SOk.zero) ?_)
  rintro ⟨dn, tr, sp, tw, dl, dh, fl, q1, q2⟩ ⟨R, _, _⟩
  dsimp only at R ⊢
  have n1 := R.n1
  have n12 := R.n12
  refine M.o_bind (pick_num (by omega)) fun x hx => M.o_bind (pick_num (by omega)) fun y hy => M.o_bind (pick_num (by omega)) fun z hz => ?_
  have hxs : Wn.Stn dn x := .inr hx
  have hys : Wn.Stn dn y := .inr hy
  refine M.o_bindE (path_ends R hx.1 hx.2) ?_
  dsimp only
  have hpx := Wn.P_cons R.nx hx.1 hx.2
  have hl : 0 < (Wn.P dn x).length := by rw [hpx]; simp
  have hh : (Wn.P dn x).getD 0 0 = x := by rw [hpx]; rfl
  refine M.o_grd (by rw [decide_eq_true (show 0 < ((Wn.P dn x).length : Int) by omega)]; simp) (M.o_f ?_ (M.o_bindE (passed_paths R hx.1 hx.2) ?_))
  · rw [hh, show (((Wn.P dn x).length : Int) == 0) = false from beq_eq_false_iff_ne.2 (by omega)]
    simp
  dsimp only
  have bd : ∀ s t, Wn.Stn dn s -> (0 <= Wn.sm (Wn.lo tr) (Wn.upto (Wn.P dn s) t) /\ Wn.sm (Wn.lo tr) (Wn.upto (Wn.P dn s) t) <= 12000) /\ 0 <= Wn.sm (Wn.hi tr) (Wn.upto (Wn.P dn s) t) /\ Wn.sm (Wn.hi tr) (Wn.upto (Wn.P dn s) t) <= 12000 := by
    intro s t hs
    have hsh := Wn.P_short R.nx hs
    have hle : (Wn.upto (Wn.P dn s) t).length <= (Wn.P dn s).length := (List.takeWhile_sublist _).length_le
    have hb : ∀ w ∈ Wn.upto (Wn.P dn s) t, (0 <= Wn.lo tr w /\ Wn.lo tr w <= 1000) /\ 0 <= Wn.hi tr w /\ Wn.hi tr w <= 1000 := fun w hw => by
      have h1 := Wn.P_mem R.nx s hs w (Wn.upto_mem hw).1
      have h2 := R.hr (Int.toNat w) (by have := R.tl; omega)
      unfold Wn.lo Wn.hi
      omega
    have b1 := Wn.sm_bound (Wn.lo tr) _ fun w hw => (hb w hw).1
    have b2 := Wn.sm_bound (Wn.hi tr) _ fun w hw => (hb w hw).2
    omega
  have tx := travelsx_ends R hx.1 hx.2 hy.1 hy.2
  have ty := travelsx_ends R hy.1 hy.2 hz.1 hz.2
  have tz := travelsx_ends R hx.1 hx.2 hz.1 hz.2
  have ts := travelsx_ends R hx.1 hx.2 hx.1 hx.2
  rw [if_pos (Wn.P_self R.nx hx.1 hx.2), Wn.upto_self R.nx hx.1 hx.2] at ts
  have rest : (zam dn tr sp tw dl dh fl x x).bind (fun (r004, r014, r110) =>
      M.bind (M.opt ((r110 == 0) && (decide ((⟨(r004 : Int), (r014 : Int)⟩ : Span) = (⟨(0 : Int), (0 : Int)⟩ : Span)))) (za5) false) fun r23 =>
      M.pure (((r110 == 0) && (decide ((⟨(r004 : Int), (r014 : Int)⟩ : Span) = (⟨(0 : Int), (0 : Int)⟩ : Span)))) && r23)) |>.Out (fun r => r = true) := by
    refine M.o_bindE ts ?_
    dsimp only
    exact M.o_bindE (M.i_opt (fun _ => awake_ends) (fun h => by cases h)) (M.o_pure rfl)
  by_cases hxy : y ∈ Wn.P dn x
  · rw [if_pos hxy] at tx
    refine M.o_bindE tx (M.o_bindE (on_ends _ _) ?_)
    dsimp only
    refine M.o_f (by rw [List.contains_iff_mem.2 hxy]; rfl) (M.o_bindE (path_ends R hy.1 hy.2) ?_)
    dsimp only
    by_cases hyz : z ∈ Wn.P dn y
    · obtain ⟨hxz, he⟩ := Wn.upto_trans R.nx hxs hxy hyz
      rw [if_pos hyz] at ty
      rw [if_pos hxz] at tz
      refine M.o_bindE ty (M.o_bindE tz ?_)
      dsimp only
      refine M.o_bindE (M.i_opt (fun _ => on_ends _ _) (fun h => by cases h)) (M.o_bindE (M.i_opt (fun _ => on_ends _ _) (fun h => by rw [List.contains_iff_mem.2 hyz] at h; cases h)) (M.o_f ?_ (M.o_t rfl ?_)))
      · rw [List.contains_iff_mem.2 hyz, List.contains_iff_mem.2 hxz]
        rfl
      have b1 := bd x y hxs
      have b2 := bd y z hys
      refine M.o_grd (gI2 fun _ => by omega) (M.o_grd (gI2 fun _ => by omega) ?_)
      rw [he, Wn.sm_app, Wn.sm_app]
      exact M.o_bindE (M.i_opt (fun _ => awake_ends) (fun h => by simp at h)) (M.o_pure (by simp))
    · rw [if_neg hyz] at ty
      have c1 : (Wn.P dn y).contains z = false := by rw [← Bool.not_eq_true, List.contains_iff_mem]; exact hyz
      refine M.o_bindE ty ?_
      by_cases hxz : z ∈ Wn.P dn x
      · rw [if_pos hxz] at tz
        refine M.o_bindE tz ?_
        dsimp only
        refine M.o_bindE (M.i_opt (fun _ => on_ends _ _) (fun h => by cases h)) (M.o_bindE (M.i_opt (fun _ => on_ends _ _) (fun h => by rw [c1] at h; cases h)) (M.o_f ?_ (M.o_f rfl rest)))
        rw [c1, List.contains_iff_mem.2 hxz]
        rfl
      · rw [if_neg hxz] at tz
        have c2 : (Wn.P dn x).contains z = false := by rw [← Bool.not_eq_true, List.contains_iff_mem]; exact hxz
        refine M.o_bindE tz ?_
        dsimp only
        refine M.o_bindE (M.i_opt (fun _ => on_ends _ _) (fun h => by cases h)) (M.o_bindE (M.i_opt (fun _ => on_ends _ _) (fun h => by rw [c1] at h; cases h)) (M.o_f ?_ (M.o_f rfl rest)))
        rw [c1, c2]
        rfl
  · rw [if_neg hxy] at tx
    have c0 : (Wn.P dn x).contains y = false := by rw [← Bool.not_eq_true, List.contains_iff_mem]; exact hxy
    refine M.o_bindE tx (M.o_bindE (on_ends _ _) ?_)
    dsimp only
    refine M.o_f (by rw [c0]; rfl) (M.o_bindE (path_ends R hy.1 hy.2) (M.o_bindE ty (M.o_bindE tz ?_)))
    by_cases hyz : z ∈ Wn.P dn y <;> by_cases hxz : z ∈ Wn.P dn x
    · rw [if_pos hyz, if_pos hxz]
      dsimp only
      refine M.o_bindE (M.i_opt (fun _ => on_ends _ _) (fun h => by cases h)) (M.o_bindE (M.i_opt (fun _ => on_ends _ _) (fun h => by rw [List.contains_iff_mem.2 hyz] at h; cases h)) (M.o_f ?_ (M.o_f rfl rest)))
      rw [List.contains_iff_mem.2 hyz, List.contains_iff_mem.2 hxz]
      rfl
    · have c2 : (Wn.P dn x).contains z = false := by rw [← Bool.not_eq_true, List.contains_iff_mem]; exact hxz
      rw [if_pos hyz, if_neg hxz]
      dsimp only
      refine M.o_bindE (M.i_opt (fun _ => on_ends _ _) (fun h => by cases h)) (M.o_bindE (M.i_opt (fun _ => on_ends _ _) (fun h => by rw [List.contains_iff_mem.2 hyz] at h; cases h)) (M.o_f ?_ (M.o_f rfl rest)))
      rw [List.contains_iff_mem.2 hyz, c2]
      rfl
    · have c1 : (Wn.P dn y).contains z = false := by rw [← Bool.not_eq_true, List.contains_iff_mem]; exact hyz
      rw [if_neg hyz, if_pos hxz]
      dsimp only
      refine M.o_bindE (M.i_opt (fun _ => on_ends _ _) (fun h => by cases h)) (M.o_bindE (M.i_opt (fun _ => on_ends _ _) (fun h => by rw [c1] at h; cases h)) (M.o_f ?_ (M.o_f rfl rest)))
      rw [c1, List.contains_iff_mem.2 hxz]
      rfl
    · have c1 : (Wn.P dn y).contains z = false := by rw [← Bool.not_eq_true, List.contains_iff_mem]; exact hyz
      have c2 : (Wn.P dn x).contains z = false := by rw [← Bool.not_eq_true, List.contains_iff_mem]; exact hxz
      rw [if_neg hyz, if_neg hxz]
      dsimp only
      refine M.o_bindE (M.i_opt (fun _ => on_ends _ _) (fun h => by cases h)) (M.o_bindE (M.i_opt (fun _ => on_ends _ _) (fun h => by rw [c1] at h; cases h)) (M.o_f ?_ (M.o_f rfl rest)))
      rw [c1, c2]
      rfl
end Go.Proofs.Ytbaehghammbjdaa
