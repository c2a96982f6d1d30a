/- Part 5 of the texts on which the proof rests. Conditions: none. -/
import Derived.Test.YtcgalcbkkijkhaaZO4
set_option linter.unusedVariables false
set_option linter.unusedSimpArgs false
set_option linter.unusedSectionVars false
namespace Go.Proofs.Ytcgalcbkkijkhaa
open Go Go.Nm
def m_nilometerlaw10_OftenOwn_b0 (numbers : List UInt8) : (Int × Int × Int × Int × (List Pk)) -> M ((Int × Int × Int × Int × (List Pk)) ⊕ ((List Pk) × (List Pk) × Int × Int)) := fun (s, s2, day, n, l) =>
  bif decide (0 < n) then (
  M.bind (m_nilometerkit_Stream_Within numbers s s2 1 12) fun (r4, q12, q22) =>
  M.grd (decide ((-9223372036854775808 : Int) <= (day + r4)) && decide ((day + r4) <= (9223372036854775807 : Int))) <|
  M.bind (m_nilometerkit_Stream_Next numbers q12 q22 500) fun (r5, q13, q23) =>
  M.grd (decide ((l.length + ([(⟨(day + r4 : Int), (r5 : Int)⟩ : Pk)]).length) * 16 <= 140737488355328)) <|
  M.grd (decide ((-9223372036854775808 : Int) <= (n - 1)) && decide ((n - 1) <= (9223372036854775807 : Int))) <|
  M.pure (.inl (q13, q23, day + r4, n - 1, l ++ ([(⟨(day + r4 : Int), (r5 : Int)⟩ : Pk)]))))
  else (
  M.pure (.inr (l, l, s, s2)))
def m_nilometerlaw10_OftenOwn_b3 (tries : List UInt8) (l3 : List Pk) : (Int × Int × Int × (List Int)) -> M ((Int × Int × Int × (List Int)) ⊕ (Int × Int × (List Int) × (List Int))) := fun (s5, s6, i, l4) =>
  bif decide (i < (l3.length : Int)) then (
  M.grd (decide ((l4.length + ([(i : Int)]).length) * 8 <= 140737488355328)) <|
  M.bind (m_nilometerkit_Stream_Next tries s5 s6 4) fun (r9, q15, q25) =>
  M.grd (decide ((-9223372036854775808 : Int) <= (1 + r9)) && decide ((1 + r9) <= (9223372036854775807 : Int))) <|
  M.grd (decide ((-9223372036854775808 : Int) <= (i + (1 + r9))) && decide ((i + (1 + r9)) <= (9223372036854775807 : Int))) <|
  M.pure (.inl (q15, q25, i + (1 + r9), l4 ++ ([(i : Int)]))))
  else (
  M.pure (.inr (s5, s6, l4, l4)))
def m_nilometerlaw10_OftenOwn_b4 : ((List Int) × Nat) -> M (((List Int) × Nat) ⊕ ((List Int) × (List Int))) := fun (l7, m2) =>
  bif decide ((m2 : Int) < (l7.length : Int)) then (
  M.grd (decide ((m2 : Int) < (l7.length : Int))) <|
  M.pure (.inl (l7.set m2 (min (l7.getD m2 0) 2000 : Int), m2 + 1)))
  else (
  M.pure (.inr (l7, l7)))
def m_nilometerlaw10_OftenOwn_b5 (tries : List UInt8) (l3 : List Pk) (r6 : Int) (r7 : Int) (r13 : Int) (r02 : List Int) : (Int × Int × Nat) -> M ((Int × Int × Nat) ⊕ ((Int × Int) ⊕ (Int × Int))) := fun (s9, s10, k) =>
  bif decide ((k : Int) < 5) then (
  M.bind (m_nilometerkit_Stream_Next tries s9 s10 3) fun (r8, q14, q24) =>
  M.bind (M.iter (m_nilometerlaw10_OftenOwn_b3 tries l3) (q14, q24, r8, [])) fun (s7, s8, l5, l6) =>
  M.bind (m_often_Worth l3 (1 + r6) r7 l6) fun (r06, r18) =>
  bif (((r18 != 0) && (r18 != 7)) || ((r18 == 0) && (decide (r13 < r06)))) then (
  M.pure (.inr (.inl (s7, s8))))
  else (
  bif (l3.length : Int) == 0 then (
  M.pure (.inr (.inr (s7, s8))))
  else (
  M.bind (m_nilometerkit_Copy_int r02) fun r10 =>
  M.bind (m_nilometerkit_Stream_Next tries s7 s8 (r10.length : Int)) fun (r11, q16, q26) =>
  M.grd (decide ((0 : Int) <= r11) && decide (r11 < (r10.length : Int))) <|
  M.bind (m_nilometerkit_Stream_Next tries q16 q26 20) fun (r19, q17, q27) =>
  M.grd (decide ((-9223372036854775808 : Int) <= ((r10.getD (Int.toNat r11) 0) - r19)) && decide (((r10.getD (Int.toNat r11) 0) - r19) <= (9223372036854775807 : Int))) <|
  M.bind (m_nilometerkit_Stream_Next tries q17 q27 ((r10.set (Int.toNat r11) (max 0 ((r10.getD (Int.toNat r11) 0) - r19) : Int)).length : Int)) fun (r20, q18, q28) =>
  M.grd (decide ((0 : Int) <= r20) && decide (r20 < ((r10.set (Int.toNat r11) (max 0 ((r10.getD (Int.toNat r11) 0) - r19) : Int)).length : Int))) <|
  M.bind (m_nilometerkit_Stream_Next tries q18 q28 2) fun (r21, q19, q29) =>
  M.grd (decide ((-9223372036854775808 : Int) <= (((r10.set (Int.toNat r11) (max 0 ((r10.getD (Int.toNat r11) 0) - r19) : Int)).getD (Int.toNat r20) 0) + r21)) && decide ((((r10.set (Int.toNat r11) (max 0 ((r10.getD (Int.toNat r11) 0) - r19) : Int)).getD (Int.toNat r20) 0) + r21) <= (9223372036854775807 : Int))) <|
  M.bind (M.iter (m_nilometerlaw10_OftenOwn_b4) ((r10.set (Int.toNat r11) (max 0 ((r10.getD (Int.toNat r11) 0) - r19) : Int)).set (Int.toNat r20) (((r10.set (Int.toNat r11) (max 0 ((r10.getD (Int.toNat r11) 0) - r19) : Int)).getD (Int.toNat r20) 0) + r21 : Int), 0)) fun (l8, l9) =>
  M.bind (m_nilometerkit_Stream_Next tries q19 q29 9) fun (r24, q110, q210) =>
  M.grd (decide ((-9223372036854775808 : Int) <= (r13 - r24)) && decide ((r13 - r24) <= (9223372036854775807 : Int))) <|
  M.bind (m_often_Proves l3 (1 + r6) r7 (r13 - r24) l9) fun (r07, r110) =>
  bif ((r110 != 0) || (r07 && (decide ((r13 - r24) < r13)))) then (
  M.pure (.inr (.inl (q110, q210))))
  else (
  M.pure (.inl (q110, q210, k + 1))))))
  else (
  M.pure (.inr (.inr (s9, s10))))
def m_nilometerlaw10_OftenOwn (numbers : List UInt8) (tries : List UInt8) (a : Int) (b : Int) : M Bool :=
  M.bind (m_nilometerkit_New numbers) fun (r1, r2) =>
  M.bind (m_nilometerkit_New tries) fun (r12, r22) =>
  M.bind (m_nilometerkit_Stream_Next numbers r1 r2 30) fun (r3, q1, q2) =>
  M.bind (M.iter (m_nilometerlaw10_OftenOwn_b0 numbers) (q1, q2, 0, r3, [])) fun (l2, l3, s3, s4) =>
  M.bind (m_nilometerkit_Pick a 60) fun r6 =>
  M.grd (decide ((-9223372036854775808 : Int) <= (1 + r6)) && decide ((1 + r6) <= (9223372036854775807 : Int))) <|
  M.bind (m_nilometerkit_Pick b 400) fun r7 =>
  M.bind (m_often_Pick l3 (1 + r6) r7) fun (r0, r13, r23) =>
  M.bind (m_often_Dues l3 (1 + r6) r7) fun (r02, r14) =>
  M.bind (m_often_Worth l3 (1 + r6) r7 r0) fun (r03, r15) =>
  bif ((((((r23 != 0) || (r14 != 0)) || (r15 != 0)) || (r03 != r13)) || ((r02.length : Int) != (l3.length : Int))) || (decide (r13 < 0))) then (
  M.pure false)
  else (
  M.bind (m_often_Proves l3 (1 + r6) r7 r13 r02) fun (r04, r16) =>
  M.grd (decide ((-9223372036854775808 : Int) <= (r13 - 1)) && decide ((r13 - 1) <= (9223372036854775807 : Int))) <|
  M.bind (m_often_Proves l3 (1 + r6) r7 (r13 - 1) r02) fun (r05, r17) =>
  bif ((((r16 != 0) || (r17 != 0)) || (!r04)) || r05) then (
  M.pure false)
  else (
  M.bind (M.iter (m_nilometerlaw10_OftenOwn_b5 tries l3 r6 r7 r13 r02) (r12, r22, 0)) fun x_ => match x_ with
  | (.inl (s11, s12)) => (
  M.pure false)
  | (.inr (s13, s14)) => (
  M.bind (m_nilometerkit_Stream_Next tries s13 s14 9) fun (r25, q111, q211) =>
  M.grd (decide ((-9223372036854775808 : Int) <= ((1 + r6) + r25)) && decide (((1 + r6) + r25) <= (9223372036854775807 : Int))) <|
  M.bind (m_often_Pick l3 (min 60 ((1 + r6) + r25)) r7) fun (r08, r111, r26) =>
  M.bind (m_nilometerkit_Stream_Next tries q111 q211 50) fun (r27, q112, q212) =>
  M.grd (decide ((-9223372036854775808 : Int) <= (r7 + r27)) && decide ((r7 + r27) <= (9223372036854775807 : Int))) <|
  M.bind (m_often_Pick l3 (1 + r6) (r7 + r27)) fun (r09, r112, r28) =>
  M.bind (M.opt ((((r26 == 0) && (r28 == 0)) && (decide (r111 <= r13))) && (decide (r112 <= r13))) (m_nilometerlaw10_awake) false) fun r29 =>
  M.pure (((((r26 == 0) && (r28 == 0)) && (decide (r111 <= r13))) && (decide (r112 <= r13))) && r29))))
set_option maxRecDepth 100000 in
set_option maxHeartbeats 16000000 in
theorem nilometerlaw10_OftenOwn_ok {R : List Chunk} {C_numbers : Cells} {v_numbers : Value} {C_tries : Cells} {v_tries : Value} (numbers : List UInt8) (tries : List UInt8) (a : Int) (b : Int) (hC_numbers : Reads R C_numbers) (hs_numbers : Sl C_numbers v_numbers numbers) (hC_tries : Reads R C_tries) (hs_tries : Sl C_tries v_tries tries) {r : Bool} (hM : (m_nilometerlaw10_OftenOwn numbers tries a b).Ends r) (w : World) (H : St w w [] R) : Ret Try.prog 7 #[v_numbers, v_tries, I a, I b] w fun v w' => ∃ (y0 : Bool), y0 = r /\ v = B y0 /\ St w w' [] R := by
 refine ret_of_W Try.func7 rfl rfl rfl ?_
 refine W.seq ?_
 refine W.region rfl ?_
 refine s_val (x_as (v := B false) rfl) ?_
 refine s_nil ?_
 refine W.seq ?_
 refine W.region rfl ?_
 refine s_val (x_mv (v := v_numbers) rfl) ?_
 obtain ⟨r2z, hx1z, hM⟩ := M.e_bind hM
 refine s_call cf12 [v_numbers] rfl (nilometerkit_New_ok numbers (hC_numbers.app _) hs_numbers hx1z _ (St.give (T := []) H rfl)) ?_
 rintro vq w3z ⟨r1, r2, nb0_1, hr4z, hvq, H2_⟩
 subst hr4z
 subst vq
 try dsimp only at hM
 replace H : St w w3z [cBlk nb0_1 [v_numbers, I r1, I r2] 101] R := H.back H2_ rfl
 clear H2_
 refine s_val (x_mv (v := v_tries) rfl) ?_
 obtain ⟨r6z, hx5z, hM⟩ := M.e_bind hM
 refine s_call cf12 [v_tries] rfl (nilometerkit_New_ok tries (hC_tries.app _) hs_tries hx5z _ (St.give (T := [cBlk nb0_1 [v_numbers, I r1, I r2] 101]) H rfl)) ?_
 rintro vq w7z ⟨r12, r22, nb0_2, hr8z, hvq, H2_⟩
 subst hr8z
 subst vq
 try dsimp only at hM
 replace H : St w w7z [cBlk nb0_2 [v_tries, I r12, I r22] 101, cBlk nb0_1 [v_numbers, I r1, I r2] 101] R := H.back H2_ rfl
 clear H2_
 refine s_val (x_as (v := .pointer (some ⟨nb0_1, 0, none⟩)) rfl) ?_
 refine s_val (x_as (v := .pointer (some ⟨nb0_2, 0, none⟩)) rfl) ?_
 refine s_nil ?_
 refine W.seq ?_
 refine W.region rfl ?_
 refine s_val (x_as (v := .slice none 0 0) rfl) ?_
 refine s_nil ?_
 refine W.seq ?_
 refine W.region rfl ?_
 refine s_val (x_as (v := I 0) rfl) ?_
 refine s_nil ?_
 refine W.seq ?_
 refine W.seq ?_
 refine W.region rfl ?_
 refine s_val (x_mv (v := .pointer (some ⟨nb0_1, 0, none⟩)) rfl) ?_
 obtain ⟨r10z, hx9z, hM⟩ := M.e_bind hM
 refine s_call cf14 [.pointer (some ⟨nb0_1, 0, none⟩), I 30] rfl (nilometerkit_Stream_Next_ok numbers r1 r2 30 (hC_numbers.app _) hs_numbers hx9z _ (St.give (L := [cBlk nb0_1 [v_numbers, I r1, I r2] 101, cBlk nb0_2 [v_tries, I r12, I r22] 101]) (A := [cBlk nb0_1 [v_numbers, I r1, I r2] 101]) (T := [cBlk nb0_2 [v_tries, I r12, I r22] 101]) (H.pick [1, 0] (by decide) rfl) rfl)) ?_
 rintro vq w11z ⟨r3, q1, q2, hr12z, hvq, H2_⟩
 subst hr12z
 subst vq
 try dsimp only at hM
 replace H : St w w11z [cBlk nb0_1 [v_numbers, I q1, I q2] 101, cBlk nb0_2 [v_tries, I r12, I r22] 101] R := H.pick [1, 0] (by decide) rfl |>.back H2_ rfl
 clear H2_
 refine s_val (x_as (v := I r3) rfl) ?_
 refine s_nil ?_
 refine W.block ?_
 replace H : St w w11z [cOwn (α := Pk) 72 (.slice none 0 0) ([]), cBlk nb0_1 [v_numbers, I q1, I q2] 101, cBlk nb0_2 [v_tries, I r12, I r22] 101] R := H.nilOwn (α := Pk) 72
 obtain ⟨ex13z, hi14z, hk15z⟩ := M.e_bind hM
 obtain ⟨m0_, hi14z⟩ := M.e_iter hi14z
 refine W.loop (fun m σ W => ∃ (s : Int) (s2 : Int) (day : Int) (n : Int) (l : List Pk) (v_l : Value) (ρ : Env), σ = upds ρ [(2, I a), (3, I b), (9, .pointer (some ⟨nb0_1, 0, none⟩)), (10, .pointer (some ⟨nb0_2, 0, none⟩)), (11, v_l), (12, I day), (13, I n)] /\ M.iterN (m_nilometerlaw10_OftenOwn_b0 numbers) m (s, s2, day, n, l) = some ex13z /\ St w W [cOwn (α := Pk) 72 v_l l, cBlk nb0_1 [v_numbers, I s, I s2] 101, cBlk nb0_2 [v_tries, I r12, I r22] 101] R) ?_ ?_
 ·exact ⟨_, q1, q2, 0, r3, [], (.slice none 0 0), _, upds_of _ _ ⟨rfl, rfl, rfl, rfl, rfl, rfl, rfl, trivial⟩, hi14z, H⟩
 ·rintro m18z σ w16z ⟨s, s2, day, n, l, v_l, ρ, rfl, hI17z, H⟩
  obtain ⟨m19z, lt20z, x21z, hM, hN22z⟩ := M.e_iterN hI17z
  simp only [m_nilometerlaw10_OftenOwn_b0] at hM
  clear hI17z
  refine W.seq ?_
  refine W.seq ?_
  refine W.region rfl ?_
  refine s_val (x_mv (v := I n) rfl) ?_
  refine s_val (x_cmp (kd := .i64) (a := n) (b := 0) (r := decide (0 < n)) rfl rfl rfl) ?_
  refine s_nil ?_
  refine W.cond (decide (0 < n)) rfl (fun c23z => ?_) (fun c23z => ?_)
  ·replace hM := M.e_t hM c23z
   simp only [decide_eq_true_eq, decide_eq_false_iff_not, beq_iff_eq, bne_iff_ne, beq_eq_false_iff_ne, bne_eq_false_iff_eq, ne_eq, Decidable.not_not] at c23z
   refine W.skip ?_
   refine W.seq ?_
   refine W.block ?_
   refine W.seq ?_
   refine W.region rfl ?_
   refine s_val (x_mv (v := I day) rfl) ?_
   refine s_val (x_mv (v := .pointer (some ⟨nb0_1, 0, none⟩)) rfl) ?_
   obtain ⟨r25z, hx24z, hM⟩ := M.e_bind hM
   refine s_call cf44 [.pointer (some ⟨nb0_1, 0, none⟩), I 1, I 12] rfl (nilometerkit_Stream_Within_ok numbers s s2 1 12 (hC_numbers.app _) hs_numbers hx24z _ (St.give (L := [cBlk nb0_1 [v_numbers, I s, I s2] 101, cOwn (α := Pk) 72 v_l l, cBlk nb0_2 [v_tries, I r12, I r22] 101]) (A := [cBlk nb0_1 [v_numbers, I s, I s2] 101]) (T := [cOwn (α := Pk) 72 v_l l, cBlk nb0_2 [v_tries, I r12, I r22] 101]) (H.pick [1, 0, 2] (by decide) rfl) rfl)) ?_
   rintro vq w26z ⟨r4, q12, q22, hr27z, hvq, H2_⟩
   subst hr27z
   subst vq
   try dsimp only at hM
   replace H : St w w26z [cBlk nb0_1 [v_numbers, I q12, I q22] 101, cOwn (α := Pk) 72 v_l l, cBlk nb0_2 [v_tries, I r12, I r22] 101] R := H.pick [1, 0, 2] (by decide) rfl |>.back H2_ rfl
   clear H2_
   obtain ⟨sd28z, hM⟩ := M.e_grd hM
   simp only [Bool.and_eq_true, decide_eq_true_eq] at sd28z
   refine s_val (x_ari (a := day) (b := r4) (r := day + r4) rfl rfl rfl (by omega)) ?_
   refine s_val (x_as (v := I (day + r4)) rfl) ?_
   refine s_nil ?_
   refine W.region rfl ?_
   refine s_val (x_mv (v := v_l) rfl) ?_
   refine s_val (x_mv (v := I (day + r4)) rfl) ?_
   refine s_val (x_mv (v := .pointer (some ⟨nb0_1, 0, none⟩)) rfl) ?_
   obtain ⟨r30z, hx29z, hM⟩ := M.e_bind hM
   refine s_call cf14 [.pointer (some ⟨nb0_1, 0, none⟩), I 500] rfl (nilometerkit_Stream_Next_ok numbers q12 q22 500 (hC_numbers.app _) hs_numbers hx29z _ (St.give (T := [cOwn (α := Pk) 72 v_l l, cBlk nb0_2 [v_tries, I r12, I r22] 101]) H rfl)) ?_
   rintro vq w31z ⟨r5, q13, q23, hr32z, hvq, H2_⟩
   subst hr32z
   subst vq
   try dsimp only at hM
   replace H : St w w31z [cBlk nb0_1 [v_numbers, I q13, I q23] 101, cOwn (α := Pk) 72 v_l l, cBlk nb0_2 [v_tries, I r12, I r22] 101] R := H.back H2_ rfl
   clear H2_
   refine s_val (x_bld (ps := [(0, I (day + r4)), (1, I r5)]) (zs := [I 0, I 0]) (L' := [I (day + r4), I r5]) rfl Try.underlying72 Al72 rfl (Bd72 Try.underlying72) (.cons (cs := [I (day + r4)]) rfl rfl rfl rfl rfl <| .cons (cs := [I r5]) rfl rfl rfl rfl rfl <| .nil)) ?_
   refine t_bs (α := Pk) T69 [.agg #[I (day + r4), I r5]] [(⟨(day + r4 : Int), (r5 : Int)⟩ : Pk)] H rfl (.cons rfl (Flat.rep_enc _ (⟨(day + r4 : Int), (r5 : Int)⟩ : Pk)) <| .nil) rfl rfl rfl ?_
   intro v33z w34z H
   obtain ⟨sd35z, hM⟩ := M.e_grd hM
   simp only [Bool.and_eq_true, decide_eq_true_eq] at sd35z
   refine t_app (α := Pk) (k := 2) (l := l) (l2 := [(⟨(day + r4 : Int), (r5 : Int)⟩ : Pk)]) (l' := l ++ ([(⟨(day + r4 : Int), (r5 : Int)⟩ : Pk)])) (vy := v33z) T69 rfl H rfl rfl rfl (ownSl (H.get (k := 0) rfl)) (ownLe _ (H.get (k := 0) rfl)) (rfl) (by first | omega | (simp only [List.length_nil] at *; omega)) ?_
   intro v36z w37z H
   replace H : St w w37z [cOwn (α := Pk) 72 v33z ([(⟨(day + r4 : Int), (r5 : Int)⟩ : Pk)]), cBlk nb0_1 [v_numbers, I q13, I q23] 101, cOwn (α := Pk) 72 v36z (l ++ ([(⟨(day + r4 : Int), (r5 : Int)⟩ : Pk)])), cBlk nb0_2 [v_tries, I r12, I r22] 101] R := H
   refine s_val (x_as (v := v36z) rfl) ?_
   refine s_nil ?_
   refine W.region rfl ?_
   refine s_val (x_mv (v := I n) rfl) ?_
   obtain ⟨sd38z, hM⟩ := M.e_grd hM
   simp only [Bool.and_eq_true, decide_eq_true_eq] at sd38z
   refine s_val (x_ari (a := n) (b := 1) (r := n - 1) rfl rfl rfl (by omega)) ?_
   refine s_val (x_as (v := I (n - 1)) rfl) ?_
   refine s_nil ?_
   exact ⟨m19z, lt20z, q13, q23, day + r4, n - 1, l ++ ([(⟨(day + r4 : Int), (r5 : Int)⟩ : Pk)]), v36z, _, upds_of _ _ ⟨rfl, rfl, rfl, rfl, rfl, rfl, rfl, trivial⟩, M.e_inl hM hN22z, (H.pick [2, 1, 3] (by decide) rfl)⟩
  ·replace hM := M.e_f hM c23z
   simp only [decide_eq_true_eq, decide_eq_false_iff_not, beq_iff_eq, bne_iff_ne, beq_eq_false_iff_ne, bne_eq_false_iff_eq, ne_eq, Decidable.not_not] at c23z
   refine W.exit ?_
   have hX39z := M.e_inr hM hN22z
   subst hX39z
   replace hM := hk15z
   try dsimp only at hM
   refine W.seq ?_
   refine W.region rfl ?_
   refine s_val (x_mv (v := I a) rfl) ?_
   obtain ⟨r41z, hx40z, hM⟩ := M.e_bind hM
   refine s_call cf13 [I a, I 60] rfl (nilometerkit_Pick_ok a 60 hx40z _ (St.give (T := [cOwn (α := Pk) 72 v_l l, cBlk nb0_1 [v_numbers, I s, I s2] 101, cBlk nb0_2 [v_tries, I r12, I r22] 101]) H rfl)) ?_
   rintro vq w42z ⟨r6, hr43z, hvq, H2_⟩
   subst hr43z
   subst vq
   try dsimp only at hM
   replace H : St w w42z [cOwn (α := Pk) 72 v_l l, cBlk nb0_1 [v_numbers, I s, I s2] 101, cBlk nb0_2 [v_tries, I r12, I r22] 101] R := H.back H2_ rfl
   clear H2_
   obtain ⟨sd44z, hM⟩ := M.e_grd hM
   simp only [Bool.and_eq_true, decide_eq_true_eq] at sd44z
   refine s_val (x_ari (a := 1) (b := r6) (r := 1 + r6) rfl rfl rfl (by omega)) ?_
   refine s_val (x_mv (v := I b) rfl) ?_
   obtain ⟨r46z, hx45z, hM⟩ := M.e_bind hM
   refine s_call cf13 [I b, I 400] rfl (nilometerkit_Pick_ok b 400 hx45z _ (St.give (T := [cOwn (α := Pk) 72 v_l l, cBlk nb0_1 [v_numbers, I s, I s2] 101, cBlk nb0_2 [v_tries, I r12, I r22] 101]) H rfl)) ?_
   rintro vq w47z ⟨r7, hr48z, hvq, H2_⟩
   subst hr48z
   subst vq
   try dsimp only at hM
   replace H : St w w47z [cOwn (α := Pk) 72 v_l l, cBlk nb0_1 [v_numbers, I s, I s2] 101, cBlk nb0_2 [v_tries, I r12, I r22] 101] R := H.back H2_ rfl
   clear H2_
   refine s_val (x_as (v := I (1 + r6)) rfl) ?_
   refine s_val (x_as (v := I r7) rfl) ?_
   refine s_nil ?_
   refine W.seq ?_
   refine W.region rfl ?_
   refine s_val (x_mv (v := v_l) rfl) ?_
   refine s_val (x_mv (v := I (1 + r6)) rfl) ?_
   refine s_val (x_mv (v := I r7) rfl) ?_
   obtain ⟨r50z, hx49z, hM⟩ := M.e_bind hM
   refine s_call cf37 [v_l, I (1 + r6), I r7] rfl (often_Pick_ok l (1 + r6) r7 (Reads.of (k := 0) rfl ownLe) (ownSl (H.get (k := 0) rfl)) hx49z _ (St.give (T := [cOwn (α := Pk) 72 v_l l, cBlk nb0_1 [v_numbers, I s, I s2] 101, cBlk nb0_2 [v_tries, I r12, I r22] 101]) H rfl)) ?_
   rintro vq w51z ⟨r0, r13, r23, u0_6, hr52z, hvq, H2_⟩
   subst hr52z
   subst vq
   try dsimp only at hM
   replace H : St w w51z [cOwn (α := Int) 3 u0_6 r0, cOwn (α := Pk) 72 v_l l, cBlk nb0_1 [v_numbers, I s, I s2] 101, cBlk nb0_2 [v_tries, I r12, I r22] 101] R := H.back H2_ rfl
   clear H2_
   refine s_val (x_mv (v := .tuple #[u0_6, I r13, I r23]) rfl) ?_
   refine s_val (x_ext (vs := [u0_6, I r13, I r23]) (v := u0_6) rfl rfl) ?_
   refine s_val (x_ext (vs := [u0_6, I r13, I r23]) (v := I r13) rfl rfl) ?_
   refine s_val (x_ext (vs := [u0_6, I r13, I r23]) (v := I r23) rfl rfl) ?_
   refine s_val (x_as (v := u0_6) rfl) ?_
   refine s_val (x_as (v := I r13) rfl) ?_
   refine s_val (x_as (v := I r23) rfl) ?_
   refine s_nil ?_
   refine W.seq ?_
   refine W.region rfl ?_
   refine s_val (x_mv (v := v_l) rfl) ?_
   refine s_val (x_mv (v := I (1 + r6)) rfl) ?_
   refine s_val (x_mv (v := I r7) rfl) ?_
   obtain ⟨r54z, hx53z, hM⟩ := M.e_bind hM
   refine s_call cf39 [v_l, I (1 + r6), I r7] rfl (often_Dues_ok l (1 + r6) r7 (Reads.of (k := 1) rfl ownLe) (ownSl (H.get (k := 1) rfl)) hx53z _ (St.give (T := [cOwn (α := Int) 3 u0_6 r0, cOwn (α := Pk) 72 v_l l, cBlk nb0_1 [v_numbers, I s, I s2] 101, cBlk nb0_2 [v_tries, I r12, I r22] 101]) H rfl)) ?_
   rintro vq w55z ⟨r02, r14, u0_7, hr56z, hvq, H2_⟩
   subst hr56z
   subst vq
   try dsimp only at hM
   replace H : St w w55z [cOwn (α := Int) 3 u0_7 r02, cOwn (α := Int) 3 u0_6 r0, cOwn (α := Pk) 72 v_l l, cBlk nb0_1 [v_numbers, I s, I s2] 101, cBlk nb0_2 [v_tries, I r12, I r22] 101] R := H.back H2_ rfl
   clear H2_
   refine s_val (x_mv (v := .tuple #[u0_7, I r14]) rfl) ?_
   refine s_val (x_ext (vs := [u0_7, I r14]) (v := u0_7) rfl rfl) ?_
   refine s_val (x_ext (vs := [u0_7, I r14]) (v := I r14) rfl rfl) ?_
   refine s_val (x_as (v := u0_7) rfl) ?_
   refine s_val (x_as (v := I r14) rfl) ?_
   refine s_nil ?_
   refine W.seq ?_
   refine W.region rfl ?_
   refine s_val (x_mv (v := v_l) rfl) ?_
   refine s_val (x_mv (v := I (1 + r6)) rfl) ?_
   refine s_val (x_mv (v := I r7) rfl) ?_
   refine s_val (x_mv (v := u0_6) rfl) ?_
   obtain ⟨r58z, hx57z, hM⟩ := M.e_bind hM
   refine s_call cf35 [v_l, I (1 + r6), I r7, u0_6] rfl (often_Worth_ok l (1 + r6) r7 r0 (Reads.of (k := 2) rfl ownLe) (ownSl (H.get (k := 2) rfl)) (Reads.of (k := 1) rfl ownLe) (ownSl (H.get (k := 1) rfl)) hx57z _ (St.give (T := [cOwn (α := Int) 3 u0_7 r02, cOwn (α := Int) 3 u0_6 r0, cOwn (α := Pk) 72 v_l l, cBlk nb0_1 [v_numbers, I s, I s2] 101, cBlk nb0_2 [v_tries, I r12, I r22] 101]) H rfl)) ?_
   rintro vq w59z ⟨r03, r15, hr60z, hvq, H2_⟩
   subst hr60z
   subst vq
   try dsimp only at hM
   replace H : St w w59z [cOwn (α := Int) 3 u0_7 r02, cOwn (α := Int) 3 u0_6 r0, cOwn (α := Pk) 72 v_l l, cBlk nb0_1 [v_numbers, I s, I s2] 101, cBlk nb0_2 [v_tries, I r12, I r22] 101] R := H.back H2_ rfl
   clear H2_
   refine s_val (x_mv (v := .tuple #[I r03, I r15]) rfl) ?_
   refine s_val (x_ext (vs := [I r03, I r15]) (v := I r03) rfl rfl) ?_
   refine s_val (x_ext (vs := [I r03, I r15]) (v := I r15) rfl rfl) ?_
   refine s_val (x_as (v := I r03) rfl) ?_
   refine s_val (x_as (v := I r15) rfl) ?_
   refine s_nil ?_
   refine W.seq ?_
   refine W.seq ?_
   refine W.region rfl ?_
   refine s_val (x_mv (v := I r23) rfl) ?_
   refine s_val (x_cmp (kd := .i64) (a := r23) (b := 0) (r := r23 != 0) rfl rfl rfl) ?_
   refine s_val (x_mv (v := B (r23 != 0)) rfl) ?_
   refine g_val (!(r23 != 0)) (gy_f rfl) (fun hg => x_mv (v := I r14) rfl) ?_
   refine g_val (!(r23 != 0)) (gy_f rfl) (fun hg => x_cmp (kd := .i64) (a := r14) (b := 0) (r := r14 != 0) (gd_of (c := !(r23 != 0)) hg (I r14)) rfl rfl) ?_
   refine s_val (x_por (b := r23 != 0) (r := r14 != 0) rfl rfl (fun hb => gd_of (c := !(r23 != 0)) (by first | exact hb | (rw [hb]; rfl) | simp_all) (B (r14 != 0)))) ?_
   refine s_val (x_mv (v := B ((r23 != 0) || (r14 != 0))) rfl) ?_
   refine g_val (!((r23 != 0) || (r14 != 0))) (gy_f rfl) (fun hg => x_mv (v := I r15) rfl) ?_
   refine g_val (!((r23 != 0) || (r14 != 0))) (gy_f rfl) (fun hg => x_cmp (kd := .i64) (a := r15) (b := 0) (r := r15 != 0) (gd_of (c := !((r23 != 0) || (r14 != 0))) hg (I r15)) rfl rfl) ?_
   refine s_val (x_por (b := ((r23 != 0) || (r14 != 0))) (r := r15 != 0) rfl rfl (fun hb => gd_of (c := !((r23 != 0) || (r14 != 0))) (by first | exact hb | (rw [hb]; rfl) | simp_all) (B (r15 != 0)))) ?_
   refine s_val (x_mv (v := B (((r23 != 0) || (r14 != 0)) || (r15 != 0))) rfl) ?_
   refine g_val (!(((r23 != 0) || (r14 != 0)) || (r15 != 0))) (gy_f rfl) (fun hg => x_mv (v := I r03) rfl) ?_
   refine g_val (!(((r23 != 0) || (r14 != 0)) || (r15 != 0))) (gy_f rfl) (fun hg => x_mv (v := I r13) rfl) ?_
   refine g_val (!(((r23 != 0) || (r14 != 0)) || (r15 != 0))) (gy_f rfl) (fun hg => x_cmp (kd := .i64) (a := r03) (b := r13) (r := r03 != r13) (gd_of (c := !(((r23 != 0) || (r14 != 0)) || (r15 != 0))) hg (I r03)) (gd_of (c := !(((r23 != 0) || (r14 != 0)) || (r15 != 0))) hg (I r13)) rfl) ?_
   refine s_val (x_por (b := (((r23 != 0) || (r14 != 0)) || (r15 != 0))) (r := r03 != r13) rfl rfl (fun hb => gd_of (c := !(((r23 != 0) || (r14 != 0)) || (r15 != 0))) (by first | exact hb | (rw [hb]; rfl) | simp_all) (B (r03 != r13)))) ?_
   refine s_val (x_mv (v := B ((((r23 != 0) || (r14 != 0)) || (r15 != 0)) || (r03 != r13))) rfl) ?_
   refine g_val (!((((r23 != 0) || (r14 != 0)) || (r15 != 0)) || (r03 != r13))) (gy_f rfl) (fun hg => x_mv (v := u0_7) rfl) ?_
   refine g_val (!((((r23 != 0) || (r14 != 0)) || (r15 != 0)) || (r03 != r13))) (gy_f rfl) (fun hg => x_lenS T27.und (gd_of (c := !((((r23 != 0) || (r14 != 0)) || (r15 != 0)) || (r03 != r13))) hg (u0_7)) (ownSl (H.get (k := 0) rfl))) ?_
   refine g_val (!((((r23 != 0) || (r14 != 0)) || (r15 != 0)) || (r03 != r13))) (gy_f rfl) (fun hg => x_mv (v := v_l) rfl) ?_
   refine g_val (!((((r23 != 0) || (r14 != 0)) || (r15 != 0)) || (r03 != r13))) (gy_f rfl) (fun hg => x_lenS T69.und (gd_of (c := !((((r23 != 0) || (r14 != 0)) || (r15 != 0)) || (r03 != r13))) hg (v_l)) (ownSl (H.get (k := 2) rfl))) ?_
   refine g_val (!((((r23 != 0) || (r14 != 0)) || (r15 != 0)) || (r03 != r13))) (gy_f rfl) (fun hg => x_cmp (kd := .i64) (a := (r02.length : Int)) (b := (l.length : Int)) (r := (r02.length : Int) != (l.length : Int)) (gd_of (c := !((((r23 != 0) || (r14 != 0)) || (r15 != 0)) || (r03 != r13))) hg (I (r02.length : Int))) (gd_of (c := !((((r23 != 0) || (r14 != 0)) || (r15 != 0)) || (r03 != r13))) hg (I (l.length : Int))) rfl) ?_
   refine s_val (x_por (b := ((((r23 != 0) || (r14 != 0)) || (r15 != 0)) || (r03 != r13))) (r := (r02.length : Int) != (l.length : Int)) rfl rfl (fun hb => gd_of (c := !((((r23 != 0) || (r14 != 0)) || (r15 != 0)) || (r03 != r13))) (by first | exact hb | (rw [hb]; rfl) | simp_all) (B ((r02.length : Int) != (l.length : Int))))) ?_
   refine s_val (x_mv (v := B (((((r23 != 0) || (r14 != 0)) || (r15 != 0)) || (r03 != r13)) || ((r02.length : Int) != (l.length : Int)))) rfl) ?_
   refine g_val (!(((((r23 != 0) || (r14 != 0)) || (r15 != 0)) || (r03 != r13)) || ((r02.length : Int) != (l.length : Int)))) (gy_f rfl) (fun hg => x_mv (v := I r13) rfl) ?_
   refine g_val (!(((((r23 != 0) || (r14 != 0)) || (r15 != 0)) || (r03 != r13)) || ((r02.length : Int) != (l.length : Int)))) (gy_f rfl) (fun hg => x_cmp (kd := .i64) (a := r13) (b := 0) (r := decide (r13 < 0)) (gd_of (c := !(((((r23 != 0) || (r14 != 0)) || (r15 != 0)) || (r03 != r13)) || ((r02.length : Int) != (l.length : Int)))) hg (I r13)) rfl rfl) ?_
   refine s_val (x_por (b := (((((r23 != 0) || (r14 != 0)) || (r15 != 0)) || (r03 != r13)) || ((r02.length : Int) != (l.length : Int)))) (r := decide (r13 < 0)) rfl rfl (fun hb => gd_of (c := !(((((r23 != 0) || (r14 != 0)) || (r15 != 0)) || (r03 != r13)) || ((r02.length : Int) != (l.length : Int)))) (by first | exact hb | (rw [hb]; rfl) | simp_all) (B (decide (r13 < 0))))) ?_
   refine s_nil ?_
   refine W.cond ((((((r23 != 0) || (r14 != 0)) || (r15 != 0)) || (r03 != r13)) || ((r02.length : Int) != (l.length : Int))) || (decide (r13 < 0))) rfl (fun c63z => ?_) (fun c63z => ?_)
   ·replace hM := M.e_t hM c63z
    refine W.seq ?_
    refine W.region rfl ?_
    refine s_val (x_as (v := B false) rfl) ?_
    refine s_nil ?_
    refine W.ret ?_
    have hr_ := M.e_pure hM
    exact ⟨_, resE_tmp rfl, ⟨false, hr_, rfl, (H.pick [] (by decide) rfl)⟩⟩
   ·replace hM := M.e_f hM c63z
    refine W.skip ?_
    refine W.seq ?_
    refine W.region rfl ?_
    refine s_val (x_mv (v := v_l) rfl) ?_
    refine s_val (x_mv (v := I (1 + r6)) rfl) ?_
    refine s_val (x_mv (v := I r7) rfl) ?_
    refine s_val (x_mv (v := I r13) rfl) ?_
    refine s_val (x_mv (v := u0_7) rfl) ?_
    obtain ⟨r65z, hx64z, hM⟩ := M.e_bind hM
    refine s_call cf41 [v_l, I (1 + r6), I r7, I r13, u0_7] rfl (often_Proves_ok l (1 + r6) r7 r13 r02 (Reads.of (k := 2) rfl ownLe) (ownSl (H.get (k := 2) rfl)) (Reads.of (k := 0) rfl ownLe) (ownSl (H.get (k := 0) rfl)) hx64z _ (St.give (T := [cOwn (α := Int) 3 u0_7 r02, cOwn (α := Int) 3 u0_6 r0, cOwn (α := Pk) 72 v_l l, cBlk nb0_1 [v_numbers, I s, I s2] 101, cBlk nb0_2 [v_tries, I r12, I r22] 101]) H rfl)) ?_
    rintro vq w66z ⟨r04, r16, hr67z, hvq, H2_⟩
    subst hr67z
    subst vq
    try dsimp only at hM
    replace H : St w w66z [cOwn (α := Int) 3 u0_7 r02, cOwn (α := Int) 3 u0_6 r0, cOwn (α := Pk) 72 v_l l, cBlk nb0_1 [v_numbers, I s, I s2] 101, cBlk nb0_2 [v_tries, I r12, I r22] 101] R := H.back H2_ rfl
    clear H2_
    refine s_val (x_mv (v := .tuple #[B r04, I r16]) rfl) ?_
    refine s_val (x_ext (vs := [B r04, I r16]) (v := B r04) rfl rfl) ?_
    refine s_val (x_ext (vs := [B r04, I r16]) (v := I r16) rfl rfl) ?_
    refine s_val (x_as (v := B r04) rfl) ?_
    refine s_val (x_as (v := I r16) rfl) ?_
    refine s_nil ?_
    refine W.seq ?_
    refine W.region rfl ?_
    refine s_val (x_mv (v := v_l) rfl) ?_
    refine s_val (x_mv (v := I (1 + r6)) rfl) ?_
    refine s_val (x_mv (v := I r7) rfl) ?_
    refine s_val (x_mv (v := I r13) rfl) ?_
    obtain ⟨sd68z, hM⟩ := M.e_grd hM
    simp only [Bool.and_eq_true, decide_eq_true_eq] at sd68z
    refine s_val (x_ari (a := r13) (b := 1) (r := r13 - 1) rfl rfl rfl (by omega)) ?_
    refine s_val (x_mv (v := u0_7) rfl) ?_
    obtain ⟨r70z, hx69z, hM⟩ := M.e_bind hM
    refine s_call cf41 [v_l, I (1 + r6), I r7, I (r13 - 1), u0_7] rfl (often_Proves_ok l (1 + r6) r7 (r13 - 1) r02 (Reads.of (k := 2) rfl ownLe) (ownSl (H.get (k := 2) rfl)) (Reads.of (k := 0) rfl ownLe) (ownSl (H.get (k := 0) rfl)) hx69z _ (St.give (T := [cOwn (α := Int) 3 u0_7 r02, cOwn (α := Int) 3 u0_6 r0, cOwn (α := Pk) 72 v_l l, cBlk nb0_1 [v_numbers, I s, I s2] 101, cBlk nb0_2 [v_tries, I r12, I r22] 101]) H rfl)) ?_
    rintro vq w71z ⟨r05, r17, hr72z, hvq, H2_⟩
    subst hr72z
    subst vq
    try dsimp only at hM
    replace H : St w w71z [cOwn (α := Int) 3 u0_7 r02, cOwn (α := Int) 3 u0_6 r0, cOwn (α := Pk) 72 v_l l, cBlk nb0_1 [v_numbers, I s, I s2] 101, cBlk nb0_2 [v_tries, I r12, I r22] 101] R := H.back H2_ rfl
    clear H2_
    refine s_val (x_mv (v := .tuple #[B r05, I r17]) rfl) ?_
    refine s_val (x_ext (vs := [B r05, I r17]) (v := B r05) rfl rfl) ?_
    refine s_val (x_ext (vs := [B r05, I r17]) (v := I r17) rfl rfl) ?_
    refine s_val (x_as (v := B r05) rfl) ?_
    refine s_val (x_as (v := I r17) rfl) ?_
    refine s_nil ?_
    refine W.seq ?_
    refine W.seq ?_
    refine W.region rfl ?_
    refine s_val (x_mv (v := I r16) rfl) ?_
    refine s_val (x_cmp (kd := .i64) (a := r16) (b := 0) (r := r16 != 0) rfl rfl rfl) ?_
    refine s_val (x_mv (v := B (r16 != 0)) rfl) ?_
    refine g_val (!(r16 != 0)) (gy_f rfl) (fun hg => x_mv (v := I r17) rfl) ?_
    refine g_val (!(r16 != 0)) (gy_f rfl) (fun hg => x_cmp (kd := .i64) (a := r17) (b := 0) (r := r17 != 0) (gd_of (c := !(r16 != 0)) hg (I r17)) rfl rfl) ?_
    refine s_val (x_por (b := r16 != 0) (r := r17 != 0) rfl rfl (fun hb => gd_of (c := !(r16 != 0)) (by first | exact hb | (rw [hb]; rfl) | simp_all) (B (r17 != 0)))) ?_
    refine s_val (x_mv (v := B ((r16 != 0) || (r17 != 0))) rfl) ?_
    refine g_val (!((r16 != 0) || (r17 != 0))) (gy_f rfl) (fun hg => x_mv (v := B r04) rfl) ?_
    refine g_val (!((r16 != 0) || (r17 != 0))) (gy_f rfl) (fun hg => x_not (b := r04) (gd_of (c := !((r16 != 0) || (r17 != 0))) hg (B r04))) ?_
    refine s_val (x_por (b := ((r16 != 0) || (r17 != 0))) (r := !r04) rfl rfl (fun hb => gd_of (c := !((r16 != 0) || (r17 != 0))) (by first | exact hb | (rw [hb]; rfl) | simp_all) (B (!r04)))) ?_
    refine s_val (x_mv (v := B (((r16 != 0) || (r17 != 0)) || (!r04))) rfl) ?_
    refine g_val (!(((r16 != 0) || (r17 != 0)) || (!r04))) (gy_f rfl) (fun hg => x_mv (v := B r05) rfl) ?_
    refine s_val (x_por (b := (((r16 != 0) || (r17 != 0)) || (!r04))) (r := r05) rfl rfl (fun hb => gd_of (c := !(((r16 != 0) || (r17 != 0)) || (!r04))) (by first | exact hb | (rw [hb]; rfl) | simp_all) (B r05))) ?_
    refine s_nil ?_
    refine W.cond ((((r16 != 0) || (r17 != 0)) || (!r04)) || r05) rfl (fun c73z => ?_) (fun c73z => ?_)
    ·replace hM := M.e_t hM c73z
     refine W.seq ?_
     refine W.region rfl ?_
     refine s_val (x_as (v := B false) rfl) ?_
     refine s_nil ?_
     refine W.ret ?_
     have hr_ := M.e_pure hM
     exact ⟨_, resE_tmp rfl, ⟨false, hr_, rfl, (H.pick [] (by decide) rfl)⟩⟩
    ·replace hM := M.e_f hM c73z
     refine W.skip ?_
     refine W.seq ?_
     refine W.seq ?_
     refine W.region rfl ?_
     refine s_val (x_as (v := I 0) rfl) ?_
     refine s_nil ?_
     refine W.block ?_
     obtain ⟨ex74z, hi75z, hk76z⟩ := M.e_bind hM
     obtain ⟨m0_, hi75z⟩ := M.e_iter hi75z
     refine W.loop (fun m σ W => ∃ (s9 : Int) (s10 : Int) (k : Nat) (ρ : Env), σ = upds ρ [(10, .pointer (some ⟨nb0_2, 0, none⟩)), (11, v_l), (14, I (1 + r6)), (15, I r7), (17, I r13), (19, u0_7), (25, I (k : Int))] /\ M.iterN (m_nilometerlaw10_OftenOwn_b5 tries l r6 r7 r13 r02) m (s9, s10, k) = some ex74z /\ St w W [cOwn (α := Int) 3 u0_7 r02, cOwn (α := Int) 3 u0_6 r0, cOwn (α := Pk) 72 v_l l, cBlk nb0_1 [v_numbers, I s, I s2] 101, cBlk nb0_2 [v_tries, I s9, I s10] 101] R) ?_ ?_
     ·exact ⟨_, r12, r22, 0, _, upds_of _ _ ⟨rfl, rfl, rfl, rfl, rfl, rfl, rfl, trivial⟩, hi75z, H⟩
     ·rintro m79z σ w77z ⟨s9, s10, k, ρ, rfl, hI78z, H⟩
      obtain ⟨m80z, lt81z, x82z, hM, hN83z⟩ := M.e_iterN hI78z
      simp only [m_nilometerlaw10_OftenOwn_b5] at hM
      clear hI78z
      refine W.seq ?_
      refine W.seq ?_
      refine W.region rfl ?_
      refine s_val (x_mv (v := I (k : Int)) rfl) ?_
      refine s_val (x_cmp (kd := .i64) (a := (k : Int)) (b := 5) (r := decide ((k : Int) < 5)) rfl rfl rfl) ?_
      refine s_nil ?_
      refine W.cond (decide ((k : Int) < 5)) rfl (fun c84z => ?_) (fun c84z => ?_)
      ·replace hM := M.e_t hM c84z
       simp only [decide_eq_true_eq, decide_eq_false_iff_not, beq_iff_eq, bne_iff_ne, beq_eq_false_iff_ne, bne_eq_false_iff_eq, ne_eq, Decidable.not_not] at c84z
       refine W.skip ?_
       refine W.seq ?_
       refine W.block ?_
       refine W.seq ?_
       refine W.region rfl ?_
       refine s_val (x_as (v := .slice none 0 0) rfl) ?_
       refine s_nil ?_
       refine W.seq ?_
       refine W.seq ?_
       refine W.region rfl ?_
       refine s_val (x_mv (v := .pointer (some ⟨nb0_2, 0, none⟩)) rfl) ?_
       obtain ⟨r86z, hx85z, hM⟩ := M.e_bind hM
       refine s_call cf14 [.pointer (some ⟨nb0_2, 0, none⟩), I 3] rfl (nilometerkit_Stream_Next_ok tries s9 s10 3 (hC_tries.app _) hs_tries hx85z _ (St.give (L := [cBlk nb0_2 [v_tries, I s9, I s10] 101, cOwn (α := Int) 3 u0_7 r02, cOwn (α := Int) 3 u0_6 r0, cOwn (α := Pk) 72 v_l l, cBlk nb0_1 [v_numbers, I s, I s2] 101]) (A := [cBlk nb0_2 [v_tries, I s9, I s10] 101]) (T := [cOwn (α := Int) 3 u0_7 r02, cOwn (α := Int) 3 u0_6 r0, cOwn (α := Pk) 72 v_l l, cBlk nb0_1 [v_numbers, I s, I s2] 101]) (H.pick [4, 0, 1, 2, 3] (by decide) rfl) rfl)) ?_
       rintro vq w87z ⟨r8, q14, q24, hr88z, hvq, H2_⟩
       subst hr88z
       subst vq
       try dsimp only at hM
       replace H : St w w87z [cBlk nb0_2 [v_tries, I q14, I q24] 101, cOwn (α := Int) 3 u0_7 r02, cOwn (α := Int) 3 u0_6 r0, cOwn (α := Pk) 72 v_l l, cBlk nb0_1 [v_numbers, I s, I s2] 101] R := H.pick [4, 0, 1, 2, 3] (by decide) rfl |>.back H2_ rfl
       clear H2_
       refine s_val (x_as (v := I r8) rfl) ?_
       refine s_nil ?_
       refine W.block ?_
       replace H : St w w87z [cOwn (α := Int) 3 (.slice none 0 0) ([]), cBlk nb0_2 [v_tries, I q14, I q24] 101, cOwn (α := Int) 3 u0_7 r02, cOwn (α := Int) 3 u0_6 r0, cOwn (α := Pk) 72 v_l l, cBlk nb0_1 [v_numbers, I s, I s2] 101] R := H.nilOwn (α := Int) 3
       obtain ⟨ex89z, hi90z, hk91z⟩ := M.e_bind hM
       obtain ⟨m0_, hi90z⟩ := M.e_iter hi90z
       refine W.loop (fun m σ W => ∃ (s5 : Int) (s6 : Int) (i : Int) (l4 : List Int) (v_l4 : Value) (ρ : Env), σ = upds ρ [(10, .pointer (some ⟨nb0_2, 0, none⟩)), (11, v_l), (14, I (1 + r6)), (15, I r7), (17, I r13), (19, u0_7), (25, I (k : Int)), (26, v_l4), (27, I i)] /\ M.iterN (m_nilometerlaw10_OftenOwn_b3 tries l) m (s5, s6, i, l4) = some ex89z /\ St w W [cOwn (α := Int) 3 v_l4 l4, cBlk nb0_2 [v_tries, I s5, I s6] 101, cOwn (α := Int) 3 u0_7 r02, cOwn (α := Int) 3 u0_6 r0, cOwn (α := Pk) 72 v_l l, cBlk nb0_1 [v_numbers, I s, I s2] 101] R) ?_ ?_
       ·exact ⟨_, q14, q24, r8, [], (.slice none 0 0), _, upds_of _ _ ⟨rfl, rfl, rfl, rfl, rfl, rfl, rfl, rfl, rfl, trivial⟩, hi90z, H⟩
       ·rintro m94z σ w92z ⟨s5, s6, i, l4, v_l4, ρ, rfl, hI93z, H⟩
        obtain ⟨m95z, lt96z, x97z, hM, hN98z⟩ := M.e_iterN hI93z
        simp only [m_nilometerlaw10_OftenOwn_b3] at hM
        clear hI93z
        refine W.seq ?_
        refine W.seq ?_
        refine W.region rfl ?_
        refine s_val (x_mv (v := I i) rfl) ?_
        refine s_val (x_mv (v := v_l) rfl) ?_
        have hl99z := ((ownSl (H.get (k := 4) rfl))).len_le
        refine s_val (x_lenS T69.und rfl (ownSl (H.get (k := 4) rfl))) ?_
        refine s_val (x_cmp (kd := .i64) (a := i) (b := (l.length : Int)) (r := decide (i < (l.length : Int))) rfl rfl rfl) ?_
        refine s_nil ?_
        refine W.cond (decide (i < (l.length : Int))) rfl (fun c100z => ?_) (fun c100z => ?_)
        ·replace hM := M.e_t hM c100z
         simp only [decide_eq_true_eq, decide_eq_false_iff_not, beq_iff_eq, bne_iff_ne, beq_eq_false_iff_ne, bne_eq_false_iff_eq, ne_eq, Decidable.not_not] at c100z
         refine W.skip ?_
         refine W.seq ?_
         refine W.block ?_
         refine W.region rfl ?_
         refine s_val (x_mv (v := v_l4) rfl) ?_
         refine s_val (x_mv (v := I i) rfl) ?_
         refine t_bs (α := Int) T27 [I i] [(i : Int)] H rfl (.cons rfl (Flat.rep_enc _ (i : Int)) <| .nil) rfl rfl rfl ?_
         intro v101z w102z H
         obtain ⟨sd103z, hM⟩ := M.e_grd hM
         simp only [Bool.and_eq_true, decide_eq_true_eq] at sd103z
         refine t_app (α := Int) (k := 1) (l := l4) (l2 := [(i : Int)]) (l' := l4 ++ ([(i : Int)])) (vy := v101z) T27 rfl H rfl rfl rfl (ownSl (H.get (k := 0) rfl)) (ownLe _ (H.get (k := 0) rfl)) (rfl) (by first | omega | (simp only [List.length_nil] at *; omega)) ?_
         intro v104z w105z H
         replace H : St w w105z [cOwn (α := Int) 3 v101z ([(i : Int)]), cOwn (α := Int) 3 v104z (l4 ++ ([(i : Int)])), cBlk nb0_2 [v_tries, I s5, I s6] 101, cOwn (α := Int) 3 u0_7 r02, cOwn (α := Int) 3 u0_6 r0, cOwn (α := Pk) 72 v_l l, cBlk nb0_1 [v_numbers, I s, I s2] 101] R := H
         refine s_val (x_as (v := v104z) rfl) ?_
         refine s_nil ?_
         refine W.region rfl ?_
         refine s_val (x_mv (v := I i) rfl) ?_
         refine s_val (x_mv (v := .pointer (some ⟨nb0_2, 0, none⟩)) rfl) ?_
         obtain ⟨r107z, hx106z, hM⟩ := M.e_bind hM
         refine s_call cf14 [.pointer (some ⟨nb0_2, 0, none⟩), I 4] rfl (nilometerkit_Stream_Next_ok tries s5 s6 4 (hC_tries.app _) hs_tries hx106z _ (St.give (L := [cBlk nb0_2 [v_tries, I s5, I s6] 101, cOwn (α := Int) 3 v101z ([(i : Int)]), cOwn (α := Int) 3 v104z (l4 ++ ([(i : Int)])), cOwn (α := Int) 3 u0_7 r02, cOwn (α := Int) 3 u0_6 r0, cOwn (α := Pk) 72 v_l l, cBlk nb0_1 [v_numbers, I s, I s2] 101]) (A := [cBlk nb0_2 [v_tries, I s5, I s6] 101]) (T := [cOwn (α := Int) 3 v101z ([(i : Int)]), cOwn (α := Int) 3 v104z (l4 ++ ([(i : Int)])), cOwn (α := Int) 3 u0_7 r02, cOwn (α := Int) 3 u0_6 r0, cOwn (α := Pk) 72 v_l l, cBlk nb0_1 [v_numbers, I s, I s2] 101]) (H.pick [2, 0, 1, 3, 4, 5, 6] (by decide) rfl) rfl)) ?_
         rintro vq w108z ⟨r9, q15, q25, hr109z, hvq, H2_⟩
         subst hr109z
         subst vq
         try dsimp only at hM
         replace H : St w w108z [cBlk nb0_2 [v_tries, I q15, I q25] 101, cOwn (α := Int) 3 v101z ([(i : Int)]), cOwn (α := Int) 3 v104z (l4 ++ ([(i : Int)])), cOwn (α := Int) 3 u0_7 r02, cOwn (α := Int) 3 u0_6 r0, cOwn (α := Pk) 72 v_l l, cBlk nb0_1 [v_numbers, I s, I s2] 101] R := H.pick [2, 0, 1, 3, 4, 5, 6] (by decide) rfl |>.back H2_ rfl
         clear H2_
         obtain ⟨sd110z, hM⟩ := M.e_grd hM
         simp only [Bool.and_eq_true, decide_eq_true_eq] at sd110z
         refine s_val (x_ari (a := 1) (b := r9) (r := 1 + r9) rfl rfl rfl (by omega)) ?_
         obtain ⟨sd111z, hM⟩ := M.e_grd hM
         simp only [Bool.and_eq_true, decide_eq_true_eq] at sd111z
         refine s_val (x_ari (a := i) (b := 1 + r9) (r := i + (1 + r9)) rfl rfl rfl (by omega)) ?_
         refine s_val (x_as (v := I (i + (1 + r9))) rfl) ?_
         refine s_nil ?_
         exact ⟨m95z, lt96z, q15, q25, i + (1 + r9), l4 ++ ([(i : Int)]), v104z, _, upds_of _ _ ⟨rfl, rfl, rfl, rfl, rfl, rfl, rfl, rfl, rfl, trivial⟩, M.e_inl hM hN98z, (H.pick [2, 0, 3, 4, 5, 6] (by decide) rfl)⟩
        ·replace hM := M.e_f hM c100z
         simp only [decide_eq_true_eq, decide_eq_false_iff_not, beq_iff_eq, bne_iff_ne, beq_eq_false_iff_ne, bne_eq_false_iff_eq, ne_eq, Decidable.not_not] at c100z
         refine W.exit ?_
         have hX112z := M.e_inr hM hN98z
         subst hX112z
         replace hM := hk91z
         try dsimp only at hM
         refine W.seq ?_
         refine W.seq ?_
         refine W.region rfl ?_
         refine s_val (x_mv (v := v_l) rfl) ?_
         refine s_val (x_mv (v := I (1 + r6)) rfl) ?_
         refine s_val (x_mv (v := I r7) rfl) ?_
         refine s_val (x_mv (v := v_l4) rfl) ?_
         obtain ⟨r114z, hx113z, hM⟩ := M.e_bind hM
         refine s_call cf35 [v_l, I (1 + r6), I r7, v_l4] rfl (often_Worth_ok l (1 + r6) r7 l4 (Reads.of (k := 4) rfl ownLe) (ownSl (H.get (k := 4) rfl)) (Reads.of (k := 0) rfl ownLe) (ownSl (H.get (k := 0) rfl)) hx113z _ (St.give (T := [cOwn (α := Int) 3 v_l4 l4, cBlk nb0_2 [v_tries, I s5, I s6] 101, cOwn (α := Int) 3 u0_7 r02, cOwn (α := Int) 3 u0_6 r0, cOwn (α := Pk) 72 v_l l, cBlk nb0_1 [v_numbers, I s, I s2] 101]) H rfl)) ?_
         rintro vq w115z ⟨r06, r18, hr116z, hvq, H2_⟩
         subst hr116z
         subst vq
         try dsimp only at hM
         replace H : St w w115z [cOwn (α := Int) 3 v_l4 l4, cBlk nb0_2 [v_tries, I s5, I s6] 101, cOwn (α := Int) 3 u0_7 r02, cOwn (α := Int) 3 u0_6 r0, cOwn (α := Pk) 72 v_l l, cBlk nb0_1 [v_numbers, I s, I s2] 101] R := H.back H2_ rfl
         clear H2_
         refine s_val (x_mv (v := .tuple #[I r06, I r18]) rfl) ?_
         refine s_val (x_ext (vs := [I r06, I r18]) (v := I r06) rfl rfl) ?_
         refine s_val (x_ext (vs := [I r06, I r18]) (v := I r18) rfl rfl) ?_
         refine s_val (x_as (v := I r06) rfl) ?_
         refine s_val (x_as (v := I r18) rfl) ?_
         refine s_nil ?_
         refine W.seq ?_
         refine W.region rfl ?_
         refine s_val (x_mv (v := I r18) rfl) ?_
         refine s_val (x_cmp (kd := .i64) (a := r18) (b := 0) (r := r18 != 0) rfl rfl rfl) ?_
         refine s_val (x_mv (v := B (r18 != 0)) rfl) ?_
         refine g_val (r18 != 0) (gy_t rfl) (fun hg => x_mv (v := I r18) rfl) ?_
         refine g_val (r18 != 0) (gy_t rfl) (fun hg => x_cmp (kd := .i64) (a := r18) (b := 7) (r := r18 != 7) (gd_of (c := r18 != 0) hg (I r18)) rfl rfl) ?_
         refine s_val (x_pand (b := r18 != 0) (r := r18 != 7) rfl (fun hb => gd_of (c := r18 != 0) (by first | exact hb | (rw [hb]; rfl) | simp_all) (B (r18 != 7))) rfl) ?_
         refine s_val (x_mv (v := B ((r18 != 0) && (r18 != 7))) rfl) ?_
         refine g_val (!((r18 != 0) && (r18 != 7))) (gy_f rfl) (fun hg => x_mv (v := I r18) rfl) ?_
         refine g_val (!((r18 != 0) && (r18 != 7))) (gy_f rfl) (fun hg => x_cmp (kd := .i64) (a := r18) (b := 0) (r := r18 == 0) (gd_of (c := !((r18 != 0) && (r18 != 7))) hg (I r18)) rfl rfl) ?_
         refine g_val (!((r18 != 0) && (r18 != 7))) (gy_f rfl) (fun hg => x_mv (v := B (r18 == 0)) (gd_of (c := !((r18 != 0) && (r18 != 7))) hg (B (r18 == 0)))) ?_
         refine g_val ((!((r18 != 0) && (r18 != 7))) && (r18 == 0)) (gy_gt rfl rfl) (fun hg => x_mv (v := I r06) rfl) ?_
         refine g_val ((!((r18 != 0) && (r18 != 7))) && (r18 == 0)) (gy_gt rfl rfl) (fun hg => x_mv (v := I r13) rfl) ?_
         refine g_val ((!((r18 != 0) && (r18 != 7))) && (r18 == 0)) (gy_gt rfl rfl) (fun hg => x_cmp (kd := .i64) (a := r06) (b := r13) (r := decide (r13 < r06)) (gd_of (c := ((!((r18 != 0) && (r18 != 7))) && (r18 == 0))) hg (I r06)) (gd_of (c := ((!((r18 != 0) && (r18 != 7))) && (r18 == 0))) hg (I r13)) rfl) ?_
         refine g_val (!((r18 != 0) && (r18 != 7))) (gy_f rfl) (fun hg => x_pand (b := r18 == 0) (r := decide (r13 < r06)) (gd_of (c := !((r18 != 0) && (r18 != 7))) hg (B (r18 == 0))) (fun hb => gd_of (c := ((!((r18 != 0) && (r18 != 7))) && (r18 == 0))) (by first | exact hb | (rw [hb]; rfl) | simp_all) (B (decide (r13 < r06)))) rfl) ?_
         refine s_val (x_por (b := ((r18 != 0) && (r18 != 7))) (r := ((r18 == 0) && (decide (r13 < r06)))) rfl rfl (fun hb => gd_of (c := !((r18 != 0) && (r18 != 7))) (by first | exact hb | (rw [hb]; rfl) | simp_all) (B ((r18 == 0) && (decide (r13 < r06)))))) ?_
         refine s_nil ?_
         refine W.cond (((r18 != 0) && (r18 != 7)) || ((r18 == 0) && (decide (r13 < r06)))) rfl (fun c117z => ?_) (fun c117z => ?_)
         ·replace hM := M.e_t hM c117z
          refine W.seq ?_
          refine W.region rfl ?_
          refine s_val (x_as (v := B false) rfl) ?_
          refine s_nil ?_
          refine W.ret ?_
          have hX118z := M.e_inr hM hN83z
          subst hX118z
          replace hM := hk76z
          try dsimp only at hM
          have hr_ := M.e_pure hM
          exact ⟨_, resE_tmp rfl, ⟨false, hr_, rfl, (H.pick [] (by decide) rfl)⟩⟩
         ·replace hM := M.e_f hM c117z
          refine W.skip ?_
          refine W.seq ?_
          refine W.seq ?_
          refine W.region rfl ?_
          refine s_val (x_mv (v := v_l) rfl) ?_
          have hl119z := ((ownSl (H.get (k := 4) rfl))).len_le
          refine s_val (x_lenS T69.und rfl (ownSl (H.get (k := 4) rfl))) ?_
          refine s_val (x_cmp (kd := .i64) (a := (l.length : Int)) (b := 0) (r := (l.length : Int) == 0) rfl rfl rfl) ?_
          refine s_nil ?_
          refine W.cond ((l.length : Int) == 0) rfl (fun c120z => ?_) (fun c120z => ?_)
          ·replace hM := M.e_t hM c120z
           simp only [decide_eq_true_eq, decide_eq_false_iff_not, beq_iff_eq, bne_iff_ne, beq_eq_false_iff_ne, bne_eq_false_iff_eq, ne_eq, Decidable.not_not] at c120z
           refine W.exit ?_
           have hX121z := M.e_inr hM hN83z
           subst hX121z
           replace hM := hk76z
           try dsimp only at hM
           refine W.seq ?_
           refine W.region rfl ?_
           refine s_val (x_mv (v := v_l) rfl) ?_
           refine s_val (x_mv (v := I (1 + r6)) rfl) ?_
           refine s_val (x_mv (v := .pointer (some ⟨nb0_2, 0, none⟩)) rfl) ?_
           obtain ⟨r123z, hx122z, hM⟩ := M.e_bind hM
           refine s_call cf14 [.pointer (some ⟨nb0_2, 0, none⟩), I 9] rfl (nilometerkit_Stream_Next_ok tries s5 s6 9 (hC_tries.app _) hs_tries hx122z _ (St.give (L := [cBlk nb0_2 [v_tries, I s5, I s6] 101, cOwn (α := Int) 3 v_l4 l4, cOwn (α := Int) 3 u0_7 r02, cOwn (α := Int) 3 u0_6 r0, cOwn (α := Pk) 72 v_l l, cBlk nb0_1 [v_numbers, I s, I s2] 101]) (A := [cBlk nb0_2 [v_tries, I s5, I s6] 101]) (T := [cOwn (α := Int) 3 v_l4 l4, cOwn (α := Int) 3 u0_7 r02, cOwn (α := Int) 3 u0_6 r0, cOwn (α := Pk) 72 v_l l, cBlk nb0_1 [v_numbers, I s, I s2] 101]) (H.pick [1, 0, 2, 3, 4, 5] (by decide) rfl) rfl)) ?_
           rintro vq w124z ⟨r25, q111, q211, hr125z, hvq, H2_⟩
           subst hr125z
           subst vq
           try dsimp only at hM
           replace H : St w w124z [cBlk nb0_2 [v_tries, I q111, I q211] 101, cOwn (α := Int) 3 v_l4 l4, cOwn (α := Int) 3 u0_7 r02, cOwn (α := Int) 3 u0_6 r0, cOwn (α := Pk) 72 v_l l, cBlk nb0_1 [v_numbers, I s, I s2] 101] R := H.pick [1, 0, 2, 3, 4, 5] (by decide) rfl |>.back H2_ rfl
           clear H2_
           obtain ⟨sd126z, hM⟩ := M.e_grd hM
           simp only [Bool.and_eq_true, decide_eq_true_eq] at sd126z
           refine s_val (x_ari (a := 1 + r6) (b := r25) (r := (1 + r6) + r25) rfl rfl rfl (by omega)) ?_
           refine s_val (x_min (kd := .i64) (a := 60) (b := (1 + r6) + r25) rfl rfl) ?_
           refine s_val (x_mv (v := I r7) rfl) ?_
           obtain ⟨r128z, hx127z, hM⟩ := M.e_bind hM
           refine s_call cf37 [v_l, I (min 60 ((1 + r6) + r25)), I r7] rfl (often_Pick_ok l (min 60 ((1 + r6) + r25)) r7 (Reads.of (k := 4) rfl ownLe) (ownSl (H.get (k := 4) rfl)) hx127z _ (St.give (T := [cBlk nb0_2 [v_tries, I q111, I q211] 101, cOwn (α := Int) 3 v_l4 l4, cOwn (α := Int) 3 u0_7 r02, cOwn (α := Int) 3 u0_6 r0, cOwn (α := Pk) 72 v_l l, cBlk nb0_1 [v_numbers, I s, I s2] 101]) H rfl)) ?_
           rintro vq w129z ⟨r08, r111, r26, u0_12, hr130z, hvq, H2_⟩
           subst hr130z
           subst vq
           try dsimp only at hM
           replace H : St w w129z [cOwn (α := Int) 3 u0_12 r08, cBlk nb0_2 [v_tries, I q111, I q211] 101, cOwn (α := Int) 3 v_l4 l4, cOwn (α := Int) 3 u0_7 r02, cOwn (α := Int) 3 u0_6 r0, cOwn (α := Pk) 72 v_l l, cBlk nb0_1 [v_numbers, I s, I s2] 101] R := H.back H2_ rfl
           clear H2_
           refine s_val (x_mv (v := .tuple #[u0_12, I r111, I r26]) rfl) ?_
           refine s_val (x_ext (vs := [u0_12, I r111, I r26]) (v := u0_12) rfl rfl) ?_
           refine s_val (x_ext (vs := [u0_12, I r111, I r26]) (v := I r111) rfl rfl) ?_
           refine s_val (x_ext (vs := [u0_12, I r111, I r26]) (v := I r26) rfl rfl) ?_
           refine s_val (x_as (v := u0_12) rfl) ?_
           refine s_val (x_as (v := I r111) rfl) ?_
           refine s_val (x_as (v := I r26) rfl) ?_
           refine s_nil ?_
           refine W.seq ?_
           refine W.region rfl ?_
           refine s_val (x_mv (v := v_l) rfl) ?_
           refine s_val (x_mv (v := I (1 + r6)) rfl) ?_
           refine s_val (x_mv (v := I r7) rfl) ?_
           refine s_val (x_mv (v := .pointer (some ⟨nb0_2, 0, none⟩)) rfl) ?_
           obtain ⟨r132z, hx131z, hM⟩ := M.e_bind hM
           refine s_call cf14 [.pointer (some ⟨nb0_2, 0, none⟩), I 50] rfl (nilometerkit_Stream_Next_ok tries q111 q211 50 (hC_tries.app _) hs_tries hx131z _ (St.give (L := [cBlk nb0_2 [v_tries, I q111, I q211] 101, cOwn (α := Int) 3 u0_12 r08, cOwn (α := Int) 3 v_l4 l4, cOwn (α := Int) 3 u0_7 r02, cOwn (α := Int) 3 u0_6 r0, cOwn (α := Pk) 72 v_l l, cBlk nb0_1 [v_numbers, I s, I s2] 101]) (A := [cBlk nb0_2 [v_tries, I q111, I q211] 101]) (T := [cOwn (α := Int) 3 u0_12 r08, cOwn (α := Int) 3 v_l4 l4, cOwn (α := Int) 3 u0_7 r02, cOwn (α := Int) 3 u0_6 r0, cOwn (α := Pk) 72 v_l l, cBlk nb0_1 [v_numbers, I s, I s2] 101]) (H.pick [1, 0, 2, 3, 4, 5, 6] (by decide) rfl) rfl)) ?_
           rintro vq w133z ⟨r27, q112, q212, hr134z, hvq, H2_⟩
           subst hr134z
           subst vq
           try dsimp only at hM
           replace H : St w w133z [cBlk nb0_2 [v_tries, I q112, I q212] 101, cOwn (α := Int) 3 u0_12 r08, cOwn (α := Int) 3 v_l4 l4, cOwn (α := Int) 3 u0_7 r02, cOwn (α := Int) 3 u0_6 r0, cOwn (α := Pk) 72 v_l l, cBlk nb0_1 [v_numbers, I s, I s2] 101] R := H.pick [1, 0, 2, 3, 4, 5, 6] (by decide) rfl |>.back H2_ rfl
           clear H2_
           obtain ⟨sd135z, hM⟩ := M.e_grd hM
           simp only [Bool.and_eq_true, decide_eq_true_eq] at sd135z
           refine s_val (x_ari (a := r7) (b := r27) (r := r7 + r27) rfl rfl rfl (by omega)) ?_
           obtain ⟨r137z, hx136z, hM⟩ := M.e_bind hM
           refine s_call cf37 [v_l, I (1 + r6), I (r7 + r27)] rfl (often_Pick_ok l (1 + r6) (r7 + r27) (Reads.of (k := 5) rfl ownLe) (ownSl (H.get (k := 5) rfl)) hx136z _ (St.give (T := [cBlk nb0_2 [v_tries, I q112, I q212] 101, cOwn (α := Int) 3 u0_12 r08, cOwn (α := Int) 3 v_l4 l4, cOwn (α := Int) 3 u0_7 r02, cOwn (α := Int) 3 u0_6 r0, cOwn (α := Pk) 72 v_l l, cBlk nb0_1 [v_numbers, I s, I s2] 101]) H rfl)) ?_
           rintro vq w138z ⟨r09, r112, r28, u0_13, hr139z, hvq, H2_⟩
           subst hr139z
           subst vq
           try dsimp only at hM
           replace H : St w w138z [cOwn (α := Int) 3 u0_13 r09, cBlk nb0_2 [v_tries, I q112, I q212] 101, cOwn (α := Int) 3 u0_12 r08, cOwn (α := Int) 3 v_l4 l4, cOwn (α := Int) 3 u0_7 r02, cOwn (α := Int) 3 u0_6 r0, cOwn (α := Pk) 72 v_l l, cBlk nb0_1 [v_numbers, I s, I s2] 101] R := H.back H2_ rfl
           clear H2_
           refine s_val (x_mv (v := .tuple #[u0_13, I r112, I r28]) rfl) ?_
           refine s_val (x_ext (vs := [u0_13, I r112, I r28]) (v := u0_13) rfl rfl) ?_
           refine s_val (x_ext (vs := [u0_13, I r112, I r28]) (v := I r112) rfl rfl) ?_
           refine s_val (x_ext (vs := [u0_13, I r112, I r28]) (v := I r28) rfl rfl) ?_
           refine s_val (x_as (v := u0_13) rfl) ?_
           refine s_val (x_as (v := I r112) rfl) ?_
           refine s_val (x_as (v := I r28) rfl) ?_
           refine s_nil ?_
           refine W.seq ?_
           refine W.region rfl ?_
           refine s_val (x_mv (v := I r26) rfl) ?_
           refine s_val (x_cmp (kd := .i64) (a := r26) (b := 0) (r := r26 == 0) rfl rfl rfl) ?_
           refine s_val (x_mv (v := B (r26 == 0)) rfl) ?_
           refine g_val (r26 == 0) (gy_t rfl) (fun hg => x_mv (v := I r28) rfl) ?_
           refine g_val (r26 == 0) (gy_t rfl) (fun hg => x_cmp (kd := .i64) (a := r28) (b := 0) (r := r28 == 0) (gd_of (c := r26 == 0) hg (I r28)) rfl rfl) ?_
           refine s_val (x_pand (b := r26 == 0) (r := r28 == 0) rfl (fun hb => gd_of (c := r26 == 0) (by first | exact hb | (rw [hb]; rfl) | simp_all) (B (r28 == 0))) rfl) ?_
           refine s_val (x_mv (v := B ((r26 == 0) && (r28 == 0))) rfl) ?_
           refine g_val ((r26 == 0) && (r28 == 0)) (gy_t rfl) (fun hg => x_mv (v := I r111) rfl) ?_
           refine g_val ((r26 == 0) && (r28 == 0)) (gy_t rfl) (fun hg => x_mv (v := I r13) rfl) ?_
           refine g_val ((r26 == 0) && (r28 == 0)) (gy_t rfl) (fun hg => x_cmp (kd := .i64) (a := r111) (b := r13) (r := decide (r111 <= r13)) (gd_of (c := ((r26 == 0) && (r28 == 0))) hg (I r111)) (gd_of (c := ((r26 == 0) && (r28 == 0))) hg (I r13)) rfl) ?_
           refine s_val (x_pand (b := ((r26 == 0) && (r28 == 0))) (r := decide (r111 <= r13)) rfl (fun hb => gd_of (c := ((r26 == 0) && (r28 == 0))) (by first | exact hb | (rw [hb]; rfl) | simp_all) (B (decide (r111 <= r13)))) rfl) ?_
           refine s_val (x_mv (v := B (((r26 == 0) && (r28 == 0)) && (decide (r111 <= r13)))) rfl) ?_
           refine g_val (((r26 == 0) && (r28 == 0)) && (decide (r111 <= r13))) (gy_t rfl) (fun hg => x_mv (v := I r112) rfl) ?_
           refine g_val (((r26 == 0) && (r28 == 0)) && (decide (r111 <= r13))) (gy_t rfl) (fun hg => x_mv (v := I r13) rfl) ?_
           refine g_val (((r26 == 0) && (r28 == 0)) && (decide (r111 <= r13))) (gy_t rfl) (fun hg => x_cmp (kd := .i64) (a := r112) (b := r13) (r := decide (r112 <= r13)) (gd_of (c := (((r26 == 0) && (r28 == 0)) && (decide (r111 <= r13)))) hg (I r112)) (gd_of (c := (((r26 == 0) && (r28 == 0)) && (decide (r111 <= r13)))) hg (I r13)) rfl) ?_
           refine s_val (x_pand (b := (((r26 == 0) && (r28 == 0)) && (decide (r111 <= r13)))) (r := decide (r112 <= r13)) rfl (fun hb => gd_of (c := (((r26 == 0) && (r28 == 0)) && (decide (r111 <= r13)))) (by first | exact hb | (rw [hb]; rfl) | simp_all) (B (decide (r112 <= r13)))) rfl) ?_
           refine s_val (x_mv (v := B ((((r26 == 0) && (r28 == 0)) && (decide (r111 <= r13))) && (decide (r112 <= r13)))) rfl) ?_
           obtain ⟨r29, hx140z, hM⟩ := M.e_bind hM
           refine t_gcall ((((r26 == 0) && (r28 == 0)) && (decide (r111 <= r13))) && (decide (r112 <= r13))) (gy_t rfl) cf18 (B r29) (fun _ => []) (fun _ => rfl) H (fun hg => (nilometerlaw10_awake_ok (M.e_opt hx140z hg) _ (H.give (A := []) rfl)).mono fun v_ w_ ⟨y_, hr_, hv_, H_⟩ => by subst hr_; exact ⟨hv_, H.via H_⟩) ?_
           intro w141z H
           refine s_val (x_pand (b := ((((r26 == 0) && (r28 == 0)) && (decide (r111 <= r13))) && (decide (r112 <= r13)))) (r := r29) rfl (fun hb => gd_of (c := ((((r26 == 0) && (r28 == 0)) && (decide (r111 <= r13))) && (decide (r112 <= r13)))) (by first | exact hb | (rw [hb]; rfl) | simp_all) (B r29)) rfl) ?_
           refine s_val (x_as (v := B (((((r26 == 0) && (r28 == 0)) && (decide (r111 <= r13))) && (decide (r112 <= r13))) && r29)) rfl) ?_
           refine s_nil ?_
           refine W.ret ?_
           have hr_ := M.e_pure hM
           exact ⟨_, resE_tmp rfl, ⟨(((((r26 == 0) && (r28 == 0)) && (decide (r111 <= r13))) && (decide (r112 <= r13))) && r29), hr_, rfl, (H.pick [] (by decide) rfl)⟩⟩
          ·replace hM := M.e_f hM c120z
           simp only [decide_eq_true_eq, decide_eq_false_iff_not, beq_iff_eq, bne_iff_ne, beq_eq_false_iff_ne, bne_eq_false_iff_eq, ne_eq, Decidable.not_not] at c120z
           refine W.skip ?_
           refine W.seq ?_
           refine W.region rfl ?_
           refine s_val (x_mv (v := u0_7) rfl) ?_
           obtain ⟨r143z, hx142z, hM⟩ := M.e_bind hM
           refine s_call cf31 [u0_7] rfl (nilometerkit_Copy_int_ok r02 (Reads.of (k := 2) rfl ownLe) (ownSl (H.get (k := 2) rfl)) hx142z _ (St.give (T := [cOwn (α := Int) 3 v_l4 l4, cBlk nb0_2 [v_tries, I s5, I s6] 101, cOwn (α := Int) 3 u0_7 r02, cOwn (α := Int) 3 u0_6 r0, cOwn (α := Pk) 72 v_l l, cBlk nb0_1 [v_numbers, I s, I s2] 101]) H rfl)) ?_
           rintro vq w144z ⟨r10, u0_11, hr145z, hvq, H2_⟩
           subst hr145z
           subst vq
           try dsimp only at hM
           replace H : St w w144z [cOwn (α := Int) 3 u0_11 r10, cOwn (α := Int) 3 v_l4 l4, cBlk nb0_2 [v_tries, I s5, I s6] 101, cOwn (α := Int) 3 u0_7 r02, cOwn (α := Int) 3 u0_6 r0, cOwn (α := Pk) 72 v_l l, cBlk nb0_1 [v_numbers, I s, I s2] 101] R := H.back H2_ rfl
           clear H2_
           refine s_val (x_as (v := u0_11) rfl) ?_
           refine s_nil ?_
           refine W.seq ?_
           refine W.region rfl ?_
           refine s_val (x_mv (v := .pointer (some ⟨nb0_2, 0, none⟩)) rfl) ?_
           refine s_val (x_mv (v := u0_11) rfl) ?_
           have hl146z := ((ownSl (H.get (k := 0) rfl))).len_le
           refine s_val (x_lenS T27.und rfl (ownSl (H.get (k := 0) rfl))) ?_
           obtain ⟨r148z, hx147z, hM⟩ := M.e_bind hM
           refine s_call cf14 [.pointer (some ⟨nb0_2, 0, none⟩), I (r10.length : Int)] rfl (nilometerkit_Stream_Next_ok tries s5 s6 (r10.length : Int) (hC_tries.app _) hs_tries hx147z _ (St.give (L := [cBlk nb0_2 [v_tries, I s5, I s6] 101, cOwn (α := Int) 3 u0_11 r10, cOwn (α := Int) 3 v_l4 l4, cOwn (α := Int) 3 u0_7 r02, cOwn (α := Int) 3 u0_6 r0, cOwn (α := Pk) 72 v_l l, cBlk nb0_1 [v_numbers, I s, I s2] 101]) (A := [cBlk nb0_2 [v_tries, I s5, I s6] 101]) (T := [cOwn (α := Int) 3 u0_11 r10, cOwn (α := Int) 3 v_l4 l4, cOwn (α := Int) 3 u0_7 r02, cOwn (α := Int) 3 u0_6 r0, cOwn (α := Pk) 72 v_l l, cBlk nb0_1 [v_numbers, I s, I s2] 101]) (H.pick [2, 0, 1, 3, 4, 5, 6] (by decide) rfl) rfl)) ?_
           rintro vq w149z ⟨r11, q16, q26, hr150z, hvq, H2_⟩
           subst hr150z
           subst vq
           try dsimp only at hM
           replace H : St w w149z [cBlk nb0_2 [v_tries, I q16, I q26] 101, cOwn (α := Int) 3 u0_11 r10, cOwn (α := Int) 3 v_l4 l4, cOwn (α := Int) 3 u0_7 r02, cOwn (α := Int) 3 u0_6 r0, cOwn (α := Pk) 72 v_l l, cBlk nb0_1 [v_numbers, I s, I s2] 101] R := H.pick [2, 0, 1, 3, 4, 5, 6] (by decide) rfl |>.back H2_ rfl
           clear H2_
           refine s_val (x_as (v := I r11) rfl) ?_
           refine s_nil ?_
           refine W.seq ?_
           refine W.drawT (fun W => St w W [cOwn (α := Int) 3 v_l4 l4, cOwn (α := Int) 3 u0_7 r02, cOwn (α := Int) 3 u0_6 r0, cOwn (α := Pk) 72 v_l l, cBlk nb0_1 [v_numbers, I s, I s2] 101] R) (.q 0 (.q 1 (.q 2 (.q 3 (.q 6 (.l2 4 (.l2 5 (.l 7 (.q 8 (.q 9 (.l 10 (.l 11 .nil))))) 7 (.l 5 (.q 8 (.q 9 (.l 10 (.l 11 .nil)))))) 7 (.l 4 (.l 5 (.q 8 (.q 9 (.l 10 (.l 11 .nil)))))))))))) mixed (by decide +kernel) rfl ?_
           intro w151z hx_
           replace H : St w w151z [cBlk nb0_2 [v_tries, I q16, I q26] 101, cOwn (α := Int) 3 u0_11 r10, cOwn (α := Int) 3 v_l4 l4, cOwn (α := Int) 3 u0_7 r02, cOwn (α := Int) 3 u0_6 r0, cOwn (α := Pk) 72 v_l l, cBlk nb0_1 [v_numbers, I s, I s2] 101] R := H.ext hx_
           clear hx_
           refine ⟨(H.pick [2, 3, 4, 5, 6] (by decide) rfl), ?_⟩
           refine t_q rfl (fun w' H => x_mv (v := u0_11) rfl) ?_
           refine t_q rfl (fun w' H => x_mv (v := I r11) rfl) ?_
           refine t_q rfl (fun w' H => x_mv (v := u0_11) rfl) ?_
           refine t_q rfl (fun w' H => x_mv (v := I r11) rfl) ?_
           refine t_q rfl (fun w' H => x_mv (v := .pointer (some ⟨nb0_2, 0, none⟩)) rfl) ?_
           obtain ⟨sd164z, hM⟩ := M.e_grd hM
           simp only [Bool.and_eq_true, decide_eq_true_eq] at sd164z
           refine t_l2 rfl rfl ?_ ?_
           ·skip
            refine s_val (x_ix (a := u0_11) (b := I r11) (v := vat u0_11 1 (Int.toNat r11)) rfl rfl (Sl.ix (α := Int) T27.und T27.size (ownSl (H.get (k := 1) rfl)) (by omega) (by omega))) ?_
            have hvc_q165z := Sl.cells (ownSl (H.get (k := 1) rfl))
            have hvo_q165z := Sl.oc (ownSl (H.get (k := 1) rfl))
            refine s_nil ⟨(H.pick [2, 3, 4, 5, 6] (by decide) rfl), ?_⟩
            refine t_l2 rfl rfl ?_ ?_
            ·skip
             refine s_val (x_ld (p := vat u0_11 1 (Int.toNat r11)) (v := I (r10.getD (Int.toNat r11) 0)) rfl (ld_sc Sc3 (At.mono (Int_at (ownSl (H.get (k := 1) rfl)) (i := r11) (by omega) (by omega)) (ownLe _ (H.get (k := 1) rfl))))) ?_
             refine s_nil ⟨(H.pick [2, 3, 4, 5, 6] (by decide) rfl), ?_⟩
             refine t_l rfl ?_
             obtain ⟨r173z, hx172z, hM⟩ := M.e_bind hM
             refine s_call cf14 [.pointer (some ⟨nb0_2, 0, none⟩), I 20] rfl (nilometerkit_Stream_Next_ok tries q16 q26 20 (hC_tries.app _) hs_tries hx172z _ (St.give (T := [cOwn (α := Int) 3 u0_11 r10, cOwn (α := Int) 3 v_l4 l4, cOwn (α := Int) 3 u0_7 r02, cOwn (α := Int) 3 u0_6 r0, cOwn (α := Pk) 72 v_l l, cBlk nb0_1 [v_numbers, I s, I s2] 101]) H rfl)) ?_
             rintro vq w174z ⟨r19, q17, q27, hr175z, hvq, H2_⟩
             subst hr175z
             subst vq
             try dsimp only at hM
             replace H : St w w174z [cBlk nb0_2 [v_tries, I q17, I q27] 101, cOwn (α := Int) 3 u0_11 r10, cOwn (α := Int) 3 v_l4 l4, cOwn (α := Int) 3 u0_7 r02, cOwn (α := Int) 3 u0_6 r0, cOwn (α := Pk) 72 v_l l, cBlk nb0_1 [v_numbers, I s, I s2] 101] R := H.back H2_ rfl
             clear H2_
             refine s_nil ⟨(H.pick [2, 3, 4, 5, 6] (by decide) rfl), ?_⟩
             obtain ⟨sd176z, hM⟩ := M.e_grd hM
             simp only [Bool.and_eq_true, decide_eq_true_eq] at sd176z
             refine t_q rfl (fun w' H => x_ari (a := r10.getD (Int.toNat r11) 0) (b := r19) (r := (r10.getD (Int.toNat r11) 0) - r19) rfl rfl rfl (by omega)) ?_
             refine t_q rfl (fun w' H => x_max (kd := .i64) (a := 0) (b := (r10.getD (Int.toNat r11) 0) - r19) rfl rfl) ?_
             refine t_l rfl ?_
             refine s_val (x_ix (a := u0_11) (b := I r11) (v := vat u0_11 1 (Int.toNat r11)) rfl rfl (Sl.ix (α := Int) T27.und T27.size (ownSl (H.get (k := 1) rfl)) (by omega) (by omega))) ?_
             refine s_nil ⟨(H.pick [2, 3, 4, 5, 6] (by decide) rfl), ?_⟩
             refine t_l rfl ?_
             refine t_ost (k := 1) (i := r11) (l := r10) (l' := r10.set (Int.toNat r11) (max 0 ((r10.getD (Int.toNat r11) 0) - r19) : Int)) (val := I (max 0 ((r10.getD (Int.toNat r11) 0) - r19))) (L' := [cBlk nb0_2 [v_tries, I q17, I q27] 101, cOwn (α := Int) 3 u0_11 (r10.set (Int.toNat r11) (max 0 ((r10.getD (Int.toNat r11) 0) - r19) : Int)), cOwn (α := Int) 3 v_l4 l4, cOwn (α := Int) 3 u0_7 r02, cOwn (α := Int) 3 u0_6 r0, cOwn (α := Pk) 72 v_l l, cBlk nb0_1 [v_numbers, I s, I s2] 101]) H rfl Sz3 (by omega) (by omega) (max 0 ((r10.getD (Int.toNat r11) 0) - r19) : Int) rfl rfl rfl rfl rfl ?_
             intro w177z H
             refine s_nil ⟨(H.pick [2, 3, 4, 5, 6] (by decide) rfl), ?_⟩
             refine t_nil ?_
             refine W.seq ?_
             refine W.drawT (fun W => St w W [cOwn (α := Int) 3 v_l4 l4, cOwn (α := Int) 3 u0_7 r02, cOwn (α := Int) 3 u0_6 r0, cOwn (α := Pk) 72 v_l l, cBlk nb0_1 [v_numbers, I s, I s2] 101] R) (.q 0 (.q 1 (.q 2 (.q 7 (.l 3 (.l 4 (.l2 5 (.l2 6 (.l 8 (.q 9 (.l 10 (.l 11 .nil)))) 8 (.l 6 (.q 9 (.l 10 (.l 11 .nil))))) 8 (.l 5 (.l 6 (.q 9 (.l 10 (.l 11 .nil)))))))))))) mixed (by decide +kernel) rfl ?_
             intro w178z hx_
             replace H : St w w178z [cBlk nb0_2 [v_tries, I q17, I q27] 101, cOwn (α := Int) 3 u0_11 (r10.set (Int.toNat r11) (max 0 ((r10.getD (Int.toNat r11) 0) - r19) : Int)), cOwn (α := Int) 3 v_l4 l4, cOwn (α := Int) 3 u0_7 r02, cOwn (α := Int) 3 u0_6 r0, cOwn (α := Pk) 72 v_l l, cBlk nb0_1 [v_numbers, I s, I s2] 101] R := H.ext hx_
             clear hx_
             refine ⟨(H.pick [2, 3, 4, 5, 6] (by decide) rfl), ?_⟩
             refine t_q rfl (fun w' H => x_mv (v := u0_11) rfl) ?_
             refine t_q rfl (fun w' H => x_mv (v := .pointer (some ⟨nb0_2, 0, none⟩)) rfl) ?_
             refine t_q rfl (fun w' H => x_mv (v := u0_11) rfl) ?_
             refine t_q rfl (fun w' H => x_mv (v := .pointer (some ⟨nb0_2, 0, none⟩)) rfl) ?_
             refine t_l rfl ?_
             have hl179z := ((ownSl (H.get (k := 1) rfl))).len_le
             refine s_val (x_lenS T27.und rfl (ownSl (H.get (k := 1) rfl))) ?_
             refine s_nil ⟨(H.pick [2, 3, 4, 5, 6] (by decide) rfl), ?_⟩
             refine t_l rfl ?_
             obtain ⟨r181z, hx180z, hM⟩ := M.e_bind hM
             refine s_call cf14 [.pointer (some ⟨nb0_2, 0, none⟩), I ((r10.set (Int.toNat r11) (max 0 ((r10.getD (Int.toNat r11) 0) - r19) : Int)).length : Int)] rfl (nilometerkit_Stream_Next_ok tries q17 q27 ((r10.set (Int.toNat r11) (max 0 ((r10.getD (Int.toNat r11) 0) - r19) : Int)).length : Int) (hC_tries.app _) hs_tries hx180z _ (St.give (T := [cOwn (α := Int) 3 u0_11 (r10.set (Int.toNat r11) (max 0 ((r10.getD (Int.toNat r11) 0) - r19) : Int)), cOwn (α := Int) 3 v_l4 l4, cOwn (α := Int) 3 u0_7 r02, cOwn (α := Int) 3 u0_6 r0, cOwn (α := Pk) 72 v_l l, cBlk nb0_1 [v_numbers, I s, I s2] 101]) H rfl)) ?_
             rintro vq w182z ⟨r20, q18, q28, hr183z, hvq, H2_⟩
             subst hr183z
             subst vq
             try dsimp only at hM
             replace H : St w w182z [cBlk nb0_2 [v_tries, I q18, I q28] 101, cOwn (α := Int) 3 u0_11 (r10.set (Int.toNat r11) (max 0 ((r10.getD (Int.toNat r11) 0) - r19) : Int)), cOwn (α := Int) 3 v_l4 l4, cOwn (α := Int) 3 u0_7 r02, cOwn (α := Int) 3 u0_6 r0, cOwn (α := Pk) 72 v_l l, cBlk nb0_1 [v_numbers, I s, I s2] 101] R := H.back H2_ rfl
             clear H2_
             refine s_nil ⟨(H.pick [2, 3, 4, 5, 6] (by decide) rfl), ?_⟩
             obtain ⟨sd196z, hM⟩ := M.e_grd hM
             simp only [Bool.and_eq_true, decide_eq_true_eq] at sd196z
             refine t_l2 rfl rfl ?_ ?_
             ·skip
              refine s_val (x_ix (a := u0_11) (b := I r20) (v := vat u0_11 1 (Int.toNat r20)) rfl rfl (Sl.ix (α := Int) T27.und T27.size (ownSl (H.get (k := 1) rfl)) (by omega) (by omega))) ?_
              refine s_nil ⟨(H.pick [2, 3, 4, 5, 6] (by decide) rfl), ?_⟩
              refine t_l2 rfl rfl ?_ ?_
              ·skip
               refine s_val (x_ld (p := vat u0_11 1 (Int.toNat r20)) (v := I ((r10.set (Int.toNat r11) (max 0 ((r10.getD (Int.toNat r11) 0) - r19) : Int)).getD (Int.toNat r20) 0)) rfl (ld_sc Sc3 (At.mono (Int_at (ownSl (H.get (k := 1) rfl)) (i := r20) (by omega) (by omega)) (ownLe _ (H.get (k := 1) rfl))))) ?_
               refine s_nil ⟨(H.pick [2, 3, 4, 5, 6] (by decide) rfl), ?_⟩
               refine t_l rfl ?_
               obtain ⟨r204z, hx203z, hM⟩ := M.e_bind hM
               refine s_call cf14 [.pointer (some ⟨nb0_2, 0, none⟩), I 2] rfl (nilometerkit_Stream_Next_ok tries q18 q28 2 (hC_tries.app _) hs_tries hx203z _ (St.give (T := [cOwn (α := Int) 3 u0_11 (r10.set (Int.toNat r11) (max 0 ((r10.getD (Int.toNat r11) 0) - r19) : Int)), cOwn (α := Int) 3 v_l4 l4, cOwn (α := Int) 3 u0_7 r02, cOwn (α := Int) 3 u0_6 r0, cOwn (α := Pk) 72 v_l l, cBlk nb0_1 [v_numbers, I s, I s2] 101]) H rfl)) ?_
               rintro vq w205z ⟨r21, q19, q29, hr206z, hvq, H2_⟩
               subst hr206z
               subst vq
               try dsimp only at hM
               replace H : St w w205z [cBlk nb0_2 [v_tries, I q19, I q29] 101, cOwn (α := Int) 3 u0_11 (r10.set (Int.toNat r11) (max 0 ((r10.getD (Int.toNat r11) 0) - r19) : Int)), cOwn (α := Int) 3 v_l4 l4, cOwn (α := Int) 3 u0_7 r02, cOwn (α := Int) 3 u0_6 r0, cOwn (α := Pk) 72 v_l l, cBlk nb0_1 [v_numbers, I s, I s2] 101] R := H.back H2_ rfl
               clear H2_
               refine s_nil ⟨(H.pick [2, 3, 4, 5, 6] (by decide) rfl), ?_⟩
               obtain ⟨sd207z, hM⟩ := M.e_grd hM
               simp only [Bool.and_eq_true, decide_eq_true_eq] at sd207z
               refine t_q rfl (fun w' H => x_ari (a := (r10.set (Int.toNat r11) (max 0 ((r10.getD (Int.toNat r11) 0) - r19) : Int)).getD (Int.toNat r20) 0) (b := r21) (r := ((r10.set (Int.toNat r11) (max 0 ((r10.getD (Int.toNat r11) 0) - r19) : Int)).getD (Int.toNat r20) 0) + r21) rfl rfl rfl (by omega)) ?_
               refine t_l rfl ?_
               refine s_val (x_ix (a := u0_11) (b := I r20) (v := vat u0_11 1 (Int.toNat r20)) rfl rfl (Sl.ix (α := Int) T27.und T27.size (ownSl (H.get (k := 1) rfl)) (by omega) (by omega))) ?_
               refine s_nil ⟨(H.pick [2, 3, 4, 5, 6] (by decide) rfl), ?_⟩
               refine t_l rfl ?_
               refine t_ost (k := 1) (i := r20) (l := r10.set (Int.toNat r11) (max 0 ((r10.getD (Int.toNat r11) 0) - r19) : Int)) (l' := (r10.set (Int.toNat r11) (max 0 ((r10.getD (Int.toNat r11) 0) - r19) : Int)).set (Int.toNat r20) (((r10.set (Int.toNat r11) (max 0 ((r10.getD (Int.toNat r11) 0) - r19) : Int)).getD (Int.toNat r20) 0) + r21 : Int)) (val := I (((r10.set (Int.toNat r11) (max 0 ((r10.getD (Int.toNat r11) 0) - r19) : Int)).getD (Int.toNat r20) 0) + r21)) (L' := [cBlk nb0_2 [v_tries, I q19, I q29] 101, cOwn (α := Int) 3 u0_11 ((r10.set (Int.toNat r11) (max 0 ((r10.getD (Int.toNat r11) 0) - r19) : Int)).set (Int.toNat r20) (((r10.set (Int.toNat r11) (max 0 ((r10.getD (Int.toNat r11) 0) - r19) : Int)).getD (Int.toNat r20) 0) + r21 : Int)), cOwn (α := Int) 3 v_l4 l4, cOwn (α := Int) 3 u0_7 r02, cOwn (α := Int) 3 u0_6 r0, cOwn (α := Pk) 72 v_l l, cBlk nb0_1 [v_numbers, I s, I s2] 101]) H rfl Sz3 (by omega) (by omega) (((r10.set (Int.toNat r11) (max 0 ((r10.getD (Int.toNat r11) 0) - r19) : Int)).getD (Int.toNat r20) 0) + r21 : Int) rfl rfl rfl rfl rfl ?_
               intro w208z H
               refine s_nil ⟨(H.pick [2, 3, 4, 5, 6] (by decide) rfl), ?_⟩
               refine t_nil ?_
               refine W.seq ?_
               refine W.seq ?_
               refine W.region rfl ?_
               refine s_val (x_as (v := I 0) rfl) ?_
               refine s_nil ?_
               refine W.block ?_
               obtain ⟨ex209z, hi210z, hk211z⟩ := M.e_bind hM
               obtain ⟨m0_, hi210z⟩ := M.e_iter hi210z
               refine W.loop (fun m σ W => ∃ (l7 : List Int) (m2 : Nat) (v_l7 : Value) (ρ : Env), σ = upds ρ [(10, .pointer (some ⟨nb0_2, 0, none⟩)), (11, v_l), (14, I (1 + r6)), (15, I r7), (17, I r13), (19, u0_7), (25, I (k : Int)), (30, v_l7), (32, I (m2 : Int)), (177, gd (r18 != 0) (I r18)), (178, gd (r18 != 0) (B (r18 != 7))), (181, gd (!((r18 != 0) && (r18 != 7))) (I r18)), (182, gd (!((r18 != 0) && (r18 != 7))) (B (r18 == 0))), (183, gd (!((r18 != 0) && (r18 != 7))) (B (r18 == 0))), (184, gd ((!((r18 != 0) && (r18 != 7))) && (r18 == 0)) (I r06)), (185, gd ((!((r18 != 0) && (r18 != 7))) && (r18 == 0)) (I r13)), (186, gd ((!((r18 != 0) && (r18 != 7))) && (r18 == 0)) (B (decide (r13 < r06)))), (187, gd (!((r18 != 0) && (r18 != 7))) (B ((r18 == 0) && (decide (r13 < r06)))))] /\ M.iterN (m_nilometerlaw10_OftenOwn_b4) m (l7, m2) = some ex209z /\ St w W [cBlk nb0_2 [v_tries, I q19, I q29] 101, cOwn (α := Int) 3 v_l7 l7, cOwn (α := Int) 3 v_l4 l4, cOwn (α := Int) 3 u0_7 r02, cOwn (α := Int) 3 u0_6 r0, cOwn (α := Pk) 72 v_l l, cBlk nb0_1 [v_numbers, I s, I s2] 101] R) ?_ ?_
               ·exact ⟨_, (r10.set (Int.toNat r11) (max 0 ((r10.getD (Int.toNat r11) 0) - r19) : Int)).set (Int.toNat r20) (((r10.set (Int.toNat r11) (max 0 ((r10.getD (Int.toNat r11) 0) - r19) : Int)).getD (Int.toNat r20) 0) + r21 : Int), 0, u0_11, _, upds_of _ _ ⟨rfl, rfl, rfl, rfl, rfl, rfl, rfl, rfl, rfl, rfl, rfl, rfl, rfl, rfl, rfl, rfl, rfl, rfl, trivial⟩, hi210z, H⟩
               ·rintro m214z σ w212z ⟨l7, m2, v_l7, ρ, rfl, hI213z, H⟩
                obtain ⟨m215z, lt216z, x217z, hM, hN218z⟩ := M.e_iterN hI213z
                simp only [m_nilometerlaw10_OftenOwn_b4] at hM
                clear hI213z
                refine W.seq ?_
                refine W.seq ?_
                refine W.region rfl ?_
                refine s_val (x_mv (v := I (m2 : Int)) rfl) ?_
                refine s_val (x_mv (v := v_l7) rfl) ?_
                have hl219z := ((ownSl (H.get (k := 1) rfl))).len_le
                refine s_val (x_lenS T27.und rfl (ownSl (H.get (k := 1) rfl))) ?_
                refine s_val (x_cmp (kd := .i64) (a := (m2 : Int)) (b := (l7.length : Int)) (r := decide ((m2 : Int) < (l7.length : Int))) rfl rfl rfl) ?_
                refine s_nil ?_
                refine W.cond (decide ((m2 : Int) < (l7.length : Int))) rfl (fun c220z => ?_) (fun c220z => ?_)
                ·replace hM := M.e_t hM c220z
                 simp only [decide_eq_true_eq, decide_eq_false_iff_not, beq_iff_eq, bne_iff_ne, beq_eq_false_iff_ne, bne_eq_false_iff_eq, ne_eq, Decidable.not_not] at c220z
                 refine W.skip ?_
                 refine W.seq ?_
                 refine W.block ?_
                 refine W.region rfl ?_
                 refine s_val (x_mv (v := v_l7) rfl) ?_
                 refine s_val (x_mv (v := I (m2 : Int)) rfl) ?_
                 refine s_val (x_mv (v := v_l7) rfl) ?_
                 refine s_val (x_mv (v := I (m2 : Int)) rfl) ?_
                 obtain ⟨sd221z, hM⟩ := M.e_grd hM
                 simp only [Bool.and_eq_true, decide_eq_true_eq] at sd221z
                 refine s_val (x_ix (a := v_l7) (b := I (m2 : Int)) (v := vat v_l7 1 (Int.toNat (m2 : Int))) rfl rfl (Sl.ix (α := Int) T27.und T27.size (ownSl (H.get (k := 1) rfl)) (by omega) (by omega))) ?_
                 refine s_val (x_ld (p := vat v_l7 1 (Int.toNat (m2 : Int))) (v := I (l7.getD m2 0)) rfl (ld_sc Sc3 (At.mono (Int_at (ownSl (H.get (k := 1) rfl)) (i := (m2 : Int)) (by omega) (by omega)) (ownLe _ (H.get (k := 1) rfl))))) ?_
                 refine s_val (x_min (kd := .i64) (a := l7.getD m2 0) (b := 2000) rfl rfl) ?_
                 refine s_val (x_ix (a := v_l7) (b := I (m2 : Int)) (v := vat v_l7 1 (Int.toNat (m2 : Int))) rfl rfl (Sl.ix (α := Int) T27.und T27.size (ownSl (H.get (k := 1) rfl)) (by omega) (by omega))) ?_
                 refine t_ost (k := 1) (i := (m2 : Int)) (l := l7) (l' := l7.set m2 (min (l7.getD m2 0) 2000 : Int)) (val := I (min (l7.getD m2 0) 2000)) (L' := [cBlk nb0_2 [v_tries, I q19, I q29] 101, cOwn (α := Int) 3 v_l7 (l7.set m2 (min (l7.getD m2 0) 2000 : Int)), cOwn (α := Int) 3 v_l4 l4, cOwn (α := Int) 3 u0_7 r02, cOwn (α := Int) 3 u0_6 r0, cOwn (α := Pk) 72 v_l l, cBlk nb0_1 [v_numbers, I s, I s2] 101]) H rfl Sz3 (by omega) (by omega) (min (l7.getD m2 0) 2000 : Int) rfl rfl rfl rfl rfl ?_
                 intro w222z H
                 refine s_nil ?_
                 refine W.region rfl ?_
                 refine s_val (x_mv (v := I (m2 : Int)) rfl) ?_
                 refine s_val (x_ari (a := (m2 : Int)) (b := 1) (r := (m2 : Int) + 1) rfl rfl rfl (by omega)) ?_
                 refine s_val (x_as (v := I ((m2 : Int) + 1)) rfl) ?_
                 refine s_nil ?_
                 exact ⟨m215z, lt216z, l7.set m2 (min (l7.getD m2 0) 2000 : Int), m2 + 1, v_l7, _, upds_of _ _ ⟨rfl, rfl, rfl, rfl, rfl, rfl, rfl, rfl, rfl, rfl, rfl, rfl, rfl, rfl, rfl, rfl, rfl, rfl, trivial⟩, M.e_inl hM hN218z, H⟩
                ·replace hM := M.e_f hM c220z
                 simp only [decide_eq_true_eq, decide_eq_false_iff_not, beq_iff_eq, bne_iff_ne, beq_eq_false_iff_ne, bne_eq_false_iff_eq, ne_eq, Decidable.not_not] at c220z
                 refine W.exit ?_
                 have hX223z := M.e_inr hM hN218z
                 subst hX223z
                 replace hM := hk211z
                 try dsimp only at hM
                 refine W.seq ?_
                 refine W.region rfl ?_
                 refine s_val (x_mv (v := I r13) rfl) ?_
                 refine s_val (x_mv (v := .pointer (some ⟨nb0_2, 0, none⟩)) rfl) ?_
                 obtain ⟨r225z, hx224z, hM⟩ := M.e_bind hM
                 refine s_call cf14 [.pointer (some ⟨nb0_2, 0, none⟩), I 9] rfl (nilometerkit_Stream_Next_ok tries q19 q29 9 (hC_tries.app _) hs_tries hx224z _ (St.give (T := [cOwn (α := Int) 3 v_l7 l7, cOwn (α := Int) 3 v_l4 l4, cOwn (α := Int) 3 u0_7 r02, cOwn (α := Int) 3 u0_6 r0, cOwn (α := Pk) 72 v_l l, cBlk nb0_1 [v_numbers, I s, I s2] 101]) H rfl)) ?_
                 rintro vq w226z ⟨r24, q110, q210, hr227z, hvq, H2_⟩
                 subst hr227z
                 subst vq
                 try dsimp only at hM
                 replace H : St w w226z [cBlk nb0_2 [v_tries, I q110, I q210] 101, cOwn (α := Int) 3 v_l7 l7, cOwn (α := Int) 3 v_l4 l4, cOwn (α := Int) 3 u0_7 r02, cOwn (α := Int) 3 u0_6 r0, cOwn (α := Pk) 72 v_l l, cBlk nb0_1 [v_numbers, I s, I s2] 101] R := H.back H2_ rfl
                 clear H2_
                 obtain ⟨sd228z, hM⟩ := M.e_grd hM
                 simp only [Bool.and_eq_true, decide_eq_true_eq] at sd228z
                 refine s_val (x_ari (a := r13) (b := r24) (r := r13 - r24) rfl rfl rfl (by omega)) ?_
                 refine s_val (x_as (v := I (r13 - r24)) rfl) ?_
                 refine s_nil ?_
                 refine W.seq ?_
                 refine W.region rfl ?_
                 refine s_val (x_mv (v := v_l) rfl) ?_
                 refine s_val (x_mv (v := I (1 + r6)) rfl) ?_
                 refine s_val (x_mv (v := I r7) rfl) ?_
                 refine s_val (x_mv (v := I (r13 - r24)) rfl) ?_
                 refine s_val (x_mv (v := v_l7) rfl) ?_
                 obtain ⟨r230z, hx229z, hM⟩ := M.e_bind hM
                 refine s_call cf41 [v_l, I (1 + r6), I r7, I (r13 - r24), v_l7] rfl (often_Proves_ok l (1 + r6) r7 (r13 - r24) l7 (Reads.of (k := 5) rfl ownLe) (ownSl (H.get (k := 5) rfl)) (Reads.of (k := 1) rfl ownLe) (ownSl (H.get (k := 1) rfl)) hx229z _ (St.give (T := [cBlk nb0_2 [v_tries, I q110, I q210] 101, cOwn (α := Int) 3 v_l7 l7, cOwn (α := Int) 3 v_l4 l4, cOwn (α := Int) 3 u0_7 r02, cOwn (α := Int) 3 u0_6 r0, cOwn (α := Pk) 72 v_l l, cBlk nb0_1 [v_numbers, I s, I s2] 101]) H rfl)) ?_
                 rintro vq w231z ⟨r07, r110, hr232z, hvq, H2_⟩
                 subst hr232z
                 subst vq
                 try dsimp only at hM
                 replace H : St w w231z [cBlk nb0_2 [v_tries, I q110, I q210] 101, cOwn (α := Int) 3 v_l7 l7, cOwn (α := Int) 3 v_l4 l4, cOwn (α := Int) 3 u0_7 r02, cOwn (α := Int) 3 u0_6 r0, cOwn (α := Pk) 72 v_l l, cBlk nb0_1 [v_numbers, I s, I s2] 101] R := H.back H2_ rfl
                 clear H2_
                 refine s_val (x_mv (v := .tuple #[B r07, I r110]) rfl) ?_
                 refine s_val (x_ext (vs := [B r07, I r110]) (v := B r07) rfl rfl) ?_
                 refine s_val (x_ext (vs := [B r07, I r110]) (v := I r110) rfl rfl) ?_
                 refine s_val (x_as (v := B r07) rfl) ?_
                 refine s_val (x_as (v := I r110) rfl) ?_
                 refine s_nil ?_
                 refine W.seq ?_
                 refine W.region rfl ?_
                 refine s_val (x_mv (v := I r110) rfl) ?_
                 refine s_val (x_cmp (kd := .i64) (a := r110) (b := 0) (r := r110 != 0) rfl rfl rfl) ?_
                 refine s_val (x_mv (v := B (r110 != 0)) rfl) ?_
                 refine g_val (!(r110 != 0)) (gy_f rfl) (fun hg => x_mv (v := B r07) rfl) ?_
                 refine g_val (!(r110 != 0)) (gy_f rfl) (fun hg => x_mv (v := B r07) (gd_of (c := !(r110 != 0)) hg (B r07))) ?_
                 refine g_val ((!(r110 != 0)) && r07) (gy_gt rfl rfl) (fun hg => x_mv (v := I (r13 - r24)) rfl) ?_
                 refine g_val ((!(r110 != 0)) && r07) (gy_gt rfl rfl) (fun hg => x_mv (v := I r13) rfl) ?_
                 refine g_val ((!(r110 != 0)) && r07) (gy_gt rfl rfl) (fun hg => x_cmp (kd := .i64) (a := r13 - r24) (b := r13) (r := decide ((r13 - r24) < r13)) (gd_of (c := ((!(r110 != 0)) && r07)) hg (I (r13 - r24))) (gd_of (c := ((!(r110 != 0)) && r07)) hg (I r13)) rfl) ?_
                 refine g_val (!(r110 != 0)) (gy_f rfl) (fun hg => x_pand (b := r07) (r := decide ((r13 - r24) < r13)) (gd_of (c := !(r110 != 0)) hg (B r07)) (fun hb => gd_of (c := ((!(r110 != 0)) && r07)) (by first | exact hb | (rw [hb]; rfl) | simp_all) (B (decide ((r13 - r24) < r13)))) rfl) ?_
                 refine s_val (x_por (b := r110 != 0) (r := (r07 && (decide ((r13 - r24) < r13)))) rfl rfl (fun hb => gd_of (c := !(r110 != 0)) (by first | exact hb | (rw [hb]; rfl) | simp_all) (B (r07 && (decide ((r13 - r24) < r13)))))) ?_
                 refine s_nil ?_
                 refine W.cond ((r110 != 0) || (r07 && (decide ((r13 - r24) < r13)))) rfl (fun c233z => ?_) (fun c233z => ?_)
                 ·replace hM := M.e_t hM c233z
                  refine W.seq ?_
                  refine W.region rfl ?_
                  refine s_val (x_as (v := B false) rfl) ?_
                  refine s_nil ?_
                  refine W.ret ?_
                  have hX234z := M.e_inr hM hN83z
                  subst hX234z
                  replace hM := hk76z
                  try dsimp only at hM
                  have hr_ := M.e_pure hM
                  exact ⟨_, resE_tmp rfl, ⟨false, hr_, rfl, (H.pick [] (by decide) rfl)⟩⟩
                 ·replace hM := M.e_f hM c233z
                  refine W.skip ?_
                  refine W.region rfl ?_
                  refine s_val (x_mv (v := I (k : Int)) rfl) ?_
                  refine s_val (x_ari (a := (k : Int)) (b := 1) (r := (k : Int) + 1) rfl rfl rfl (by omega)) ?_
                  refine s_val (x_as (v := I ((k : Int) + 1)) rfl) ?_
                  refine s_nil ?_
                  exact ⟨m80z, lt81z, q110, q210, k + 1, _, upds_of _ _ ⟨rfl, rfl, rfl, rfl, rfl, rfl, rfl, trivial⟩, M.e_inl hM hN83z, (H.pick [3, 4, 5, 6, 0] (by decide) rfl)⟩
              ·skip
               obtain ⟨r236z, hx235z, hM⟩ := M.e_bind hM
               refine s_call cf14 [.pointer (some ⟨nb0_2, 0, none⟩), I 2] rfl (nilometerkit_Stream_Next_ok tries q18 q28 2 (hC_tries.app _) hs_tries hx235z _ (St.give (T := [cOwn (α := Int) 3 u0_11 (r10.set (Int.toNat r11) (max 0 ((r10.getD (Int.toNat r11) 0) - r19) : Int)), cOwn (α := Int) 3 v_l4 l4, cOwn (α := Int) 3 u0_7 r02, cOwn (α := Int) 3 u0_6 r0, cOwn (α := Pk) 72 v_l l, cBlk nb0_1 [v_numbers, I s, I s2] 101]) H rfl)) ?_
               rintro vq w237z ⟨r21, q19, q29, hr238z, hvq, H2_⟩
               subst hr238z
               subst vq
               try dsimp only at hM
               replace H : St w w237z [cBlk nb0_2 [v_tries, I q19, I q29] 101, cOwn (α := Int) 3 u0_11 (r10.set (Int.toNat r11) (max 0 ((r10.getD (Int.toNat r11) 0) - r19) : Int)), cOwn (α := Int) 3 v_l4 l4, cOwn (α := Int) 3 u0_7 r02, cOwn (α := Int) 3 u0_6 r0, cOwn (α := Pk) 72 v_l l, cBlk nb0_1 [v_numbers, I s, I s2] 101] R := H.back H2_ rfl
               clear H2_
               refine s_nil ⟨(H.pick [2, 3, 4, 5, 6] (by decide) rfl), ?_⟩
               refine t_l rfl ?_
               refine s_val (x_ld (p := vat u0_11 1 (Int.toNat r20)) (v := I ((r10.set (Int.toNat r11) (max 0 ((r10.getD (Int.toNat r11) 0) - r19) : Int)).getD (Int.toNat r20) 0)) rfl (ld_sc Sc3 (At.mono (Int_at (ownSl (H.get (k := 1) rfl)) (i := r20) (by omega) (by omega)) (ownLe _ (H.get (k := 1) rfl))))) ?_
               refine s_nil ⟨(H.pick [2, 3, 4, 5, 6] (by decide) rfl), ?_⟩
               obtain ⟨sd239z, hM⟩ := M.e_grd hM
               simp only [Bool.and_eq_true, decide_eq_true_eq] at sd239z
               refine t_q rfl (fun w' H => x_ari (a := (r10.set (Int.toNat r11) (max 0 ((r10.getD (Int.toNat r11) 0) - r19) : Int)).getD (Int.toNat r20) 0) (b := r21) (r := ((r10.set (Int.toNat r11) (max 0 ((r10.getD (Int.toNat r11) 0) - r19) : Int)).getD (Int.toNat r20) 0) + r21) rfl rfl rfl (by omega)) ?_
               refine t_l rfl ?_
               refine s_val (x_ix (a := u0_11) (b := I r20) (v := vat u0_11 1 (Int.toNat r20)) rfl rfl (Sl.ix (α := Int) T27.und T27.size (ownSl (H.get (k := 1) rfl)) (by omega) (by omega))) ?_
               refine s_nil ⟨(H.pick [2, 3, 4, 5, 6] (by decide) rfl), ?_⟩
               refine t_l rfl ?_
               refine t_ost (k := 1) (i := r20) (l := r10.set (Int.toNat r11) (max 0 ((r10.getD (Int.toNat r11) 0) - r19) : Int)) (l' := (r10.set (Int.toNat r11) (max 0 ((r10.getD (Int.toNat r11) 0) - r19) : Int)).set (Int.toNat r20) (((r10.set (Int.toNat r11) (max 0 ((r10.getD (Int.toNat r11) 0) - r19) : Int)).getD (Int.toNat r20) 0) + r21 : Int)) (val := I (((r10.set (Int.toNat r11) (max 0 ((r10.getD (Int.toNat r11) 0) - r19) : Int)).getD (Int.toNat r20) 0) + r21)) (L' := [cBlk nb0_2 [v_tries, I q19, I q29] 101, cOwn (α := Int) 3 u0_11 ((r10.set (Int.toNat r11) (max 0 ((r10.getD (Int.toNat r11) 0) - r19) : Int)).set (Int.toNat r20) (((r10.set (Int.toNat r11) (max 0 ((r10.getD (Int.toNat r11) 0) - r19) : Int)).getD (Int.toNat r20) 0) + r21 : Int)), cOwn (α := Int) 3 v_l4 l4, cOwn (α := Int) 3 u0_7 r02, cOwn (α := Int) 3 u0_6 r0, cOwn (α := Pk) 72 v_l l, cBlk nb0_1 [v_numbers, I s, I s2] 101]) H rfl Sz3 (by omega) (by omega) (((r10.set (Int.toNat r11) (max 0 ((r10.getD (Int.toNat r11) 0) - r19) : Int)).getD (Int.toNat r20) 0) + r21 : Int) rfl rfl rfl rfl rfl ?_
               intro w240z H
               refine s_nil ⟨(H.pick [2, 3, 4, 5, 6] (by decide) rfl), ?_⟩
               refine t_nil ?_
               refine W.seq ?_
               refine W.seq ?_
               refine W.region rfl ?_
               refine s_val (x_as (v := I 0) rfl) ?_
               refine s_nil ?_
               refine W.block ?_
               obtain ⟨ex241z, hi242z, hk243z⟩ := M.e_bind hM
               obtain ⟨m0_, hi242z⟩ := M.e_iter hi242z
               refine W.loop (fun m σ W => ∃ (l7 : List Int) (m2 : Nat) (v_l7 : Value) (ρ : Env), σ = upds ρ [(10, .pointer (some ⟨nb0_2, 0, none⟩)), (11, v_l), (14, I (1 + r6)), (15, I r7), (17, I r13), (19, u0_7), (25, I (k : Int)), (30, v_l7), (32, I (m2 : Int)), (177, gd (r18 != 0) (I r18)), (178, gd (r18 != 0) (B (r18 != 7))), (181, gd (!((r18 != 0) && (r18 != 7))) (I r18)), (182, gd (!((r18 != 0) && (r18 != 7))) (B (r18 == 0))), (183, gd (!((r18 != 0) && (r18 != 7))) (B (r18 == 0))), (184, gd ((!((r18 != 0) && (r18 != 7))) && (r18 == 0)) (I r06)), (185, gd ((!((r18 != 0) && (r18 != 7))) && (r18 == 0)) (I r13)), (186, gd ((!((r18 != 0) && (r18 != 7))) && (r18 == 0)) (B (decide (r13 < r06)))), (187, gd (!((r18 != 0) && (r18 != 7))) (B ((r18 == 0) && (decide (r13 < r06)))))] /\ M.iterN (m_nilometerlaw10_OftenOwn_b4) m (l7, m2) = some ex241z /\ St w W [cBlk nb0_2 [v_tries, I q19, I q29] 101, cOwn (α := Int) 3 v_l7 l7, cOwn (α := Int) 3 v_l4 l4, cOwn (α := Int) 3 u0_7 r02, cOwn (α := Int) 3 u0_6 r0, cOwn (α := Pk) 72 v_l l, cBlk nb0_1 [v_numbers, I s, I s2] 101] R) ?_ ?_
               ·exact ⟨_, (r10.set (Int.toNat r11) (max 0 ((r10.getD (Int.toNat r11) 0) - r19) : Int)).set (Int.toNat r20) (((r10.set (Int.toNat r11) (max 0 ((r10.getD (Int.toNat r11) 0) - r19) : Int)).getD (Int.toNat r20) 0) + r21 : Int), 0, u0_11, _, upds_of _ _ ⟨rfl, rfl, rfl, rfl, rfl, rfl, rfl, rfl, rfl, rfl, rfl, rfl, rfl, rfl, rfl, rfl, rfl, rfl, trivial⟩, hi242z, H⟩
               ·rintro m246z σ w244z ⟨l7, m2, v_l7, ρ, rfl, hI245z, H⟩
                obtain ⟨m247z, lt248z, x249z, hM, hN250z⟩ := M.e_iterN hI245z
                simp only [m_nilometerlaw10_OftenOwn_b4] at hM
                clear hI245z
                refine W.seq ?_
                refine W.seq ?_
                refine W.region rfl ?_
                refine s_val (x_mv (v := I (m2 : Int)) rfl) ?_
                refine s_val (x_mv (v := v_l7) rfl) ?_
                have hl251z := ((ownSl (H.get (k := 1) rfl))).len_le
                refine s_val (x_lenS T27.und rfl (ownSl (H.get (k := 1) rfl))) ?_
                refine s_val (x_cmp (kd := .i64) (a := (m2 : Int)) (b := (l7.length : Int)) (r := decide ((m2 : Int) < (l7.length : Int))) rfl rfl rfl) ?_
                refine s_nil ?_
                refine W.cond (decide ((m2 : Int) < (l7.length : Int))) rfl (fun c252z => ?_) (fun c252z => ?_)
                ·replace hM := M.e_t hM c252z
                 simp only [decide_eq_true_eq, decide_eq_false_iff_not, beq_iff_eq, bne_iff_ne, beq_eq_false_iff_ne, bne_eq_false_iff_eq, ne_eq, Decidable.not_not] at c252z
                 refine W.skip ?_
                 refine W.seq ?_
                 refine W.block ?_
                 refine W.region rfl ?_
                 refine s_val (x_mv (v := v_l7) rfl) ?_
                 refine s_val (x_mv (v := I (m2 : Int)) rfl) ?_
                 refine s_val (x_mv (v := v_l7) rfl) ?_
                 refine s_val (x_mv (v := I (m2 : Int)) rfl) ?_
                 obtain ⟨sd253z, hM⟩ := M.e_grd hM
                 simp only [Bool.and_eq_true, decide_eq_true_eq] at sd253z
                 refine s_val (x_ix (a := v_l7) (b := I (m2 : Int)) (v := vat v_l7 1 (Int.toNat (m2 : Int))) rfl rfl (Sl.ix (α := Int) T27.und T27.size (ownSl (H.get (k := 1) rfl)) (by omega) (by omega))) ?_
                 refine s_val (x_ld (p := vat v_l7 1 (Int.toNat (m2 : Int))) (v := I (l7.getD m2 0)) rfl (ld_sc Sc3 (At.mono (Int_at (ownSl (H.get (k := 1) rfl)) (i := (m2 : Int)) (by omega) (by omega)) (ownLe _ (H.get (k := 1) rfl))))) ?_
                 refine s_val (x_min (kd := .i64) (a := l7.getD m2 0) (b := 2000) rfl rfl) ?_
                 refine s_val (x_ix (a := v_l7) (b := I (m2 : Int)) (v := vat v_l7 1 (Int.toNat (m2 : Int))) rfl rfl (Sl.ix (α := Int) T27.und T27.size (ownSl (H.get (k := 1) rfl)) (by omega) (by omega))) ?_
                 refine t_ost (k := 1) (i := (m2 : Int)) (l := l7) (l' := l7.set m2 (min (l7.getD m2 0) 2000 : Int)) (val := I (min (l7.getD m2 0) 2000)) (L' := [cBlk nb0_2 [v_tries, I q19, I q29] 101, cOwn (α := Int) 3 v_l7 (l7.set m2 (min (l7.getD m2 0) 2000 : Int)), cOwn (α := Int) 3 v_l4 l4, cOwn (α := Int) 3 u0_7 r02, cOwn (α := Int) 3 u0_6 r0, cOwn (α := Pk) 72 v_l l, cBlk nb0_1 [v_numbers, I s, I s2] 101]) H rfl Sz3 (by omega) (by omega) (min (l7.getD m2 0) 2000 : Int) rfl rfl rfl rfl rfl ?_
                 intro w254z H
                 refine s_nil ?_
                 refine W.region rfl ?_
                 refine s_val (x_mv (v := I (m2 : Int)) rfl) ?_
                 refine s_val (x_ari (a := (m2 : Int)) (b := 1) (r := (m2 : Int) + 1) rfl rfl rfl (by omega)) ?_
                 refine s_val (x_as (v := I ((m2 : Int) + 1)) rfl) ?_
                 refine s_nil ?_
                 exact ⟨m247z, lt248z, l7.set m2 (min (l7.getD m2 0) 2000 : Int), m2 + 1, v_l7, _, upds_of _ _ ⟨rfl, rfl, rfl, rfl, rfl, rfl, rfl, rfl, rfl, rfl, rfl, rfl, rfl, rfl, rfl, rfl, rfl, rfl, trivial⟩, M.e_inl hM hN250z, H⟩
                ·replace hM := M.e_f hM c252z
                 simp only [decide_eq_true_eq, decide_eq_false_iff_not, beq_iff_eq, bne_iff_ne, beq_eq_false_iff_ne, bne_eq_false_iff_eq, ne_eq, Decidable.not_not] at c252z
                 refine W.exit ?_
                 have hX255z := M.e_inr hM hN250z
                 subst hX255z
                 replace hM := hk243z
                 try dsimp only at hM
                 refine W.seq ?_
                 refine W.region rfl ?_
                 refine s_val (x_mv (v := I r13) rfl) ?_
                 refine s_val (x_mv (v := .pointer (some ⟨nb0_2, 0, none⟩)) rfl) ?_
                 obtain ⟨r257z, hx256z, hM⟩ := M.e_bind hM
                 refine s_call cf14 [.pointer (some ⟨nb0_2, 0, none⟩), I 9] rfl (nilometerkit_Stream_Next_ok tries q19 q29 9 (hC_tries.app _) hs_tries hx256z _ (St.give (T := [cOwn (α := Int) 3 v_l7 l7, cOwn (α := Int) 3 v_l4 l4, cOwn (α := Int) 3 u0_7 r02, cOwn (α := Int) 3 u0_6 r0, cOwn (α := Pk) 72 v_l l, cBlk nb0_1 [v_numbers, I s, I s2] 101]) H rfl)) ?_
                 rintro vq w258z ⟨r24, q110, q210, hr259z, hvq, H2_⟩
                 subst hr259z
                 subst vq
                 try dsimp only at hM
                 replace H : St w w258z [cBlk nb0_2 [v_tries, I q110, I q210] 101, cOwn (α := Int) 3 v_l7 l7, cOwn (α := Int) 3 v_l4 l4, cOwn (α := Int) 3 u0_7 r02, cOwn (α := Int) 3 u0_6 r0, cOwn (α := Pk) 72 v_l l, cBlk nb0_1 [v_numbers, I s, I s2] 101] R := H.back H2_ rfl
                 clear H2_
                 obtain ⟨sd260z, hM⟩ := M.e_grd hM
                 simp only [Bool.and_eq_true, decide_eq_true_eq] at sd260z
                 refine s_val (x_ari (a := r13) (b := r24) (r := r13 - r24) rfl rfl rfl (by omega)) ?_
                 refine s_val (x_as (v := I (r13 - r24)) rfl) ?_
                 refine s_nil ?_
                 refine W.seq ?_
                 refine W.region rfl ?_
                 refine s_val (x_mv (v := v_l) rfl) ?_
                 refine s_val (x_mv (v := I (1 + r6)) rfl) ?_
                 refine s_val (x_mv (v := I r7) rfl) ?_
                 refine s_val (x_mv (v := I (r13 - r24)) rfl) ?_
                 refine s_val (x_mv (v := v_l7) rfl) ?_
                 obtain ⟨r262z, hx261z, hM⟩ := M.e_bind hM
                 refine s_call cf41 [v_l, I (1 + r6), I r7, I (r13 - r24), v_l7] rfl (often_Proves_ok l (1 + r6) r7 (r13 - r24) l7 (Reads.of (k := 5) rfl ownLe) (ownSl (H.get (k := 5) rfl)) (Reads.of (k := 1) rfl ownLe) (ownSl (H.get (k := 1) rfl)) hx261z _ (St.give (T := [cBlk nb0_2 [v_tries, I q110, I q210] 101, cOwn (α := Int) 3 v_l7 l7, cOwn (α := Int) 3 v_l4 l4, cOwn (α := Int) 3 u0_7 r02, cOwn (α := Int) 3 u0_6 r0, cOwn (α := Pk) 72 v_l l, cBlk nb0_1 [v_numbers, I s, I s2] 101]) H rfl)) ?_
                 rintro vq w263z ⟨r07, r110, hr264z, hvq, H2_⟩
                 subst hr264z
                 subst vq
                 try dsimp only at hM
                 replace H : St w w263z [cBlk nb0_2 [v_tries, I q110, I q210] 101, cOwn (α := Int) 3 v_l7 l7, cOwn (α := Int) 3 v_l4 l4, cOwn (α := Int) 3 u0_7 r02, cOwn (α := Int) 3 u0_6 r0, cOwn (α := Pk) 72 v_l l, cBlk nb0_1 [v_numbers, I s, I s2] 101] R := H.back H2_ rfl
                 clear H2_
                 refine s_val (x_mv (v := .tuple #[B r07, I r110]) rfl) ?_
                 refine s_val (x_ext (vs := [B r07, I r110]) (v := B r07) rfl rfl) ?_
                 refine s_val (x_ext (vs := [B r07, I r110]) (v := I r110) rfl rfl) ?_
                 refine s_val (x_as (v := B r07) rfl) ?_
                 refine s_val (x_as (v := I r110) rfl) ?_
                 refine s_nil ?_
                 refine W.seq ?_
                 refine W.region rfl ?_
                 refine s_val (x_mv (v := I r110) rfl) ?_
                 refine s_val (x_cmp (kd := .i64) (a := r110) (b := 0) (r := r110 != 0) rfl rfl rfl) ?_
                 refine s_val (x_mv (v := B (r110 != 0)) rfl) ?_
                 refine g_val (!(r110 != 0)) (gy_f rfl) (fun hg => x_mv (v := B r07) rfl) ?_
                 refine g_val (!(r110 != 0)) (gy_f rfl) (fun hg => x_mv (v := B r07) (gd_of (c := !(r110 != 0)) hg (B r07))) ?_
                 refine g_val ((!(r110 != 0)) && r07) (gy_gt rfl rfl) (fun hg => x_mv (v := I (r13 - r24)) rfl) ?_
                 refine g_val ((!(r110 != 0)) && r07) (gy_gt rfl rfl) (fun hg => x_mv (v := I r13) rfl) ?_
                 refine g_val ((!(r110 != 0)) && r07) (gy_gt rfl rfl) (fun hg => x_cmp (kd := .i64) (a := r13 - r24) (b := r13) (r := decide ((r13 - r24) < r13)) (gd_of (c := ((!(r110 != 0)) && r07)) hg (I (r13 - r24))) (gd_of (c := ((!(r110 != 0)) && r07)) hg (I r13)) rfl) ?_
                 refine g_val (!(r110 != 0)) (gy_f rfl) (fun hg => x_pand (b := r07) (r := decide ((r13 - r24) < r13)) (gd_of (c := !(r110 != 0)) hg (B r07)) (fun hb => gd_of (c := ((!(r110 != 0)) && r07)) (by first | exact hb | (rw [hb]; rfl) | simp_all) (B (decide ((r13 - r24) < r13)))) rfl) ?_
                 refine s_val (x_por (b := r110 != 0) (r := (r07 && (decide ((r13 - r24) < r13)))) rfl rfl (fun hb => gd_of (c := !(r110 != 0)) (by first | exact hb | (rw [hb]; rfl) | simp_all) (B (r07 && (decide ((r13 - r24) < r13)))))) ?_
                 refine s_nil ?_
                 refine W.cond ((r110 != 0) || (r07 && (decide ((r13 - r24) < r13)))) rfl (fun c265z => ?_) (fun c265z => ?_)
                 ·replace hM := M.e_t hM c265z
                  refine W.seq ?_
                  refine W.region rfl ?_
                  refine s_val (x_as (v := B false) rfl) ?_
                  refine s_nil ?_
                  refine W.ret ?_
                  have hX266z := M.e_inr hM hN83z
                  subst hX266z
                  replace hM := hk76z
                  try dsimp only at hM
                  have hr_ := M.e_pure hM
                  exact ⟨_, resE_tmp rfl, ⟨false, hr_, rfl, (H.pick [] (by decide) rfl)⟩⟩
                 ·replace hM := M.e_f hM c265z
                  refine W.skip ?_
                  refine W.region rfl ?_
                  refine s_val (x_mv (v := I (k : Int)) rfl) ?_
                  refine s_val (x_ari (a := (k : Int)) (b := 1) (r := (k : Int) + 1) rfl rfl rfl (by omega)) ?_
                  refine s_val (x_as (v := I ((k : Int) + 1)) rfl) ?_
                  refine s_nil ?_
                  exact ⟨m80z, lt81z, q110, q210, k + 1, _, upds_of _ _ ⟨rfl, rfl, rfl, rfl, rfl, rfl, rfl, trivial⟩, M.e_inl hM hN83z, (H.pick [3, 4, 5, 6, 0] (by decide) rfl)⟩
             ·skip
              obtain ⟨r268z, hx267z, hM⟩ := M.e_bind hM
              refine s_call cf14 [.pointer (some ⟨nb0_2, 0, none⟩), I 2] rfl (nilometerkit_Stream_Next_ok tries q18 q28 2 (hC_tries.app _) hs_tries hx267z _ (St.give (T := [cOwn (α := Int) 3 u0_11 (r10.set (Int.toNat r11) (max 0 ((r10.getD (Int.toNat r11) 0) - r19) : Int)), cOwn (α := Int) 3 v_l4 l4, cOwn (α := Int) 3 u0_7 r02, cOwn (α := Int) 3 u0_6 r0, cOwn (α := Pk) 72 v_l l, cBlk nb0_1 [v_numbers, I s, I s2] 101]) H rfl)) ?_
              rintro vq w269z ⟨r21, q19, q29, hr270z, hvq, H2_⟩
              subst hr270z
              subst vq
              try dsimp only at hM
              replace H : St w w269z [cBlk nb0_2 [v_tries, I q19, I q29] 101, cOwn (α := Int) 3 u0_11 (r10.set (Int.toNat r11) (max 0 ((r10.getD (Int.toNat r11) 0) - r19) : Int)), cOwn (α := Int) 3 v_l4 l4, cOwn (α := Int) 3 u0_7 r02, cOwn (α := Int) 3 u0_6 r0, cOwn (α := Pk) 72 v_l l, cBlk nb0_1 [v_numbers, I s, I s2] 101] R := H.back H2_ rfl
              clear H2_
              refine s_nil ⟨(H.pick [2, 3, 4, 5, 6] (by decide) rfl), ?_⟩
              refine t_l rfl ?_
              refine s_val (x_ix (a := u0_11) (b := I r20) (v := vat u0_11 1 (Int.toNat r20)) rfl rfl (Sl.ix (α := Int) T27.und T27.size (ownSl (H.get (k := 1) rfl)) (by omega) (by omega))) ?_
              refine s_nil ⟨(H.pick [2, 3, 4, 5, 6] (by decide) rfl), ?_⟩
              refine t_l rfl ?_
              refine s_val (x_ld (p := vat u0_11 1 (Int.toNat r20)) (v := I ((r10.set (Int.toNat r11) (max 0 ((r10.getD (Int.toNat r11) 0) - r19) : Int)).getD (Int.toNat r20) 0)) rfl (ld_sc Sc3 (At.mono (Int_at (ownSl (H.get (k := 1) rfl)) (i := r20) (by omega) (by omega)) (ownLe _ (H.get (k := 1) rfl))))) ?_
              refine s_nil ⟨(H.pick [2, 3, 4, 5, 6] (by decide) rfl), ?_⟩
              obtain ⟨sd271z, hM⟩ := M.e_grd hM
              simp only [Bool.and_eq_true, decide_eq_true_eq] at sd271z
              refine t_q rfl (fun w' H => x_ari (a := (r10.set (Int.toNat r11) (max 0 ((r10.getD (Int.toNat r11) 0) - r19) : Int)).getD (Int.toNat r20) 0) (b := r21) (r := ((r10.set (Int.toNat r11) (max 0 ((r10.getD (Int.toNat r11) 0) - r19) : Int)).getD (Int.toNat r20) 0) + r21) rfl rfl rfl (by omega)) ?_
              refine t_l rfl ?_
              refine s_val (x_ix (a := u0_11) (b := I r20) (v := vat u0_11 1 (Int.toNat r20)) rfl rfl (Sl.ix (α := Int) T27.und T27.size (ownSl (H.get (k := 1) rfl)) (by omega) (by omega))) ?_
              refine s_nil ⟨(H.pick [2, 3, 4, 5, 6] (by decide) rfl), ?_⟩
              refine t_l rfl ?_
              refine t_ost (k := 1) (i := r20) (l := r10.set (Int.toNat r11) (max 0 ((r10.getD (Int.toNat r11) 0) - r19) : Int)) (l' := (r10.set (Int.toNat r11) (max 0 ((r10.getD (Int.toNat r11) 0) - r19) : Int)).set (Int.toNat r20) (((r10.set (Int.toNat r11) (max 0 ((r10.getD (Int.toNat r11) 0) - r19) : Int)).getD (Int.toNat r20) 0) + r21 : Int)) (val := I (((r10.set (Int.toNat r11) (max 0 ((r10.getD (Int.toNat r11) 0) - r19) : Int)).getD (Int.toNat r20) 0) + r21)) (L' := [cBlk nb0_2 [v_tries, I q19, I q29] 101, cOwn (α := Int) 3 u0_11 ((r10.set (Int.toNat r11) (max 0 ((r10.getD (Int.toNat r11) 0) - r19) : Int)).set (Int.toNat r20) (((r10.set (Int.toNat r11) (max 0 ((r10.getD (Int.toNat r11) 0) - r19) : Int)).getD (Int.toNat r20) 0) + r21 : Int)), cOwn (α := Int) 3 v_l4 l4, cOwn (α := Int) 3 u0_7 r02, cOwn (α := Int) 3 u0_6 r0, cOwn (α := Pk) 72 v_l l, cBlk nb0_1 [v_numbers, I s, I s2] 101]) H rfl Sz3 (by omega) (by omega) (((r10.set (Int.toNat r11) (max 0 ((r10.getD (Int.toNat r11) 0) - r19) : Int)).getD (Int.toNat r20) 0) + r21 : Int) rfl rfl rfl rfl rfl ?_
              intro w272z H
              refine s_nil ⟨(H.pick [2, 3, 4, 5, 6] (by decide) rfl), ?_⟩
              refine t_nil ?_
              refine W.seq ?_
              refine W.seq ?_
              refine W.region rfl ?_
              refine s_val (x_as (v := I 0) rfl) ?_
              refine s_nil ?_
              refine W.block ?_
              obtain ⟨ex273z, hi274z, hk275z⟩ := M.e_bind hM
              obtain ⟨m0_, hi274z⟩ := M.e_iter hi274z
              refine W.loop (fun m σ W => ∃ (l7 : List Int) (m2 : Nat) (v_l7 : Value) (ρ : Env), σ = upds ρ [(10, .pointer (some ⟨nb0_2, 0, none⟩)), (11, v_l), (14, I (1 + r6)), (15, I r7), (17, I r13), (19, u0_7), (25, I (k : Int)), (30, v_l7), (32, I (m2 : Int)), (177, gd (r18 != 0) (I r18)), (178, gd (r18 != 0) (B (r18 != 7))), (181, gd (!((r18 != 0) && (r18 != 7))) (I r18)), (182, gd (!((r18 != 0) && (r18 != 7))) (B (r18 == 0))), (183, gd (!((r18 != 0) && (r18 != 7))) (B (r18 == 0))), (184, gd ((!((r18 != 0) && (r18 != 7))) && (r18 == 0)) (I r06)), (185, gd ((!((r18 != 0) && (r18 != 7))) && (r18 == 0)) (I r13)), (186, gd ((!((r18 != 0) && (r18 != 7))) && (r18 == 0)) (B (decide (r13 < r06)))), (187, gd (!((r18 != 0) && (r18 != 7))) (B ((r18 == 0) && (decide (r13 < r06)))))] /\ M.iterN (m_nilometerlaw10_OftenOwn_b4) m (l7, m2) = some ex273z /\ St w W [cBlk nb0_2 [v_tries, I q19, I q29] 101, cOwn (α := Int) 3 v_l7 l7, cOwn (α := Int) 3 v_l4 l4, cOwn (α := Int) 3 u0_7 r02, cOwn (α := Int) 3 u0_6 r0, cOwn (α := Pk) 72 v_l l, cBlk nb0_1 [v_numbers, I s, I s2] 101] R) ?_ ?_
              ·exact ⟨_, (r10.set (Int.toNat r11) (max 0 ((r10.getD (Int.toNat r11) 0) - r19) : Int)).set (Int.toNat r20) (((r10.set (Int.toNat r11) (max 0 ((r10.getD (Int.toNat r11) 0) - r19) : Int)).getD (Int.toNat r20) 0) + r21 : Int), 0, u0_11, _, upds_of _ _ ⟨rfl, rfl, rfl, rfl, rfl, rfl, rfl, rfl, rfl, rfl, rfl, rfl, rfl, rfl, rfl, rfl, rfl, rfl, trivial⟩, hi274z, H⟩
              ·rintro m278z σ w276z ⟨l7, m2, v_l7, ρ, rfl, hI277z, H⟩
               obtain ⟨m279z, lt280z, x281z, hM, hN282z⟩ := M.e_iterN hI277z
               simp only [m_nilometerlaw10_OftenOwn_b4] at hM
               clear hI277z
               refine W.seq ?_
               refine W.seq ?_
               refine W.region rfl ?_
               refine s_val (x_mv (v := I (m2 : Int)) rfl) ?_
               refine s_val (x_mv (v := v_l7) rfl) ?_
               have hl283z := ((ownSl (H.get (k := 1) rfl))).len_le
               refine s_val (x_lenS T27.und rfl (ownSl (H.get (k := 1) rfl))) ?_
               refine s_val (x_cmp (kd := .i64) (a := (m2 : Int)) (b := (l7.length : Int)) (r := decide ((m2 : Int) < (l7.length : Int))) rfl rfl rfl) ?_
               refine s_nil ?_
               refine W.cond (decide ((m2 : Int) < (l7.length : Int))) rfl (fun c284z => ?_) (fun c284z => ?_)
               ·replace hM := M.e_t hM c284z
                simp only [decide_eq_true_eq, decide_eq_false_iff_not, beq_iff_eq, bne_iff_ne, beq_eq_false_iff_ne, bne_eq_false_iff_eq, ne_eq, Decidable.not_not] at c284z
                refine W.skip ?_
                refine W.seq ?_
                refine W.block ?_
                refine W.region rfl ?_
                refine s_val (x_mv (v := v_l7) rfl) ?_
                refine s_val (x_mv (v := I (m2 : Int)) rfl) ?_
                refine s_val (x_mv (v := v_l7) rfl) ?_
                refine s_val (x_mv (v := I (m2 : Int)) rfl) ?_
                obtain ⟨sd285z, hM⟩ := M.e_grd hM
                simp only [Bool.and_eq_true, decide_eq_true_eq] at sd285z
                refine s_val (x_ix (a := v_l7) (b := I (m2 : Int)) (v := vat v_l7 1 (Int.toNat (m2 : Int))) rfl rfl (Sl.ix (α := Int) T27.und T27.size (ownSl (H.get (k := 1) rfl)) (by omega) (by omega))) ?_
                refine s_val (x_ld (p := vat v_l7 1 (Int.toNat (m2 : Int))) (v := I (l7.getD m2 0)) rfl (ld_sc Sc3 (At.mono (Int_at (ownSl (H.get (k := 1) rfl)) (i := (m2 : Int)) (by omega) (by omega)) (ownLe _ (H.get (k := 1) rfl))))) ?_
                refine s_val (x_min (kd := .i64) (a := l7.getD m2 0) (b := 2000) rfl rfl) ?_
                refine s_val (x_ix (a := v_l7) (b := I (m2 : Int)) (v := vat v_l7 1 (Int.toNat (m2 : Int))) rfl rfl (Sl.ix (α := Int) T27.und T27.size (ownSl (H.get (k := 1) rfl)) (by omega) (by omega))) ?_
                refine t_ost (k := 1) (i := (m2 : Int)) (l := l7) (l' := l7.set m2 (min (l7.getD m2 0) 2000 : Int)) (val := I (min (l7.getD m2 0) 2000)) (L' := [cBlk nb0_2 [v_tries, I q19, I q29] 101, cOwn (α := Int) 3 v_l7 (l7.set m2 (min (l7.getD m2 0) 2000 : Int)), cOwn (α := Int) 3 v_l4 l4, cOwn (α := Int) 3 u0_7 r02, cOwn (α := Int) 3 u0_6 r0, cOwn (α := Pk) 72 v_l l, cBlk nb0_1 [v_numbers, I s, I s2] 101]) H rfl Sz3 (by omega) (by omega) (min (l7.getD m2 0) 2000 : Int) rfl rfl rfl rfl rfl ?_
                intro w286z H
                refine s_nil ?_
                refine W.region rfl ?_
                refine s_val (x_mv (v := I (m2 : Int)) rfl) ?_
                refine s_val (x_ari (a := (m2 : Int)) (b := 1) (r := (m2 : Int) + 1) rfl rfl rfl (by omega)) ?_
                refine s_val (x_as (v := I ((m2 : Int) + 1)) rfl) ?_
                refine s_nil ?_
                exact ⟨m279z, lt280z, l7.set m2 (min (l7.getD m2 0) 2000 : Int), m2 + 1, v_l7, _, upds_of _ _ ⟨rfl, rfl, rfl, rfl, rfl, rfl, rfl, rfl, rfl, rfl, rfl, rfl, rfl, rfl, rfl, rfl, rfl, rfl, trivial⟩, M.e_inl hM hN282z, H⟩
               ·replace hM := M.e_f hM c284z
                simp only [decide_eq_true_eq, decide_eq_false_iff_not, beq_iff_eq, bne_iff_ne, beq_eq_false_iff_ne, bne_eq_false_iff_eq, ne_eq, Decidable.not_not] at c284z
                refine W.exit ?_
                have hX287z := M.e_inr hM hN282z
                subst hX287z
                replace hM := hk275z
                try dsimp only at hM
                refine W.seq ?_
                refine W.region rfl ?_
                refine s_val (x_mv (v := I r13) rfl) ?_
                refine s_val (x_mv (v := .pointer (some ⟨nb0_2, 0, none⟩)) rfl) ?_
                obtain ⟨r289z, hx288z, hM⟩ := M.e_bind hM
                refine s_call cf14 [.pointer (some ⟨nb0_2, 0, none⟩), I 9] rfl (nilometerkit_Stream_Next_ok tries q19 q29 9 (hC_tries.app _) hs_tries hx288z _ (St.give (T := [cOwn (α := Int) 3 v_l7 l7, cOwn (α := Int) 3 v_l4 l4, cOwn (α := Int) 3 u0_7 r02, cOwn (α := Int) 3 u0_6 r0, cOwn (α := Pk) 72 v_l l, cBlk nb0_1 [v_numbers, I s, I s2] 101]) H rfl)) ?_
                rintro vq w290z ⟨r24, q110, q210, hr291z, hvq, H2_⟩
                subst hr291z
                subst vq
                try dsimp only at hM
                replace H : St w w290z [cBlk nb0_2 [v_tries, I q110, I q210] 101, cOwn (α := Int) 3 v_l7 l7, cOwn (α := Int) 3 v_l4 l4, cOwn (α := Int) 3 u0_7 r02, cOwn (α := Int) 3 u0_6 r0, cOwn (α := Pk) 72 v_l l, cBlk nb0_1 [v_numbers, I s, I s2] 101] R := H.back H2_ rfl
                clear H2_
                obtain ⟨sd292z, hM⟩ := M.e_grd hM
                simp only [Bool.and_eq_true, decide_eq_true_eq] at sd292z
                refine s_val (x_ari (a := r13) (b := r24) (r := r13 - r24) rfl rfl rfl (by omega)) ?_
                refine s_val (x_as (v := I (r13 - r24)) rfl) ?_
                refine s_nil ?_
                refine W.seq ?_
                refine W.region rfl ?_
                refine s_val (x_mv (v := v_l) rfl) ?_
                refine s_val (x_mv (v := I (1 + r6)) rfl) ?_
                refine s_val (x_mv (v := I r7) rfl) ?_
                refine s_val (x_mv (v := I (r13 - r24)) rfl) ?_
                refine s_val (x_mv (v := v_l7) rfl) ?_
                obtain ⟨r294z, hx293z, hM⟩ := M.e_bind hM
                refine s_call cf41 [v_l, I (1 + r6), I r7, I (r13 - r24), v_l7] rfl (often_Proves_ok l (1 + r6) r7 (r13 - r24) l7 (Reads.of (k := 5) rfl ownLe) (ownSl (H.get (k := 5) rfl)) (Reads.of (k := 1) rfl ownLe) (ownSl (H.get (k := 1) rfl)) hx293z _ (St.give (T := [cBlk nb0_2 [v_tries, I q110, I q210] 101, cOwn (α := Int) 3 v_l7 l7, cOwn (α := Int) 3 v_l4 l4, cOwn (α := Int) 3 u0_7 r02, cOwn (α := Int) 3 u0_6 r0, cOwn (α := Pk) 72 v_l l, cBlk nb0_1 [v_numbers, I s, I s2] 101]) H rfl)) ?_
                rintro vq w295z ⟨r07, r110, hr296z, hvq, H2_⟩
                subst hr296z
                subst vq
                try dsimp only at hM
                replace H : St w w295z [cBlk nb0_2 [v_tries, I q110, I q210] 101, cOwn (α := Int) 3 v_l7 l7, cOwn (α := Int) 3 v_l4 l4, cOwn (α := Int) 3 u0_7 r02, cOwn (α := Int) 3 u0_6 r0, cOwn (α := Pk) 72 v_l l, cBlk nb0_1 [v_numbers, I s, I s2] 101] R := H.back H2_ rfl
                clear H2_
                refine s_val (x_mv (v := .tuple #[B r07, I r110]) rfl) ?_
                refine s_val (x_ext (vs := [B r07, I r110]) (v := B r07) rfl rfl) ?_
                refine s_val (x_ext (vs := [B r07, I r110]) (v := I r110) rfl rfl) ?_
                refine s_val (x_as (v := B r07) rfl) ?_
                refine s_val (x_as (v := I r110) rfl) ?_
                refine s_nil ?_
                refine W.seq ?_
                refine W.region rfl ?_
                refine s_val (x_mv (v := I r110) rfl) ?_
                refine s_val (x_cmp (kd := .i64) (a := r110) (b := 0) (r := r110 != 0) rfl rfl rfl) ?_
                refine s_val (x_mv (v := B (r110 != 0)) rfl) ?_
                refine g_val (!(r110 != 0)) (gy_f rfl) (fun hg => x_mv (v := B r07) rfl) ?_
                refine g_val (!(r110 != 0)) (gy_f rfl) (fun hg => x_mv (v := B r07) (gd_of (c := !(r110 != 0)) hg (B r07))) ?_
                refine g_val ((!(r110 != 0)) && r07) (gy_gt rfl rfl) (fun hg => x_mv (v := I (r13 - r24)) rfl) ?_
                refine g_val ((!(r110 != 0)) && r07) (gy_gt rfl rfl) (fun hg => x_mv (v := I r13) rfl) ?_
                refine g_val ((!(r110 != 0)) && r07) (gy_gt rfl rfl) (fun hg => x_cmp (kd := .i64) (a := r13 - r24) (b := r13) (r := decide ((r13 - r24) < r13)) (gd_of (c := ((!(r110 != 0)) && r07)) hg (I (r13 - r24))) (gd_of (c := ((!(r110 != 0)) && r07)) hg (I r13)) rfl) ?_
                refine g_val (!(r110 != 0)) (gy_f rfl) (fun hg => x_pand (b := r07) (r := decide ((r13 - r24) < r13)) (gd_of (c := !(r110 != 0)) hg (B r07)) (fun hb => gd_of (c := ((!(r110 != 0)) && r07)) (by first | exact hb | (rw [hb]; rfl) | simp_all) (B (decide ((r13 - r24) < r13)))) rfl) ?_
                refine s_val (x_por (b := r110 != 0) (r := (r07 && (decide ((r13 - r24) < r13)))) rfl rfl (fun hb => gd_of (c := !(r110 != 0)) (by first | exact hb | (rw [hb]; rfl) | simp_all) (B (r07 && (decide ((r13 - r24) < r13)))))) ?_
                refine s_nil ?_
                refine W.cond ((r110 != 0) || (r07 && (decide ((r13 - r24) < r13)))) rfl (fun c297z => ?_) (fun c297z => ?_)
                ·replace hM := M.e_t hM c297z
                 refine W.seq ?_
                 refine W.region rfl ?_
                 refine s_val (x_as (v := B false) rfl) ?_
                 refine s_nil ?_
                 refine W.ret ?_
                 have hX298z := M.e_inr hM hN83z
                 subst hX298z
                 replace hM := hk76z
                 try dsimp only at hM
                 have hr_ := M.e_pure hM
                 exact ⟨_, resE_tmp rfl, ⟨false, hr_, rfl, (H.pick [] (by decide) rfl)⟩⟩
                ·replace hM := M.e_f hM c297z
                 refine W.skip ?_
                 refine W.region rfl ?_
                 refine s_val (x_mv (v := I (k : Int)) rfl) ?_
                 refine s_val (x_ari (a := (k : Int)) (b := 1) (r := (k : Int) + 1) rfl rfl rfl (by omega)) ?_
                 refine s_val (x_as (v := I ((k : Int) + 1)) rfl) ?_
                 refine s_nil ?_
                 exact ⟨m80z, lt81z, q110, q210, k + 1, _, upds_of _ _ ⟨rfl, rfl, rfl, rfl, rfl, rfl, rfl, trivial⟩, M.e_inl hM hN83z, (H.pick [3, 4, 5, 6, 0] (by decide) rfl)⟩
            ·skip
             obtain ⟨r300z, hx299z, hM⟩ := M.e_bind hM
             refine s_call cf14 [.pointer (some ⟨nb0_2, 0, none⟩), I 20] rfl (nilometerkit_Stream_Next_ok tries q16 q26 20 (hC_tries.app _) hs_tries hx299z _ (St.give (T := [cOwn (α := Int) 3 u0_11 r10, cOwn (α := Int) 3 v_l4 l4, cOwn (α := Int) 3 u0_7 r02, cOwn (α := Int) 3 u0_6 r0, cOwn (α := Pk) 72 v_l l, cBlk nb0_1 [v_numbers, I s, I s2] 101]) H rfl)) ?_
             rintro vq w301z ⟨r19, q17, q27, hr302z, hvq, H2_⟩
             subst hr302z
             subst vq
             try dsimp only at hM
             replace H : St w w301z [cBlk nb0_2 [v_tries, I q17, I q27] 101, cOwn (α := Int) 3 u0_11 r10, cOwn (α := Int) 3 v_l4 l4, cOwn (α := Int) 3 u0_7 r02, cOwn (α := Int) 3 u0_6 r0, cOwn (α := Pk) 72 v_l l, cBlk nb0_1 [v_numbers, I s, I s2] 101] R := H.back H2_ rfl
             clear H2_
             refine s_nil ⟨(H.pick [2, 3, 4, 5, 6] (by decide) rfl), ?_⟩
             refine t_l rfl ?_
             refine s_val (x_ld (p := vat u0_11 1 (Int.toNat r11)) (v := I (r10.getD (Int.toNat r11) 0)) rfl (ld_sc Sc3 (At.mono (Int_at (ownSl (H.get (k := 1) rfl)) (i := r11) (by omega) (by omega)) (ownLe _ (H.get (k := 1) rfl))))) ?_
             refine s_nil ⟨(H.pick [2, 3, 4, 5, 6] (by decide) rfl), ?_⟩
             obtain ⟨sd303z, hM⟩ := M.e_grd hM
             simp only [Bool.and_eq_true, decide_eq_true_eq] at sd303z
             refine t_q rfl (fun w' H => x_ari (a := r10.getD (Int.toNat r11) 0) (b := r19) (r := (r10.getD (Int.toNat r11) 0) - r19) rfl rfl rfl (by omega)) ?_
             refine t_q rfl (fun w' H => x_max (kd := .i64) (a := 0) (b := (r10.getD (Int.toNat r11) 0) - r19) rfl rfl) ?_
             refine t_l rfl ?_
             refine s_val (x_ix (a := u0_11) (b := I r11) (v := vat u0_11 1 (Int.toNat r11)) rfl rfl (Sl.ix (α := Int) T27.und T27.size (ownSl (H.get (k := 1) rfl)) (by omega) (by omega))) ?_
             refine s_nil ⟨(H.pick [2, 3, 4, 5, 6] (by decide) rfl), ?_⟩
             refine t_l rfl ?_
             refine t_ost (k := 1) (i := r11) (l := r10) (l' := r10.set (Int.toNat r11) (max 0 ((r10.getD (Int.toNat r11) 0) - r19) : Int)) (val := I (max 0 ((r10.getD (Int.toNat r11) 0) - r19))) (L' := [cBlk nb0_2 [v_tries, I q17, I q27] 101, cOwn (α := Int) 3 u0_11 (r10.set (Int.toNat r11) (max 0 ((r10.getD (Int.toNat r11) 0) - r19) : Int)), cOwn (α := Int) 3 v_l4 l4, cOwn (α := Int) 3 u0_7 r02, cOwn (α := Int) 3 u0_6 r0, cOwn (α := Pk) 72 v_l l, cBlk nb0_1 [v_numbers, I s, I s2] 101]) H rfl Sz3 (by omega) (by omega) (max 0 ((r10.getD (Int.toNat r11) 0) - r19) : Int) rfl rfl rfl rfl rfl ?_
             intro w304z H
             refine s_nil ⟨(H.pick [2, 3, 4, 5, 6] (by decide) rfl), ?_⟩
             refine t_nil ?_
             refine W.seq ?_
             refine W.drawT (fun W => St w W [cOwn (α := Int) 3 v_l4 l4, cOwn (α := Int) 3 u0_7 r02, cOwn (α := Int) 3 u0_6 r0, cOwn (α := Pk) 72 v_l l, cBlk nb0_1 [v_numbers, I s, I s2] 101] R) (.q 0 (.q 1 (.q 2 (.q 7 (.l 3 (.l 4 (.l2 5 (.l2 6 (.l 8 (.q 9 (.l 10 (.l 11 .nil)))) 8 (.l 6 (.q 9 (.l 10 (.l 11 .nil))))) 8 (.l 5 (.l 6 (.q 9 (.l 10 (.l 11 .nil)))))))))))) mixed (by decide +kernel) rfl ?_
             intro w305z hx_
             replace H : St w w305z [cBlk nb0_2 [v_tries, I q17, I q27] 101, cOwn (α := Int) 3 u0_11 (r10.set (Int.toNat r11) (max 0 ((r10.getD (Int.toNat r11) 0) - r19) : Int)), cOwn (α := Int) 3 v_l4 l4, cOwn (α := Int) 3 u0_7 r02, cOwn (α := Int) 3 u0_6 r0, cOwn (α := Pk) 72 v_l l, cBlk nb0_1 [v_numbers, I s, I s2] 101] R := H.ext hx_
             clear hx_
             refine ⟨(H.pick [2, 3, 4, 5, 6] (by decide) rfl), ?_⟩
             refine t_q rfl (fun w' H => x_mv (v := u0_11) rfl) ?_
             refine t_q rfl (fun w' H => x_mv (v := .pointer (some ⟨nb0_2, 0, none⟩)) rfl) ?_
             refine t_q rfl (fun w' H => x_mv (v := u0_11) rfl) ?_
             refine t_q rfl (fun w' H => x_mv (v := .pointer (some ⟨nb0_2, 0, none⟩)) rfl) ?_
             refine t_l rfl ?_
             have hl306z := ((ownSl (H.get (k := 1) rfl))).len_le
             refine s_val (x_lenS T27.und rfl (ownSl (H.get (k := 1) rfl))) ?_
             refine s_nil ⟨(H.pick [2, 3, 4, 5, 6] (by decide) rfl), ?_⟩
             refine t_l rfl ?_
             obtain ⟨r308z, hx307z, hM⟩ := M.e_bind hM
             refine s_call cf14 [.pointer (some ⟨nb0_2, 0, none⟩), I ((r10.set (Int.toNat r11) (max 0 ((r10.getD (Int.toNat r11) 0) - r19) : Int)).length : Int)] rfl (nilometerkit_Stream_Next_ok tries q17 q27 ((r10.set (Int.toNat r11) (max 0 ((r10.getD (Int.toNat r11) 0) - r19) : Int)).length : Int) (hC_tries.app _) hs_tries hx307z _ (St.give (T := [cOwn (α := Int) 3 u0_11 (r10.set (Int.toNat r11) (max 0 ((r10.getD (Int.toNat r11) 0) - r19) : Int)), cOwn (α := Int) 3 v_l4 l4, cOwn (α := Int) 3 u0_7 r02, cOwn (α := Int) 3 u0_6 r0, cOwn (α := Pk) 72 v_l l, cBlk nb0_1 [v_numbers, I s, I s2] 101]) H rfl)) ?_
             rintro vq w309z ⟨r20, q18, q28, hr310z, hvq, H2_⟩
             subst hr310z
             subst vq
             try dsimp only at hM
             replace H : St w w309z [cBlk nb0_2 [v_tries, I q18, I q28] 101, cOwn (α := Int) 3 u0_11 (r10.set (Int.toNat r11) (max 0 ((r10.getD (Int.toNat r11) 0) - r19) : Int)), cOwn (α := Int) 3 v_l4 l4, cOwn (α := Int) 3 u0_7 r02, cOwn (α := Int) 3 u0_6 r0, cOwn (α := Pk) 72 v_l l, cBlk nb0_1 [v_numbers, I s, I s2] 101] R := H.back H2_ rfl
             clear H2_
             refine s_nil ⟨(H.pick [2, 3, 4, 5, 6] (by decide) rfl), ?_⟩
             obtain ⟨sd323z, hM⟩ := M.e_grd hM
             simp only [Bool.and_eq_true, decide_eq_true_eq] at sd323z
             refine t_l2 rfl rfl ?_ ?_
             ·skip
              refine s_val (x_ix (a := u0_11) (b := I r20) (v := vat u0_11 1 (Int.toNat r20)) rfl rfl (Sl.ix (α := Int) T27.und T27.size (ownSl (H.get (k := 1) rfl)) (by omega) (by omega))) ?_
              refine s_nil ⟨(H.pick [2, 3, 4, 5, 6] (by decide) rfl), ?_⟩
              refine t_l2 rfl rfl ?_ ?_
              ·skip
               refine s_val (x_ld (p := vat u0_11 1 (Int.toNat r20)) (v := I ((r10.set (Int.toNat r11) (max 0 ((r10.getD (Int.toNat r11) 0) - r19) : Int)).getD (Int.toNat r20) 0)) rfl (ld_sc Sc3 (At.mono (Int_at (ownSl (H.get (k := 1) rfl)) (i := r20) (by omega) (by omega)) (ownLe _ (H.get (k := 1) rfl))))) ?_
               refine s_nil ⟨(H.pick [2, 3, 4, 5, 6] (by decide) rfl), ?_⟩
               refine t_l rfl ?_
               obtain ⟨r331z, hx330z, hM⟩ := M.e_bind hM
               refine s_call cf14 [.pointer (some ⟨nb0_2, 0, none⟩), I 2] rfl (nilometerkit_Stream_Next_ok tries q18 q28 2 (hC_tries.app _) hs_tries hx330z _ (St.give (T := [cOwn (α := Int) 3 u0_11 (r10.set (Int.toNat r11) (max 0 ((r10.getD (Int.toNat r11) 0) - r19) : Int)), cOwn (α := Int) 3 v_l4 l4, cOwn (α := Int) 3 u0_7 r02, cOwn (α := Int) 3 u0_6 r0, cOwn (α := Pk) 72 v_l l, cBlk nb0_1 [v_numbers, I s, I s2] 101]) H rfl)) ?_
               rintro vq w332z ⟨r21, q19, q29, hr333z, hvq, H2_⟩
               subst hr333z
               subst vq
               try dsimp only at hM
               replace H : St w w332z [cBlk nb0_2 [v_tries, I q19, I q29] 101, cOwn (α := Int) 3 u0_11 (r10.set (Int.toNat r11) (max 0 ((r10.getD (Int.toNat r11) 0) - r19) : Int)), cOwn (α := Int) 3 v_l4 l4, cOwn (α := Int) 3 u0_7 r02, cOwn (α := Int) 3 u0_6 r0, cOwn (α := Pk) 72 v_l l, cBlk nb0_1 [v_numbers, I s, I s2] 101] R := H.back H2_ rfl
               clear H2_
               refine s_nil ⟨(H.pick [2, 3, 4, 5, 6] (by decide) rfl), ?_⟩
               obtain ⟨sd334z, hM⟩ := M.e_grd hM
               simp only [Bool.and_eq_true, decide_eq_true_eq] at sd334z
               refine t_q rfl (fun w' H => x_ari (a := (r10.set (Int.toNat r11) (max 0 ((r10.getD (Int.toNat r11) 0) - r19) : Int)).getD (Int.toNat r20) 0) (b := r21) (r := ((r10.set (Int.toNat r11) (max 0 ((r10.getD (Int.toNat r11) 0) - r19) : Int)).getD (Int.toNat r20) 0) + r21) rfl rfl rfl (by omega)) ?_
               refine t_l rfl ?_
               refine s_val (x_ix (a := u0_11) (b := I r20) (v := vat u0_11 1 (Int.toNat r20)) rfl rfl (Sl.ix (α := Int) T27.und T27.size (ownSl (H.get (k := 1) rfl)) (by omega) (by omega))) ?_
               refine s_nil ⟨(H.pick [2, 3, 4, 5, 6] (by decide) rfl), ?_⟩
               refine t_l rfl ?_
               refine t_ost (k := 1) (i := r20) (l := r10.set (Int.toNat r11) (max 0 ((r10.getD (Int.toNat r11) 0) - r19) : Int)) (l' := (r10.set (Int.toNat r11) (max 0 ((r10.getD (Int.toNat r11) 0) - r19) : Int)).set (Int.toNat r20) (((r10.set (Int.toNat r11) (max 0 ((r10.getD (Int.toNat r11) 0) - r19) : Int)).getD (Int.toNat r20) 0) + r21 : Int)) (val := I (((r10.set (Int.toNat r11) (max 0 ((r10.getD (Int.toNat r11) 0) - r19) : Int)).getD (Int.toNat r20) 0) + r21)) (L' := [cBlk nb0_2 [v_tries, I q19, I q29] 101, cOwn (α := Int) 3 u0_11 ((r10.set (Int.toNat r11) (max 0 ((r10.getD (Int.toNat r11) 0) - r19) : Int)).set (Int.toNat r20) (((r10.set (Int.toNat r11) (max 0 ((r10.getD (Int.toNat r11) 0) - r19) : Int)).getD (Int.toNat r20) 0) + r21 : Int)), cOwn (α := Int) 3 v_l4 l4, cOwn (α := Int) 3 u0_7 r02, cOwn (α := Int) 3 u0_6 r0, cOwn (α := Pk) 72 v_l l, cBlk nb0_1 [v_numbers, I s, I s2] 101]) H rfl Sz3 (by omega) (by omega) (((r10.set (Int.toNat r11) (max 0 ((r10.getD (Int.toNat r11) 0) - r19) : Int)).getD (Int.toNat r20) 0) + r21 : Int) rfl rfl rfl rfl rfl ?_
               intro w335z H
               refine s_nil ⟨(H.pick [2, 3, 4, 5, 6] (by decide) rfl), ?_⟩
               refine t_nil ?_
               refine W.seq ?_
               refine W.seq ?_
               refine W.region rfl ?_
               refine s_val (x_as (v := I 0) rfl) ?_
               refine s_nil ?_
               refine W.block ?_
               obtain ⟨ex336z, hi337z, hk338z⟩ := M.e_bind hM
               obtain ⟨m0_, hi337z⟩ := M.e_iter hi337z
               refine W.loop (fun m σ W => ∃ (l7 : List Int) (m2 : Nat) (v_l7 : Value) (ρ : Env), σ = upds ρ [(10, .pointer (some ⟨nb0_2, 0, none⟩)), (11, v_l), (14, I (1 + r6)), (15, I r7), (17, I r13), (19, u0_7), (25, I (k : Int)), (30, v_l7), (32, I (m2 : Int)), (177, gd (r18 != 0) (I r18)), (178, gd (r18 != 0) (B (r18 != 7))), (181, gd (!((r18 != 0) && (r18 != 7))) (I r18)), (182, gd (!((r18 != 0) && (r18 != 7))) (B (r18 == 0))), (183, gd (!((r18 != 0) && (r18 != 7))) (B (r18 == 0))), (184, gd ((!((r18 != 0) && (r18 != 7))) && (r18 == 0)) (I r06)), (185, gd ((!((r18 != 0) && (r18 != 7))) && (r18 == 0)) (I r13)), (186, gd ((!((r18 != 0) && (r18 != 7))) && (r18 == 0)) (B (decide (r13 < r06)))), (187, gd (!((r18 != 0) && (r18 != 7))) (B ((r18 == 0) && (decide (r13 < r06)))))] /\ M.iterN (m_nilometerlaw10_OftenOwn_b4) m (l7, m2) = some ex336z /\ St w W [cBlk nb0_2 [v_tries, I q19, I q29] 101, cOwn (α := Int) 3 v_l7 l7, cOwn (α := Int) 3 v_l4 l4, cOwn (α := Int) 3 u0_7 r02, cOwn (α := Int) 3 u0_6 r0, cOwn (α := Pk) 72 v_l l, cBlk nb0_1 [v_numbers, I s, I s2] 101] R) ?_ ?_
               ·exact ⟨_, (r10.set (Int.toNat r11) (max 0 ((r10.getD (Int.toNat r11) 0) - r19) : Int)).set (Int.toNat r20) (((r10.set (Int.toNat r11) (max 0 ((r10.getD (Int.toNat r11) 0) - r19) : Int)).getD (Int.toNat r20) 0) + r21 : Int), 0, u0_11, _, upds_of _ _ ⟨rfl, rfl, rfl, rfl, rfl, rfl, rfl, rfl, rfl, rfl, rfl, rfl, rfl, rfl, rfl, rfl, rfl, rfl, trivial⟩, hi337z, H⟩
               ·rintro m341z σ w339z ⟨l7, m2, v_l7, ρ, rfl, hI340z, H⟩
                obtain ⟨m342z, lt343z, x344z, hM, hN345z⟩ := M.e_iterN hI340z
                simp only [m_nilometerlaw10_OftenOwn_b4] at hM
                clear hI340z
                refine W.seq ?_
                refine W.seq ?_
                refine W.region rfl ?_
                refine s_val (x_mv (v := I (m2 : Int)) rfl) ?_
                refine s_val (x_mv (v := v_l7) rfl) ?_
                have hl346z := ((ownSl (H.get (k := 1) rfl))).len_le
                refine s_val (x_lenS T27.und rfl (ownSl (H.get (k := 1) rfl))) ?_
                refine s_val (x_cmp (kd := .i64) (a := (m2 : Int)) (b := (l7.length : Int)) (r := decide ((m2 : Int) < (l7.length : Int))) rfl rfl rfl) ?_
                refine s_nil ?_
                refine W.cond (decide ((m2 : Int) < (l7.length : Int))) rfl (fun c347z => ?_) (fun c347z => ?_)
                ·replace hM := M.e_t hM c347z
                 simp only [decide_eq_true_eq, decide_eq_false_iff_not, beq_iff_eq, bne_iff_ne, beq_eq_false_iff_ne, bne_eq_false_iff_eq, ne_eq, Decidable.not_not] at c347z
                 refine W.skip ?_
                 refine W.seq ?_
                 refine W.block ?_
                 refine W.region rfl ?_
                 refine s_val (x_mv (v := v_l7) rfl) ?_
                 refine s_val (x_mv (v := I (m2 : Int)) rfl) ?_
                 refine s_val (x_mv (v := v_l7) rfl) ?_
                 refine s_val (x_mv (v := I (m2 : Int)) rfl) ?_
                 obtain ⟨sd348z, hM⟩ := M.e_grd hM
                 simp only [Bool.and_eq_true, decide_eq_true_eq] at sd348z
                 refine s_val (x_ix (a := v_l7) (b := I (m2 : Int)) (v := vat v_l7 1 (Int.toNat (m2 : Int))) rfl rfl (Sl.ix (α := Int) T27.und T27.size (ownSl (H.get (k := 1) rfl)) (by omega) (by omega))) ?_
                 refine s_val (x_ld (p := vat v_l7 1 (Int.toNat (m2 : Int))) (v := I (l7.getD m2 0)) rfl (ld_sc Sc3 (At.mono (Int_at (ownSl (H.get (k := 1) rfl)) (i := (m2 : Int)) (by omega) (by omega)) (ownLe _ (H.get (k := 1) rfl))))) ?_
                 refine s_val (x_min (kd := .i64) (a := l7.getD m2 0) (b := 2000) rfl rfl) ?_
                 refine s_val (x_ix (a := v_l7) (b := I (m2 : Int)) (v := vat v_l7 1 (Int.toNat (m2 : Int))) rfl rfl (Sl.ix (α := Int) T27.und T27.size (ownSl (H.get (k := 1) rfl)) (by omega) (by omega))) ?_
                 refine t_ost (k := 1) (i := (m2 : Int)) (l := l7) (l' := l7.set m2 (min (l7.getD m2 0) 2000 : Int)) (val := I (min (l7.getD m2 0) 2000)) (L' := [cBlk nb0_2 [v_tries, I q19, I q29] 101, cOwn (α := Int) 3 v_l7 (l7.set m2 (min (l7.getD m2 0) 2000 : Int)), cOwn (α := Int) 3 v_l4 l4, cOwn (α := Int) 3 u0_7 r02, cOwn (α := Int) 3 u0_6 r0, cOwn (α := Pk) 72 v_l l, cBlk nb0_1 [v_numbers, I s, I s2] 101]) H rfl Sz3 (by omega) (by omega) (min (l7.getD m2 0) 2000 : Int) rfl rfl rfl rfl rfl ?_
                 intro w349z H
                 refine s_nil ?_
                 refine W.region rfl ?_
                 refine s_val (x_mv (v := I (m2 : Int)) rfl) ?_
                 refine s_val (x_ari (a := (m2 : Int)) (b := 1) (r := (m2 : Int) + 1) rfl rfl rfl (by omega)) ?_
                 refine s_val (x_as (v := I ((m2 : Int) + 1)) rfl) ?_
                 refine s_nil ?_
                 exact ⟨m342z, lt343z, l7.set m2 (min (l7.getD m2 0) 2000 : Int), m2 + 1, v_l7, _, upds_of _ _ ⟨rfl, rfl, rfl, rfl, rfl, rfl, rfl, rfl, rfl, rfl, rfl, rfl, rfl, rfl, rfl, rfl, rfl, rfl, trivial⟩, M.e_inl hM hN345z, H⟩
                ·replace hM := M.e_f hM c347z
                 simp only [decide_eq_true_eq, decide_eq_false_iff_not, beq_iff_eq, bne_iff_ne, beq_eq_false_iff_ne, bne_eq_false_iff_eq, ne_eq, Decidable.not_not] at c347z
                 refine W.exit ?_
                 have hX350z := M.e_inr hM hN345z
                 subst hX350z
                 replace hM := hk338z
                 try dsimp only at hM
                 refine W.seq ?_
                 refine W.region rfl ?_
                 refine s_val (x_mv (v := I r13) rfl) ?_
                 refine s_val (x_mv (v := .pointer (some ⟨nb0_2, 0, none⟩)) rfl) ?_
                 obtain ⟨r352z, hx351z, hM⟩ := M.e_bind hM
                 refine s_call cf14 [.pointer (some ⟨nb0_2, 0, none⟩), I 9] rfl (nilometerkit_Stream_Next_ok tries q19 q29 9 (hC_tries.app _) hs_tries hx351z _ (St.give (T := [cOwn (α := Int) 3 v_l7 l7, cOwn (α := Int) 3 v_l4 l4, cOwn (α := Int) 3 u0_7 r02, cOwn (α := Int) 3 u0_6 r0, cOwn (α := Pk) 72 v_l l, cBlk nb0_1 [v_numbers, I s, I s2] 101]) H rfl)) ?_
                 rintro vq w353z ⟨r24, q110, q210, hr354z, hvq, H2_⟩
                 subst hr354z
                 subst vq
                 try dsimp only at hM
                 replace H : St w w353z [cBlk nb0_2 [v_tries, I q110, I q210] 101, cOwn (α := Int) 3 v_l7 l7, cOwn (α := Int) 3 v_l4 l4, cOwn (α := Int) 3 u0_7 r02, cOwn (α := Int) 3 u0_6 r0, cOwn (α := Pk) 72 v_l l, cBlk nb0_1 [v_numbers, I s, I s2] 101] R := H.back H2_ rfl
                 clear H2_
                 obtain ⟨sd355z, hM⟩ := M.e_grd hM
                 simp only [Bool.and_eq_true, decide_eq_true_eq] at sd355z
                 refine s_val (x_ari (a := r13) (b := r24) (r := r13 - r24) rfl rfl rfl (by omega)) ?_
                 refine s_val (x_as (v := I (r13 - r24)) rfl) ?_
                 refine s_nil ?_
                 refine W.seq ?_
                 refine W.region rfl ?_
                 refine s_val (x_mv (v := v_l) rfl) ?_
                 refine s_val (x_mv (v := I (1 + r6)) rfl) ?_
                 refine s_val (x_mv (v := I r7) rfl) ?_
                 refine s_val (x_mv (v := I (r13 - r24)) rfl) ?_
                 refine s_val (x_mv (v := v_l7) rfl) ?_
                 obtain ⟨r357z, hx356z, hM⟩ := M.e_bind hM
                 refine s_call cf41 [v_l, I (1 + r6), I r7, I (r13 - r24), v_l7] rfl (often_Proves_ok l (1 + r6) r7 (r13 - r24) l7 (Reads.of (k := 5) rfl ownLe) (ownSl (H.get (k := 5) rfl)) (Reads.of (k := 1) rfl ownLe) (ownSl (H.get (k := 1) rfl)) hx356z _ (St.give (T := [cBlk nb0_2 [v_tries, I q110, I q210] 101, cOwn (α := Int) 3 v_l7 l7, cOwn (α := Int) 3 v_l4 l4, cOwn (α := Int) 3 u0_7 r02, cOwn (α := Int) 3 u0_6 r0, cOwn (α := Pk) 72 v_l l, cBlk nb0_1 [v_numbers, I s, I s2] 101]) H rfl)) ?_
                 rintro vq w358z ⟨r07, r110, hr359z, hvq, H2_⟩
                 subst hr359z
                 subst vq
                 try dsimp only at hM
                 replace H : St w w358z [cBlk nb0_2 [v_tries, I q110, I q210] 101, cOwn (α := Int) 3 v_l7 l7, cOwn (α := Int) 3 v_l4 l4, cOwn (α := Int) 3 u0_7 r02, cOwn (α := Int) 3 u0_6 r0, cOwn (α := Pk) 72 v_l l, cBlk nb0_1 [v_numbers, I s, I s2] 101] R := H.back H2_ rfl
                 clear H2_
                 refine s_val (x_mv (v := .tuple #[B r07, I r110]) rfl) ?_
                 refine s_val (x_ext (vs := [B r07, I r110]) (v := B r07) rfl rfl) ?_
                 refine s_val (x_ext (vs := [B r07, I r110]) (v := I r110) rfl rfl) ?_
                 refine s_val (x_as (v := B r07) rfl) ?_
                 refine s_val (x_as (v := I r110) rfl) ?_
                 refine s_nil ?_
                 refine W.seq ?_
                 refine W.region rfl ?_
                 refine s_val (x_mv (v := I r110) rfl) ?_
                 refine s_val (x_cmp (kd := .i64) (a := r110) (b := 0) (r := r110 != 0) rfl rfl rfl) ?_
                 refine s_val (x_mv (v := B (r110 != 0)) rfl) ?_
                 refine g_val (!(r110 != 0)) (gy_f rfl) (fun hg => x_mv (v := B r07) rfl) ?_
                 refine g_val (!(r110 != 0)) (gy_f rfl) (fun hg => x_mv (v := B r07) (gd_of (c := !(r110 != 0)) hg (B r07))) ?_
                 refine g_val ((!(r110 != 0)) && r07) (gy_gt rfl rfl) (fun hg => x_mv (v := I (r13 - r24)) rfl) ?_
                 refine g_val ((!(r110 != 0)) && r07) (gy_gt rfl rfl) (fun hg => x_mv (v := I r13) rfl) ?_
                 refine g_val ((!(r110 != 0)) && r07) (gy_gt rfl rfl) (fun hg => x_cmp (kd := .i64) (a := r13 - r24) (b := r13) (r := decide ((r13 - r24) < r13)) (gd_of (c := ((!(r110 != 0)) && r07)) hg (I (r13 - r24))) (gd_of (c := ((!(r110 != 0)) && r07)) hg (I r13)) rfl) ?_
                 refine g_val (!(r110 != 0)) (gy_f rfl) (fun hg => x_pand (b := r07) (r := decide ((r13 - r24) < r13)) (gd_of (c := !(r110 != 0)) hg (B r07)) (fun hb => gd_of (c := ((!(r110 != 0)) && r07)) (by first | exact hb | (rw [hb]; rfl) | simp_all) (B (decide ((r13 - r24) < r13)))) rfl) ?_
                 refine s_val (x_por (b := r110 != 0) (r := (r07 && (decide ((r13 - r24) < r13)))) rfl rfl (fun hb => gd_of (c := !(r110 != 0)) (by first | exact hb | (rw [hb]; rfl) | simp_all) (B (r07 && (decide ((r13 - r24) < r13)))))) ?_
                 refine s_nil ?_
                 refine W.cond ((r110 != 0) || (r07 && (decide ((r13 - r24) < r13)))) rfl (fun c360z => ?_) (fun c360z => ?_)
                 ·replace hM := M.e_t hM c360z
                  refine W.seq ?_
                  refine W.region rfl ?_
                  refine s_val (x_as (v := B false) rfl) ?_
                  refine s_nil ?_
                  refine W.ret ?_
                  have hX361z := M.e_inr hM hN83z
                  subst hX361z
                  replace hM := hk76z
                  try dsimp only at hM
                  have hr_ := M.e_pure hM
                  exact ⟨_, resE_tmp rfl, ⟨false, hr_, rfl, (H.pick [] (by decide) rfl)⟩⟩
                 ·replace hM := M.e_f hM c360z
                  refine W.skip ?_
                  refine W.region rfl ?_
                  refine s_val (x_mv (v := I (k : Int)) rfl) ?_
                  refine s_val (x_ari (a := (k : Int)) (b := 1) (r := (k : Int) + 1) rfl rfl rfl (by omega)) ?_
                  refine s_val (x_as (v := I ((k : Int) + 1)) rfl) ?_
                  refine s_nil ?_
                  exact ⟨m80z, lt81z, q110, q210, k + 1, _, upds_of _ _ ⟨rfl, rfl, rfl, rfl, rfl, rfl, rfl, trivial⟩, M.e_inl hM hN83z, (H.pick [3, 4, 5, 6, 0] (by decide) rfl)⟩
              ·skip
               obtain ⟨r363z, hx362z, hM⟩ := M.e_bind hM
               refine s_call cf14 [.pointer (some ⟨nb0_2, 0, none⟩), I 2] rfl (nilometerkit_Stream_Next_ok tries q18 q28 2 (hC_tries.app _) hs_tries hx362z _ (St.give (T := [cOwn (α := Int) 3 u0_11 (r10.set (Int.toNat r11) (max 0 ((r10.getD (Int.toNat r11) 0) - r19) : Int)), cOwn (α := Int) 3 v_l4 l4, cOwn (α := Int) 3 u0_7 r02, cOwn (α := Int) 3 u0_6 r0, cOwn (α := Pk) 72 v_l l, cBlk nb0_1 [v_numbers, I s, I s2] 101]) H rfl)) ?_
               rintro vq w364z ⟨r21, q19, q29, hr365z, hvq, H2_⟩
               subst hr365z
               subst vq
               try dsimp only at hM
               replace H : St w w364z [cBlk nb0_2 [v_tries, I q19, I q29] 101, cOwn (α := Int) 3 u0_11 (r10.set (Int.toNat r11) (max 0 ((r10.getD (Int.toNat r11) 0) - r19) : Int)), cOwn (α := Int) 3 v_l4 l4, cOwn (α := Int) 3 u0_7 r02, cOwn (α := Int) 3 u0_6 r0, cOwn (α := Pk) 72 v_l l, cBlk nb0_1 [v_numbers, I s, I s2] 101] R := H.back H2_ rfl
               clear H2_
               refine s_nil ⟨(H.pick [2, 3, 4, 5, 6] (by decide) rfl), ?_⟩
               refine t_l rfl ?_
               refine s_val (x_ld (p := vat u0_11 1 (Int.toNat r20)) (v := I ((r10.set (Int.toNat r11) (max 0 ((r10.getD (Int.toNat r11) 0) - r19) : Int)).getD (Int.toNat r20) 0)) rfl (ld_sc Sc3 (At.mono (Int_at (ownSl (H.get (k := 1) rfl)) (i := r20) (by omega) (by omega)) (ownLe _ (H.get (k := 1) rfl))))) ?_
               refine s_nil ⟨(H.pick [2, 3, 4, 5, 6] (by decide) rfl), ?_⟩
               obtain ⟨sd366z, hM⟩ := M.e_grd hM
               simp only [Bool.and_eq_true, decide_eq_true_eq] at sd366z
               refine t_q rfl (fun w' H => x_ari (a := (r10.set (Int.toNat r11) (max 0 ((r10.getD (Int.toNat r11) 0) - r19) : Int)).getD (Int.toNat r20) 0) (b := r21) (r := ((r10.set (Int.toNat r11) (max 0 ((r10.getD (Int.toNat r11) 0) - r19) : Int)).getD (Int.toNat r20) 0) + r21) rfl rfl rfl (by omega)) ?_
               refine t_l rfl ?_
               refine s_val (x_ix (a := u0_11) (b := I r20) (v := vat u0_11 1 (Int.toNat r20)) rfl rfl (Sl.ix (α := Int) T27.und T27.size (ownSl (H.get (k := 1) rfl)) (by omega) (by omega))) ?_
               refine s_nil ⟨(H.pick [2, 3, 4, 5, 6] (by decide) rfl), ?_⟩
               refine t_l rfl ?_
               refine t_ost (k := 1) (i := r20) (l := r10.set (Int.toNat r11) (max 0 ((r10.getD (Int.toNat r11) 0) - r19) : Int)) (l' := (r10.set (Int.toNat r11) (max 0 ((r10.getD (Int.toNat r11) 0) - r19) : Int)).set (Int.toNat r20) (((r10.set (Int.toNat r11) (max 0 ((r10.getD (Int.toNat r11) 0) - r19) : Int)).getD (Int.toNat r20) 0) + r21 : Int)) (val := I (((r10.set (Int.toNat r11) (max 0 ((r10.getD (Int.toNat r11) 0) - r19) : Int)).getD (Int.toNat r20) 0) + r21)) (L' := [cBlk nb0_2 [v_tries, I q19, I q29] 101, cOwn (α := Int) 3 u0_11 ((r10.set (Int.toNat r11) (max 0 ((r10.getD (Int.toNat r11) 0) - r19) : Int)).set (Int.toNat r20) (((r10.set (Int.toNat r11) (max 0 ((r10.getD (Int.toNat r11) 0) - r19) : Int)).getD (Int.toNat r20) 0) + r21 : Int)), cOwn (α := Int) 3 v_l4 l4, cOwn (α := Int) 3 u0_7 r02, cOwn (α := Int) 3 u0_6 r0, cOwn (α := Pk) 72 v_l l, cBlk nb0_1 [v_numbers, I s, I s2] 101]) H rfl Sz3 (by omega) (by omega) (((r10.set (Int.toNat r11) (max 0 ((r10.getD (Int.toNat r11) 0) - r19) : Int)).getD (Int.toNat r20) 0) + r21 : Int) rfl rfl rfl rfl rfl ?_
               intro w367z H
               refine s_nil ⟨(H.pick [2, 3, 4, 5, 6] (by decide) rfl), ?_⟩
               refine t_nil ?_
               refine W.seq ?_
               refine W.seq ?_
               refine W.region rfl ?_
               refine s_val (x_as (v := I 0) rfl) ?_
               refine s_nil ?_
               refine W.block ?_
               obtain ⟨ex368z, hi369z, hk370z⟩ := M.e_bind hM
               obtain ⟨m0_, hi369z⟩ := M.e_iter hi369z
               refine W.loop (fun m σ W => ∃ (l7 : List Int) (m2 : Nat) (v_l7 : Value) (ρ : Env), σ = upds ρ [(10, .pointer (some ⟨nb0_2, 0, none⟩)), (11, v_l), (14, I (1 + r6)), (15, I r7), (17, I r13), (19, u0_7), (25, I (k : Int)), (30, v_l7), (32, I (m2 : Int)), (177, gd (r18 != 0) (I r18)), (178, gd (r18 != 0) (B (r18 != 7))), (181, gd (!((r18 != 0) && (r18 != 7))) (I r18)), (182, gd (!((r18 != 0) && (r18 != 7))) (B (r18 == 0))), (183, gd (!((r18 != 0) && (r18 != 7))) (B (r18 == 0))), (184, gd ((!((r18 != 0) && (r18 != 7))) && (r18 == 0)) (I r06)), (185, gd ((!((r18 != 0) && (r18 != 7))) && (r18 == 0)) (I r13)), (186, gd ((!((r18 != 0) && (r18 != 7))) && (r18 == 0)) (B (decide (r13 < r06)))), (187, gd (!((r18 != 0) && (r18 != 7))) (B ((r18 == 0) && (decide (r13 < r06)))))] /\ M.iterN (m_nilometerlaw10_OftenOwn_b4) m (l7, m2) = some ex368z /\ St w W [cBlk nb0_2 [v_tries, I q19, I q29] 101, cOwn (α := Int) 3 v_l7 l7, cOwn (α := Int) 3 v_l4 l4, cOwn (α := Int) 3 u0_7 r02, cOwn (α := Int) 3 u0_6 r0, cOwn (α := Pk) 72 v_l l, cBlk nb0_1 [v_numbers, I s, I s2] 101] R) ?_ ?_
               ·exact ⟨_, (r10.set (Int.toNat r11) (max 0 ((r10.getD (Int.toNat r11) 0) - r19) : Int)).set (Int.toNat r20) (((r10.set (Int.toNat r11) (max 0 ((r10.getD (Int.toNat r11) 0) - r19) : Int)).getD (Int.toNat r20) 0) + r21 : Int), 0, u0_11, _, upds_of _ _ ⟨rfl, rfl, rfl, rfl, rfl, rfl, rfl, rfl, rfl, rfl, rfl, rfl, rfl, rfl, rfl, rfl, rfl, rfl, trivial⟩, hi369z, H⟩
               ·rintro m373z σ w371z ⟨l7, m2, v_l7, ρ, rfl, hI372z, H⟩
                obtain ⟨m374z, lt375z, x376z, hM, hN377z⟩ := M.e_iterN hI372z
                simp only [m_nilometerlaw10_OftenOwn_b4] at hM
                clear hI372z
                refine W.seq ?_
                refine W.seq ?_
                refine W.region rfl ?_
                refine s_val (x_mv (v := I (m2 : Int)) rfl) ?_
                refine s_val (x_mv (v := v_l7) rfl) ?_
                have hl378z := ((ownSl (H.get (k := 1) rfl))).len_le
                refine s_val (x_lenS T27.und rfl (ownSl (H.get (k := 1) rfl))) ?_
                refine s_val (x_cmp (kd := .i64) (a := (m2 : Int)) (b := (l7.length : Int)) (r := decide ((m2 : Int) < (l7.length : Int))) rfl rfl rfl) ?_
                refine s_nil ?_
                refine W.cond (decide ((m2 : Int) < (l7.length : Int))) rfl (fun c379z => ?_) (fun c379z => ?_)
                ·replace hM := M.e_t hM c379z
                 simp only [decide_eq_true_eq, decide_eq_false_iff_not, beq_iff_eq, bne_iff_ne, beq_eq_false_iff_ne, bne_eq_false_iff_eq, ne_eq, Decidable.not_not] at c379z
                 refine W.skip ?_
                 refine W.seq ?_
                 refine W.block ?_
                 refine W.region rfl ?_
                 refine s_val (x_mv (v := v_l7) rfl) ?_
                 refine s_val (x_mv (v := I (m2 : Int)) rfl) ?_
                 refine s_val (x_mv (v := v_l7) rfl) ?_
                 refine s_val (x_mv (v := I (m2 : Int)) rfl) ?_
                 obtain ⟨sd380z, hM⟩ := M.e_grd hM
                 simp only [Bool.and_eq_true, decide_eq_true_eq] at sd380z
                 refine s_val (x_ix (a := v_l7) (b := I (m2 : Int)) (v := vat v_l7 1 (Int.toNat (m2 : Int))) rfl rfl (Sl.ix (α := Int) T27.und T27.size (ownSl (H.get (k := 1) rfl)) (by omega) (by omega))) ?_
                 refine s_val (x_ld (p := vat v_l7 1 (Int.toNat (m2 : Int))) (v := I (l7.getD m2 0)) rfl (ld_sc Sc3 (At.mono (Int_at (ownSl (H.get (k := 1) rfl)) (i := (m2 : Int)) (by omega) (by omega)) (ownLe _ (H.get (k := 1) rfl))))) ?_
                 refine s_val (x_min (kd := .i64) (a := l7.getD m2 0) (b := 2000) rfl rfl) ?_
                 refine s_val (x_ix (a := v_l7) (b := I (m2 : Int)) (v := vat v_l7 1 (Int.toNat (m2 : Int))) rfl rfl (Sl.ix (α := Int) T27.und T27.size (ownSl (H.get (k := 1) rfl)) (by omega) (by omega))) ?_
                 refine t_ost (k := 1) (i := (m2 : Int)) (l := l7) (l' := l7.set m2 (min (l7.getD m2 0) 2000 : Int)) (val := I (min (l7.getD m2 0) 2000)) (L' := [cBlk nb0_2 [v_tries, I q19, I q29] 101, cOwn (α := Int) 3 v_l7 (l7.set m2 (min (l7.getD m2 0) 2000 : Int)), cOwn (α := Int) 3 v_l4 l4, cOwn (α := Int) 3 u0_7 r02, cOwn (α := Int) 3 u0_6 r0, cOwn (α := Pk) 72 v_l l, cBlk nb0_1 [v_numbers, I s, I s2] 101]) H rfl Sz3 (by omega) (by omega) (min (l7.getD m2 0) 2000 : Int) rfl rfl rfl rfl rfl ?_
                 intro w381z H
                 refine s_nil ?_
                 refine W.region rfl ?_
                 refine s_val (x_mv (v := I (m2 : Int)) rfl) ?_
                 refine s_val (x_ari (a := (m2 : Int)) (b := 1) (r := (m2 : Int) + 1) rfl rfl rfl (by omega)) ?_
                 refine s_val (x_as (v := I ((m2 : Int) + 1)) rfl) ?_
                 refine s_nil ?_
                 exact ⟨m374z, lt375z, l7.set m2 (min (l7.getD m2 0) 2000 : Int), m2 + 1, v_l7, _, upds_of _ _ ⟨rfl, rfl, rfl, rfl, rfl, rfl, rfl, rfl, rfl, rfl, rfl, rfl, rfl, rfl, rfl, rfl, rfl, rfl, trivial⟩, M.e_inl hM hN377z, H⟩
                ·replace hM := M.e_f hM c379z
                 simp only [decide_eq_true_eq, decide_eq_false_iff_not, beq_iff_eq, bne_iff_ne, beq_eq_false_iff_ne, bne_eq_false_iff_eq, ne_eq, Decidable.not_not] at c379z
                 refine W.exit ?_
                 have hX382z := M.e_inr hM hN377z
                 subst hX382z
                 replace hM := hk370z
                 try dsimp only at hM
                 refine W.seq ?_
                 refine W.region rfl ?_
                 refine s_val (x_mv (v := I r13) rfl) ?_
                 refine s_val (x_mv (v := .pointer (some ⟨nb0_2, 0, none⟩)) rfl) ?_
                 obtain ⟨r384z, hx383z, hM⟩ := M.e_bind hM
                 refine s_call cf14 [.pointer (some ⟨nb0_2, 0, none⟩), I 9] rfl (nilometerkit_Stream_Next_ok tries q19 q29 9 (hC_tries.app _) hs_tries hx383z _ (St.give (T := [cOwn (α := Int) 3 v_l7 l7, cOwn (α := Int) 3 v_l4 l4, cOwn (α := Int) 3 u0_7 r02, cOwn (α := Int) 3 u0_6 r0, cOwn (α := Pk) 72 v_l l, cBlk nb0_1 [v_numbers, I s, I s2] 101]) H rfl)) ?_
                 rintro vq w385z ⟨r24, q110, q210, hr386z, hvq, H2_⟩
                 subst hr386z
                 subst vq
                 try dsimp only at hM
                 replace H : St w w385z [cBlk nb0_2 [v_tries, I q110, I q210] 101, cOwn (α := Int) 3 v_l7 l7, cOwn (α := Int) 3 v_l4 l4, cOwn (α := Int) 3 u0_7 r02, cOwn (α := Int) 3 u0_6 r0, cOwn (α := Pk) 72 v_l l, cBlk nb0_1 [v_numbers, I s, I s2] 101] R := H.back H2_ rfl
                 clear H2_
                 obtain ⟨sd387z, hM⟩ := M.e_grd hM
                 simp only [Bool.and_eq_true, decide_eq_true_eq] at sd387z
                 refine s_val (x_ari (a := r13) (b := r24) (r := r13 - r24) rfl rfl rfl (by omega)) ?_
                 refine s_val (x_as (v := I (r13 - r24)) rfl) ?_
                 refine s_nil ?_
                 refine W.seq ?_
                 refine W.region rfl ?_
                 refine s_val (x_mv (v := v_l) rfl) ?_
                 refine s_val (x_mv (v := I (1 + r6)) rfl) ?_
                 refine s_val (x_mv (v := I r7) rfl) ?_
                 refine s_val (x_mv (v := I (r13 - r24)) rfl) ?_
                 refine s_val (x_mv (v := v_l7) rfl) ?_
                 obtain ⟨r389z, hx388z, hM⟩ := M.e_bind hM
                 refine s_call cf41 [v_l, I (1 + r6), I r7, I (r13 - r24), v_l7] rfl (often_Proves_ok l (1 + r6) r7 (r13 - r24) l7 (Reads.of (k := 5) rfl ownLe) (ownSl (H.get (k := 5) rfl)) (Reads.of (k := 1) rfl ownLe) (ownSl (H.get (k := 1) rfl)) hx388z _ (St.give (T := [cBlk nb0_2 [v_tries, I q110, I q210] 101, cOwn (α := Int) 3 v_l7 l7, cOwn (α := Int) 3 v_l4 l4, cOwn (α := Int) 3 u0_7 r02, cOwn (α := Int) 3 u0_6 r0, cOwn (α := Pk) 72 v_l l, cBlk nb0_1 [v_numbers, I s, I s2] 101]) H rfl)) ?_
                 rintro vq w390z ⟨r07, r110, hr391z, hvq, H2_⟩
                 subst hr391z
                 subst vq
                 try dsimp only at hM
                 replace H : St w w390z [cBlk nb0_2 [v_tries, I q110, I q210] 101, cOwn (α := Int) 3 v_l7 l7, cOwn (α := Int) 3 v_l4 l4, cOwn (α := Int) 3 u0_7 r02, cOwn (α := Int) 3 u0_6 r0, cOwn (α := Pk) 72 v_l l, cBlk nb0_1 [v_numbers, I s, I s2] 101] R := H.back H2_ rfl
                 clear H2_
                 refine s_val (x_mv (v := .tuple #[B r07, I r110]) rfl) ?_
                 refine s_val (x_ext (vs := [B r07, I r110]) (v := B r07) rfl rfl) ?_
                 refine s_val (x_ext (vs := [B r07, I r110]) (v := I r110) rfl rfl) ?_
                 refine s_val (x_as (v := B r07) rfl) ?_
                 refine s_val (x_as (v := I r110) rfl) ?_
                 refine s_nil ?_
                 refine W.seq ?_
                 refine W.region rfl ?_
                 refine s_val (x_mv (v := I r110) rfl) ?_
                 refine s_val (x_cmp (kd := .i64) (a := r110) (b := 0) (r := r110 != 0) rfl rfl rfl) ?_
                 refine s_val (x_mv (v := B (r110 != 0)) rfl) ?_
                 refine g_val (!(r110 != 0)) (gy_f rfl) (fun hg => x_mv (v := B r07) rfl) ?_
                 refine g_val (!(r110 != 0)) (gy_f rfl) (fun hg => x_mv (v := B r07) (gd_of (c := !(r110 != 0)) hg (B r07))) ?_
                 refine g_val ((!(r110 != 0)) && r07) (gy_gt rfl rfl) (fun hg => x_mv (v := I (r13 - r24)) rfl) ?_
                 refine g_val ((!(r110 != 0)) && r07) (gy_gt rfl rfl) (fun hg => x_mv (v := I r13) rfl) ?_
                 refine g_val ((!(r110 != 0)) && r07) (gy_gt rfl rfl) (fun hg => x_cmp (kd := .i64) (a := r13 - r24) (b := r13) (r := decide ((r13 - r24) < r13)) (gd_of (c := ((!(r110 != 0)) && r07)) hg (I (r13 - r24))) (gd_of (c := ((!(r110 != 0)) && r07)) hg (I r13)) rfl) ?_
                 refine g_val (!(r110 != 0)) (gy_f rfl) (fun hg => x_pand (b := r07) (r := decide ((r13 - r24) < r13)) (gd_of (c := !(r110 != 0)) hg (B r07)) (fun hb => gd_of (c := ((!(r110 != 0)) && r07)) (by first | exact hb | (rw [hb]; rfl) | simp_all) (B (decide ((r13 - r24) < r13)))) rfl) ?_
                 refine s_val (x_por (b := r110 != 0) (r := (r07 && (decide ((r13 - r24) < r13)))) rfl rfl (fun hb => gd_of (c := !(r110 != 0)) (by first | exact hb | (rw [hb]; rfl) | simp_all) (B (r07 && (decide ((r13 - r24) < r13)))))) ?_
                 refine s_nil ?_
                 refine W.cond ((r110 != 0) || (r07 && (decide ((r13 - r24) < r13)))) rfl (fun c392z => ?_) (fun c392z => ?_)
                 ·replace hM := M.e_t hM c392z
                  refine W.seq ?_
                  refine W.region rfl ?_
                  refine s_val (x_as (v := B false) rfl) ?_
                  refine s_nil ?_
                  refine W.ret ?_
                  have hX393z := M.e_inr hM hN83z
                  subst hX393z
                  replace hM := hk76z
                  try dsimp only at hM
                  have hr_ := M.e_pure hM
                  exact ⟨_, resE_tmp rfl, ⟨false, hr_, rfl, (H.pick [] (by decide) rfl)⟩⟩
                 ·replace hM := M.e_f hM c392z
                  refine W.skip ?_
                  refine W.region rfl ?_
                  refine s_val (x_mv (v := I (k : Int)) rfl) ?_
                  refine s_val (x_ari (a := (k : Int)) (b := 1) (r := (k : Int) + 1) rfl rfl rfl (by omega)) ?_
                  refine s_val (x_as (v := I ((k : Int) + 1)) rfl) ?_
                  refine s_nil ?_
                  exact ⟨m80z, lt81z, q110, q210, k + 1, _, upds_of _ _ ⟨rfl, rfl, rfl, rfl, rfl, rfl, rfl, trivial⟩, M.e_inl hM hN83z, (H.pick [3, 4, 5, 6, 0] (by decide) rfl)⟩
             ·skip
              obtain ⟨r395z, hx394z, hM⟩ := M.e_bind hM
              refine s_call cf14 [.pointer (some ⟨nb0_2, 0, none⟩), I 2] rfl (nilometerkit_Stream_Next_ok tries q18 q28 2 (hC_tries.app _) hs_tries hx394z _ (St.give (T := [cOwn (α := Int) 3 u0_11 (r10.set (Int.toNat r11) (max 0 ((r10.getD (Int.toNat r11) 0) - r19) : Int)), cOwn (α := Int) 3 v_l4 l4, cOwn (α := Int) 3 u0_7 r02, cOwn (α := Int) 3 u0_6 r0, cOwn (α := Pk) 72 v_l l, cBlk nb0_1 [v_numbers, I s, I s2] 101]) H rfl)) ?_
              rintro vq w396z ⟨r21, q19, q29, hr397z, hvq, H2_⟩
              subst hr397z
              subst vq
              try dsimp only at hM
              replace H : St w w396z [cBlk nb0_2 [v_tries, I q19, I q29] 101, cOwn (α := Int) 3 u0_11 (r10.set (Int.toNat r11) (max 0 ((r10.getD (Int.toNat r11) 0) - r19) : Int)), cOwn (α := Int) 3 v_l4 l4, cOwn (α := Int) 3 u0_7 r02, cOwn (α := Int) 3 u0_6 r0, cOwn (α := Pk) 72 v_l l, cBlk nb0_1 [v_numbers, I s, I s2] 101] R := H.back H2_ rfl
              clear H2_
              refine s_nil ⟨(H.pick [2, 3, 4, 5, 6] (by decide) rfl), ?_⟩
              refine t_l rfl ?_
              refine s_val (x_ix (a := u0_11) (b := I r20) (v := vat u0_11 1 (Int.toNat r20)) rfl rfl (Sl.ix (α := Int) T27.und T27.size (ownSl (H.get (k := 1) rfl)) (by omega) (by omega))) ?_
              refine s_nil ⟨(H.pick [2, 3, 4, 5, 6] (by decide) rfl), ?_⟩
              refine t_l rfl ?_
              refine s_val (x_ld (p := vat u0_11 1 (Int.toNat r20)) (v := I ((r10.set (Int.toNat r11) (max 0 ((r10.getD (Int.toNat r11) 0) - r19) : Int)).getD (Int.toNat r20) 0)) rfl (ld_sc Sc3 (At.mono (Int_at (ownSl (H.get (k := 1) rfl)) (i := r20) (by omega) (by omega)) (ownLe _ (H.get (k := 1) rfl))))) ?_
              refine s_nil ⟨(H.pick [2, 3, 4, 5, 6] (by decide) rfl), ?_⟩
              obtain ⟨sd398z, hM⟩ := M.e_grd hM
              simp only [Bool.and_eq_true, decide_eq_true_eq] at sd398z
              refine t_q rfl (fun w' H => x_ari (a := (r10.set (Int.toNat r11) (max 0 ((r10.getD (Int.toNat r11) 0) - r19) : Int)).getD (Int.toNat r20) 0) (b := r21) (r := ((r10.set (Int.toNat r11) (max 0 ((r10.getD (Int.toNat r11) 0) - r19) : Int)).getD (Int.toNat r20) 0) + r21) rfl rfl rfl (by omega)) ?_
              refine t_l rfl ?_
              refine s_val (x_ix (a := u0_11) (b := I r20) (v := vat u0_11 1 (Int.toNat r20)) rfl rfl (Sl.ix (α := Int) T27.und T27.size (ownSl (H.get (k := 1) rfl)) (by omega) (by omega))) ?_
              refine s_nil ⟨(H.pick [2, 3, 4, 5, 6] (by decide) rfl), ?_⟩
              refine t_l rfl ?_
              refine t_ost (k := 1) (i := r20) (l := r10.set (Int.toNat r11) (max 0 ((r10.getD (Int.toNat r11) 0) - r19) : Int)) (l' := (r10.set (Int.toNat r11) (max 0 ((r10.getD (Int.toNat r11) 0) - r19) : Int)).set (Int.toNat r20) (((r10.set (Int.toNat r11) (max 0 ((r10.getD (Int.toNat r11) 0) - r19) : Int)).getD (Int.toNat r20) 0) + r21 : Int)) (val := I (((r10.set (Int.toNat r11) (max 0 ((r10.getD (Int.toNat r11) 0) - r19) : Int)).getD (Int.toNat r20) 0) + r21)) (L' := [cBlk nb0_2 [v_tries, I q19, I q29] 101, cOwn (α := Int) 3 u0_11 ((r10.set (Int.toNat r11) (max 0 ((r10.getD (Int.toNat r11) 0) - r19) : Int)).set (Int.toNat r20) (((r10.set (Int.toNat r11) (max 0 ((r10.getD (Int.toNat r11) 0) - r19) : Int)).getD (Int.toNat r20) 0) + r21 : Int)), cOwn (α := Int) 3 v_l4 l4, cOwn (α := Int) 3 u0_7 r02, cOwn (α := Int) 3 u0_6 r0, cOwn (α := Pk) 72 v_l l, cBlk nb0_1 [v_numbers, I s, I s2] 101]) H rfl Sz3 (by omega) (by omega) (((r10.set (Int.toNat r11) (max 0 ((r10.getD (Int.toNat r11) 0) - r19) : Int)).getD (Int.toNat r20) 0) + r21 : Int) rfl rfl rfl rfl rfl ?_
              intro w399z H
              refine s_nil ⟨(H.pick [2, 3, 4, 5, 6] (by decide) rfl), ?_⟩
              refine t_nil ?_
              refine W.seq ?_
              refine W.seq ?_
              refine W.region rfl ?_
              refine s_val (x_as (v := I 0) rfl) ?_
              refine s_nil ?_
              refine W.block ?_
              obtain ⟨ex400z, hi401z, hk402z⟩ := M.e_bind hM
              obtain ⟨m0_, hi401z⟩ := M.e_iter hi401z
              refine W.loop (fun m σ W => ∃ (l7 : List Int) (m2 : Nat) (v_l7 : Value) (ρ : Env), σ = upds ρ [(10, .pointer (some ⟨nb0_2, 0, none⟩)), (11, v_l), (14, I (1 + r6)), (15, I r7), (17, I r13), (19, u0_7), (25, I (k : Int)), (30, v_l7), (32, I (m2 : Int)), (177, gd (r18 != 0) (I r18)), (178, gd (r18 != 0) (B (r18 != 7))), (181, gd (!((r18 != 0) && (r18 != 7))) (I r18)), (182, gd (!((r18 != 0) && (r18 != 7))) (B (r18 == 0))), (183, gd (!((r18 != 0) && (r18 != 7))) (B (r18 == 0))), (184, gd ((!((r18 != 0) && (r18 != 7))) && (r18 == 0)) (I r06)), (185, gd ((!((r18 != 0) && (r18 != 7))) && (r18 == 0)) (I r13)), (186, gd ((!((r18 != 0) && (r18 != 7))) && (r18 == 0)) (B (decide (r13 < r06)))), (187, gd (!((r18 != 0) && (r18 != 7))) (B ((r18 == 0) && (decide (r13 < r06)))))] /\ M.iterN (m_nilometerlaw10_OftenOwn_b4) m (l7, m2) = some ex400z /\ St w W [cBlk nb0_2 [v_tries, I q19, I q29] 101, cOwn (α := Int) 3 v_l7 l7, cOwn (α := Int) 3 v_l4 l4, cOwn (α := Int) 3 u0_7 r02, cOwn (α := Int) 3 u0_6 r0, cOwn (α := Pk) 72 v_l l, cBlk nb0_1 [v_numbers, I s, I s2] 101] R) ?_ ?_
              ·exact ⟨_, (r10.set (Int.toNat r11) (max 0 ((r10.getD (Int.toNat r11) 0) - r19) : Int)).set (Int.toNat r20) (((r10.set (Int.toNat r11) (max 0 ((r10.getD (Int.toNat r11) 0) - r19) : Int)).getD (Int.toNat r20) 0) + r21 : Int), 0, u0_11, _, upds_of _ _ ⟨rfl, rfl, rfl, rfl, rfl, rfl, rfl, rfl, rfl, rfl, rfl, rfl, rfl, rfl, rfl, rfl, rfl, rfl, trivial⟩, hi401z, H⟩
              ·rintro m405z σ w403z ⟨l7, m2, v_l7, ρ, rfl, hI404z, H⟩
               obtain ⟨m406z, lt407z, x408z, hM, hN409z⟩ := M.e_iterN hI404z
               simp only [m_nilometerlaw10_OftenOwn_b4] at hM
               clear hI404z
               refine W.seq ?_
               refine W.seq ?_
               refine W.region rfl ?_
               refine s_val (x_mv (v := I (m2 : Int)) rfl) ?_
               refine s_val (x_mv (v := v_l7) rfl) ?_
               have hl410z := ((ownSl (H.get (k := 1) rfl))).len_le
               refine s_val (x_lenS T27.und rfl (ownSl (H.get (k := 1) rfl))) ?_
               refine s_val (x_cmp (kd := .i64) (a := (m2 : Int)) (b := (l7.length : Int)) (r := decide ((m2 : Int) < (l7.length : Int))) rfl rfl rfl) ?_
               refine s_nil ?_
               refine W.cond (decide ((m2 : Int) < (l7.length : Int))) rfl (fun c411z => ?_) (fun c411z => ?_)
               ·replace hM := M.e_t hM c411z
                simp only [decide_eq_true_eq, decide_eq_false_iff_not, beq_iff_eq, bne_iff_ne, beq_eq_false_iff_ne, bne_eq_false_iff_eq, ne_eq, Decidable.not_not] at c411z
                refine W.skip ?_
                refine W.seq ?_
                refine W.block ?_
                refine W.region rfl ?_
                refine s_val (x_mv (v := v_l7) rfl) ?_
                refine s_val (x_mv (v := I (m2 : Int)) rfl) ?_
                refine s_val (x_mv (v := v_l7) rfl) ?_
                refine s_val (x_mv (v := I (m2 : Int)) rfl) ?_
                obtain ⟨sd412z, hM⟩ := M.e_grd hM
                simp only [Bool.and_eq_true, decide_eq_true_eq] at sd412z
                refine s_val (x_ix (a := v_l7) (b := I (m2 : Int)) (v := vat v_l7 1 (Int.toNat (m2 : Int))) rfl rfl (Sl.ix (α := Int) T27.und T27.size (ownSl (H.get (k := 1) rfl)) (by omega) (by omega))) ?_
                refine s_val (x_ld (p := vat v_l7 1 (Int.toNat (m2 : Int))) (v := I (l7.getD m2 0)) rfl (ld_sc Sc3 (At.mono (Int_at (ownSl (H.get (k := 1) rfl)) (i := (m2 : Int)) (by omega) (by omega)) (ownLe _ (H.get (k := 1) rfl))))) ?_
                refine s_val (x_min (kd := .i64) (a := l7.getD m2 0) (b := 2000) rfl rfl) ?_
                refine s_val (x_ix (a := v_l7) (b := I (m2 : Int)) (v := vat v_l7 1 (Int.toNat (m2 : Int))) rfl rfl (Sl.ix (α := Int) T27.und T27.size (ownSl (H.get (k := 1) rfl)) (by omega) (by omega))) ?_
                refine t_ost (k := 1) (i := (m2 : Int)) (l := l7) (l' := l7.set m2 (min (l7.getD m2 0) 2000 : Int)) (val := I (min (l7.getD m2 0) 2000)) (L' := [cBlk nb0_2 [v_tries, I q19, I q29] 101, cOwn (α := Int) 3 v_l7 (l7.set m2 (min (l7.getD m2 0) 2000 : Int)), cOwn (α := Int) 3 v_l4 l4, cOwn (α := Int) 3 u0_7 r02, cOwn (α := Int) 3 u0_6 r0, cOwn (α := Pk) 72 v_l l, cBlk nb0_1 [v_numbers, I s, I s2] 101]) H rfl Sz3 (by omega) (by omega) (min (l7.getD m2 0) 2000 : Int) rfl rfl rfl rfl rfl ?_
                intro w413z H
                refine s_nil ?_
                refine W.region rfl ?_
                refine s_val (x_mv (v := I (m2 : Int)) rfl) ?_
                refine s_val (x_ari (a := (m2 : Int)) (b := 1) (r := (m2 : Int) + 1) rfl rfl rfl (by omega)) ?_
                refine s_val (x_as (v := I ((m2 : Int) + 1)) rfl) ?_
                refine s_nil ?_
                exact ⟨m406z, lt407z, l7.set m2 (min (l7.getD m2 0) 2000 : Int), m2 + 1, v_l7, _, upds_of _ _ ⟨rfl, rfl, rfl, rfl, rfl, rfl, rfl, rfl, rfl, rfl, rfl, rfl, rfl, rfl, rfl, rfl, rfl, rfl, trivial⟩, M.e_inl hM hN409z, H⟩
               ·replace hM := M.e_f hM c411z
                simp only [decide_eq_true_eq, decide_eq_false_iff_not, beq_iff_eq, bne_iff_ne, beq_eq_false_iff_ne, bne_eq_false_iff_eq, ne_eq, Decidable.not_not] at c411z
                refine W.exit ?_
                have hX414z := M.e_inr hM hN409z
                subst hX414z
                replace hM := hk402z
                try dsimp only at hM
                refine W.seq ?_
                refine W.region rfl ?_
                refine s_val (x_mv (v := I r13) rfl) ?_
                refine s_val (x_mv (v := .pointer (some ⟨nb0_2, 0, none⟩)) rfl) ?_
                obtain ⟨r416z, hx415z, hM⟩ := M.e_bind hM
                refine s_call cf14 [.pointer (some ⟨nb0_2, 0, none⟩), I 9] rfl (nilometerkit_Stream_Next_ok tries q19 q29 9 (hC_tries.app _) hs_tries hx415z _ (St.give (T := [cOwn (α := Int) 3 v_l7 l7, cOwn (α := Int) 3 v_l4 l4, cOwn (α := Int) 3 u0_7 r02, cOwn (α := Int) 3 u0_6 r0, cOwn (α := Pk) 72 v_l l, cBlk nb0_1 [v_numbers, I s, I s2] 101]) H rfl)) ?_
                rintro vq w417z ⟨r24, q110, q210, hr418z, hvq, H2_⟩
                subst hr418z
                subst vq
                try dsimp only at hM
                replace H : St w w417z [cBlk nb0_2 [v_tries, I q110, I q210] 101, cOwn (α := Int) 3 v_l7 l7, cOwn (α := Int) 3 v_l4 l4, cOwn (α := Int) 3 u0_7 r02, cOwn (α := Int) 3 u0_6 r0, cOwn (α := Pk) 72 v_l l, cBlk nb0_1 [v_numbers, I s, I s2] 101] R := H.back H2_ rfl
                clear H2_
                obtain ⟨sd419z, hM⟩ := M.e_grd hM
                simp only [Bool.and_eq_true, decide_eq_true_eq] at sd419z
                refine s_val (x_ari (a := r13) (b := r24) (r := r13 - r24) rfl rfl rfl (by omega)) ?_
                refine s_val (x_as (v := I (r13 - r24)) rfl) ?_
                refine s_nil ?_
                refine W.seq ?_
                refine W.region rfl ?_
                refine s_val (x_mv (v := v_l) rfl) ?_
                refine s_val (x_mv (v := I (1 + r6)) rfl) ?_
                refine s_val (x_mv (v := I r7) rfl) ?_
                refine s_val (x_mv (v := I (r13 - r24)) rfl) ?_
                refine s_val (x_mv (v := v_l7) rfl) ?_
                obtain ⟨r421z, hx420z, hM⟩ := M.e_bind hM
                refine s_call cf41 [v_l, I (1 + r6), I r7, I (r13 - r24), v_l7] rfl (often_Proves_ok l (1 + r6) r7 (r13 - r24) l7 (Reads.of (k := 5) rfl ownLe) (ownSl (H.get (k := 5) rfl)) (Reads.of (k := 1) rfl ownLe) (ownSl (H.get (k := 1) rfl)) hx420z _ (St.give (T := [cBlk nb0_2 [v_tries, I q110, I q210] 101, cOwn (α := Int) 3 v_l7 l7, cOwn (α := Int) 3 v_l4 l4, cOwn (α := Int) 3 u0_7 r02, cOwn (α := Int) 3 u0_6 r0, cOwn (α := Pk) 72 v_l l, cBlk nb0_1 [v_numbers, I s, I s2] 101]) H rfl)) ?_
                rintro vq w422z ⟨r07, r110, hr423z, hvq, H2_⟩
                subst hr423z
                subst vq
                try dsimp only at hM
                replace H : St w w422z [cBlk nb0_2 [v_tries, I q110, I q210] 101, cOwn (α := Int) 3 v_l7 l7, cOwn (α := Int) 3 v_l4 l4, cOwn (α := Int) 3 u0_7 r02, cOwn (α := Int) 3 u0_6 r0, cOwn (α := Pk) 72 v_l l, cBlk nb0_1 [v_numbers, I s, I s2] 101] R := H.back H2_ rfl
                clear H2_
                refine s_val (x_mv (v := .tuple #[B r07, I r110]) rfl) ?_
                refine s_val (x_ext (vs := [B r07, I r110]) (v := B r07) rfl rfl) ?_
                refine s_val (x_ext (vs := [B r07, I r110]) (v := I r110) rfl rfl) ?_
                refine s_val (x_as (v := B r07) rfl) ?_
                refine s_val (x_as (v := I r110) rfl) ?_
                refine s_nil ?_
                refine W.seq ?_
                refine W.region rfl ?_
                refine s_val (x_mv (v := I r110) rfl) ?_
                refine s_val (x_cmp (kd := .i64) (a := r110) (b := 0) (r := r110 != 0) rfl rfl rfl) ?_
                refine s_val (x_mv (v := B (r110 != 0)) rfl) ?_
                refine g_val (!(r110 != 0)) (gy_f rfl) (fun hg => x_mv (v := B r07) rfl) ?_
                refine g_val (!(r110 != 0)) (gy_f rfl) (fun hg => x_mv (v := B r07) (gd_of (c := !(r110 != 0)) hg (B r07))) ?_
                refine g_val ((!(r110 != 0)) && r07) (gy_gt rfl rfl) (fun hg => x_mv (v := I (r13 - r24)) rfl) ?_
                refine g_val ((!(r110 != 0)) && r07) (gy_gt rfl rfl) (fun hg => x_mv (v := I r13) rfl) ?_
                refine g_val ((!(r110 != 0)) && r07) (gy_gt rfl rfl) (fun hg => x_cmp (kd := .i64) (a := r13 - r24) (b := r13) (r := decide ((r13 - r24) < r13)) (gd_of (c := ((!(r110 != 0)) && r07)) hg (I (r13 - r24))) (gd_of (c := ((!(r110 != 0)) && r07)) hg (I r13)) rfl) ?_
                refine g_val (!(r110 != 0)) (gy_f rfl) (fun hg => x_pand (b := r07) (r := decide ((r13 - r24) < r13)) (gd_of (c := !(r110 != 0)) hg (B r07)) (fun hb => gd_of (c := ((!(r110 != 0)) && r07)) (by first | exact hb | (rw [hb]; rfl) | simp_all) (B (decide ((r13 - r24) < r13)))) rfl) ?_
                refine s_val (x_por (b := r110 != 0) (r := (r07 && (decide ((r13 - r24) < r13)))) rfl rfl (fun hb => gd_of (c := !(r110 != 0)) (by first | exact hb | (rw [hb]; rfl) | simp_all) (B (r07 && (decide ((r13 - r24) < r13)))))) ?_
                refine s_nil ?_
                refine W.cond ((r110 != 0) || (r07 && (decide ((r13 - r24) < r13)))) rfl (fun c424z => ?_) (fun c424z => ?_)
                ·replace hM := M.e_t hM c424z
                 refine W.seq ?_
                 refine W.region rfl ?_
                 refine s_val (x_as (v := B false) rfl) ?_
                 refine s_nil ?_
                 refine W.ret ?_
                 have hX425z := M.e_inr hM hN83z
                 subst hX425z
                 replace hM := hk76z
                 try dsimp only at hM
                 have hr_ := M.e_pure hM
                 exact ⟨_, resE_tmp rfl, ⟨false, hr_, rfl, (H.pick [] (by decide) rfl)⟩⟩
                ·replace hM := M.e_f hM c424z
                 refine W.skip ?_
                 refine W.region rfl ?_
                 refine s_val (x_mv (v := I (k : Int)) rfl) ?_
                 refine s_val (x_ari (a := (k : Int)) (b := 1) (r := (k : Int) + 1) rfl rfl rfl (by omega)) ?_
                 refine s_val (x_as (v := I ((k : Int) + 1)) rfl) ?_
                 refine s_nil ?_
                 exact ⟨m80z, lt81z, q110, q210, k + 1, _, upds_of _ _ ⟨rfl, rfl, rfl, rfl, rfl, rfl, rfl, trivial⟩, M.e_inl hM hN83z, (H.pick [3, 4, 5, 6, 0] (by decide) rfl)⟩
           ·skip
            obtain ⟨r427z, hx426z, hM⟩ := M.e_bind hM
            refine s_call cf14 [.pointer (some ⟨nb0_2, 0, none⟩), I 20] rfl (nilometerkit_Stream_Next_ok tries q16 q26 20 (hC_tries.app _) hs_tries hx426z _ (St.give (T := [cOwn (α := Int) 3 u0_11 r10, cOwn (α := Int) 3 v_l4 l4, cOwn (α := Int) 3 u0_7 r02, cOwn (α := Int) 3 u0_6 r0, cOwn (α := Pk) 72 v_l l, cBlk nb0_1 [v_numbers, I s, I s2] 101]) H rfl)) ?_
            rintro vq w428z ⟨r19, q17, q27, hr429z, hvq, H2_⟩
            subst hr429z
            subst vq
            try dsimp only at hM
            replace H : St w w428z [cBlk nb0_2 [v_tries, I q17, I q27] 101, cOwn (α := Int) 3 u0_11 r10, cOwn (α := Int) 3 v_l4 l4, cOwn (α := Int) 3 u0_7 r02, cOwn (α := Int) 3 u0_6 r0, cOwn (α := Pk) 72 v_l l, cBlk nb0_1 [v_numbers, I s, I s2] 101] R := H.back H2_ rfl
            clear H2_
            have hvc_q430z := Sl.cells (ownSl (H.get (k := 1) rfl))
            have hvo_q430z := Sl.oc (ownSl (H.get (k := 1) rfl))
            refine s_nil ⟨(H.pick [2, 3, 4, 5, 6] (by decide) rfl), ?_⟩
            refine t_l rfl ?_
            refine s_val (x_ix (a := u0_11) (b := I r11) (v := vat u0_11 1 (Int.toNat r11)) rfl rfl (Sl.ix (α := Int) T27.und T27.size (ownSl (H.get (k := 1) rfl)) (by omega) (by omega))) ?_
            refine s_nil ⟨(H.pick [2, 3, 4, 5, 6] (by decide) rfl), ?_⟩
            refine t_l rfl ?_
            refine s_val (x_ld (p := vat u0_11 1 (Int.toNat r11)) (v := I (r10.getD (Int.toNat r11) 0)) rfl (ld_sc Sc3 (At.mono (Int_at (ownSl (H.get (k := 1) rfl)) (i := r11) (by omega) (by omega)) (ownLe _ (H.get (k := 1) rfl))))) ?_
            refine s_nil ⟨(H.pick [2, 3, 4, 5, 6] (by decide) rfl), ?_⟩
            obtain ⟨sd431z, hM⟩ := M.e_grd hM
            simp only [Bool.and_eq_true, decide_eq_true_eq] at sd431z
            refine t_q rfl (fun w' H => x_ari (a := r10.getD (Int.toNat r11) 0) (b := r19) (r := (r10.getD (Int.toNat r11) 0) - r19) rfl rfl rfl (by omega)) ?_
            refine t_q rfl (fun w' H => x_max (kd := .i64) (a := 0) (b := (r10.getD (Int.toNat r11) 0) - r19) rfl rfl) ?_
            refine t_l rfl ?_
            refine s_val (x_ix (a := u0_11) (b := I r11) (v := vat u0_11 1 (Int.toNat r11)) rfl rfl (Sl.ix (α := Int) T27.und T27.size (ownSl (H.get (k := 1) rfl)) (by omega) (by omega))) ?_
            refine s_nil ⟨(H.pick [2, 3, 4, 5, 6] (by decide) rfl), ?_⟩
            refine t_l rfl ?_
            refine t_ost (k := 1) (i := r11) (l := r10) (l' := r10.set (Int.toNat r11) (max 0 ((r10.getD (Int.toNat r11) 0) - r19) : Int)) (val := I (max 0 ((r10.getD (Int.toNat r11) 0) - r19))) (L' := [cBlk nb0_2 [v_tries, I q17, I q27] 101, cOwn (α := Int) 3 u0_11 (r10.set (Int.toNat r11) (max 0 ((r10.getD (Int.toNat r11) 0) - r19) : Int)), cOwn (α := Int) 3 v_l4 l4, cOwn (α := Int) 3 u0_7 r02, cOwn (α := Int) 3 u0_6 r0, cOwn (α := Pk) 72 v_l l, cBlk nb0_1 [v_numbers, I s, I s2] 101]) H rfl Sz3 (by omega) (by omega) (max 0 ((r10.getD (Int.toNat r11) 0) - r19) : Int) rfl rfl rfl rfl rfl ?_
            intro w432z H
            refine s_nil ⟨(H.pick [2, 3, 4, 5, 6] (by decide) rfl), ?_⟩
            refine t_nil ?_
            refine W.seq ?_
            refine W.drawT (fun W => St w W [cOwn (α := Int) 3 v_l4 l4, cOwn (α := Int) 3 u0_7 r02, cOwn (α := Int) 3 u0_6 r0, cOwn (α := Pk) 72 v_l l, cBlk nb0_1 [v_numbers, I s, I s2] 101] R) (.q 0 (.q 1 (.q 2 (.q 7 (.l 3 (.l 4 (.l2 5 (.l2 6 (.l 8 (.q 9 (.l 10 (.l 11 .nil)))) 8 (.l 6 (.q 9 (.l 10 (.l 11 .nil))))) 8 (.l 5 (.l 6 (.q 9 (.l 10 (.l 11 .nil)))))))))))) mixed (by decide +kernel) rfl ?_
            intro w433z hx_
            replace H : St w w433z [cBlk nb0_2 [v_tries, I q17, I q27] 101, cOwn (α := Int) 3 u0_11 (r10.set (Int.toNat r11) (max 0 ((r10.getD (Int.toNat r11) 0) - r19) : Int)), cOwn (α := Int) 3 v_l4 l4, cOwn (α := Int) 3 u0_7 r02, cOwn (α := Int) 3 u0_6 r0, cOwn (α := Pk) 72 v_l l, cBlk nb0_1 [v_numbers, I s, I s2] 101] R := H.ext hx_
            clear hx_
            refine ⟨(H.pick [2, 3, 4, 5, 6] (by decide) rfl), ?_⟩
            refine t_q rfl (fun w' H => x_mv (v := u0_11) rfl) ?_
            refine t_q rfl (fun w' H => x_mv (v := .pointer (some ⟨nb0_2, 0, none⟩)) rfl) ?_
            refine t_q rfl (fun w' H => x_mv (v := u0_11) rfl) ?_
            refine t_q rfl (fun w' H => x_mv (v := .pointer (some ⟨nb0_2, 0, none⟩)) rfl) ?_
            refine t_l rfl ?_
            have hl434z := ((ownSl (H.get (k := 1) rfl))).len_le
            refine s_val (x_lenS T27.und rfl (ownSl (H.get (k := 1) rfl))) ?_
            refine s_nil ⟨(H.pick [2, 3, 4, 5, 6] (by decide) rfl), ?_⟩
            refine t_l rfl ?_
            obtain ⟨r436z, hx435z, hM⟩ := M.e_bind hM
            refine s_call cf14 [.pointer (some ⟨nb0_2, 0, none⟩), I ((r10.set (Int.toNat r11) (max 0 ((r10.getD (Int.toNat r11) 0) - r19) : Int)).length : Int)] rfl (nilometerkit_Stream_Next_ok tries q17 q27 ((r10.set (Int.toNat r11) (max 0 ((r10.getD (Int.toNat r11) 0) - r19) : Int)).length : Int) (hC_tries.app _) hs_tries hx435z _ (St.give (T := [cOwn (α := Int) 3 u0_11 (r10.set (Int.toNat r11) (max 0 ((r10.getD (Int.toNat r11) 0) - r19) : Int)), cOwn (α := Int) 3 v_l4 l4, cOwn (α := Int) 3 u0_7 r02, cOwn (α := Int) 3 u0_6 r0, cOwn (α := Pk) 72 v_l l, cBlk nb0_1 [v_numbers, I s, I s2] 101]) H rfl)) ?_
            rintro vq w437z ⟨r20, q18, q28, hr438z, hvq, H2_⟩
            subst hr438z
            subst vq
            try dsimp only at hM
            replace H : St w w437z [cBlk nb0_2 [v_tries, I q18, I q28] 101, cOwn (α := Int) 3 u0_11 (r10.set (Int.toNat r11) (max 0 ((r10.getD (Int.toNat r11) 0) - r19) : Int)), cOwn (α := Int) 3 v_l4 l4, cOwn (α := Int) 3 u0_7 r02, cOwn (α := Int) 3 u0_6 r0, cOwn (α := Pk) 72 v_l l, cBlk nb0_1 [v_numbers, I s, I s2] 101] R := H.back H2_ rfl
            clear H2_
            refine s_nil ⟨(H.pick [2, 3, 4, 5, 6] (by decide) rfl), ?_⟩
            obtain ⟨sd451z, hM⟩ := M.e_grd hM
            simp only [Bool.and_eq_true, decide_eq_true_eq] at sd451z
            refine t_l2 rfl rfl ?_ ?_
            ·skip
             refine s_val (x_ix (a := u0_11) (b := I r20) (v := vat u0_11 1 (Int.toNat r20)) rfl rfl (Sl.ix (α := Int) T27.und T27.size (ownSl (H.get (k := 1) rfl)) (by omega) (by omega))) ?_
             refine s_nil ⟨(H.pick [2, 3, 4, 5, 6] (by decide) rfl), ?_⟩
             refine t_l2 rfl rfl ?_ ?_
             ·skip
              refine s_val (x_ld (p := vat u0_11 1 (Int.toNat r20)) (v := I ((r10.set (Int.toNat r11) (max 0 ((r10.getD (Int.toNat r11) 0) - r19) : Int)).getD (Int.toNat r20) 0)) rfl (ld_sc Sc3 (At.mono (Int_at (ownSl (H.get (k := 1) rfl)) (i := r20) (by omega) (by omega)) (ownLe _ (H.get (k := 1) rfl))))) ?_
              refine s_nil ⟨(H.pick [2, 3, 4, 5, 6] (by decide) rfl), ?_⟩
              refine t_l rfl ?_
              obtain ⟨r459z, hx458z, hM⟩ := M.e_bind hM
              refine s_call cf14 [.pointer (some ⟨nb0_2, 0, none⟩), I 2] rfl (nilometerkit_Stream_Next_ok tries q18 q28 2 (hC_tries.app _) hs_tries hx458z _ (St.give (T := [cOwn (α := Int) 3 u0_11 (r10.set (Int.toNat r11) (max 0 ((r10.getD (Int.toNat r11) 0) - r19) : Int)), cOwn (α := Int) 3 v_l4 l4, cOwn (α := Int) 3 u0_7 r02, cOwn (α := Int) 3 u0_6 r0, cOwn (α := Pk) 72 v_l l, cBlk nb0_1 [v_numbers, I s, I s2] 101]) H rfl)) ?_
              rintro vq w460z ⟨r21, q19, q29, hr461z, hvq, H2_⟩
              subst hr461z
              subst vq
              try dsimp only at hM
              replace H : St w w460z [cBlk nb0_2 [v_tries, I q19, I q29] 101, cOwn (α := Int) 3 u0_11 (r10.set (Int.toNat r11) (max 0 ((r10.getD (Int.toNat r11) 0) - r19) : Int)), cOwn (α := Int) 3 v_l4 l4, cOwn (α := Int) 3 u0_7 r02, cOwn (α := Int) 3 u0_6 r0, cOwn (α := Pk) 72 v_l l, cBlk nb0_1 [v_numbers, I s, I s2] 101] R := H.back H2_ rfl
              clear H2_
              refine s_nil ⟨(H.pick [2, 3, 4, 5, 6] (by decide) rfl), ?_⟩
              obtain ⟨sd462z, hM⟩ := M.e_grd hM
              simp only [Bool.and_eq_true, decide_eq_true_eq] at sd462z
              refine t_q rfl (fun w' H => x_ari (a := (r10.set (Int.toNat r11) (max 0 ((r10.getD (Int.toNat r11) 0) - r19) : Int)).getD (Int.toNat r20) 0) (b := r21) (r := ((r10.set (Int.toNat r11) (max 0 ((r10.getD (Int.toNat r11) 0) - r19) : Int)).getD (Int.toNat r20) 0) + r21) rfl rfl rfl (by omega)) ?_
              refine t_l rfl ?_
              refine s_val (x_ix (a := u0_11) (b := I r20) (v := vat u0_11 1 (Int.toNat r20)) rfl rfl (Sl.ix (α := Int) T27.und T27.size (ownSl (H.get (k := 1) rfl)) (by omega) (by omega))) ?_
              refine s_nil ⟨(H.pick [2, 3, 4, 5, 6] (by decide) rfl), ?_⟩
              refine t_l rfl ?_
              refine t_ost (k := 1) (i := r20) (l := r10.set (Int.toNat r11) (max 0 ((r10.getD (Int.toNat r11) 0) - r19) : Int)) (l' := (r10.set (Int.toNat r11) (max 0 ((r10.getD (Int.toNat r11) 0) - r19) : Int)).set (Int.toNat r20) (((r10.set (Int.toNat r11) (max 0 ((r10.getD (Int.toNat r11) 0) - r19) : Int)).getD (Int.toNat r20) 0) + r21 : Int)) (val := I (((r10.set (Int.toNat r11) (max 0 ((r10.getD (Int.toNat r11) 0) - r19) : Int)).getD (Int.toNat r20) 0) + r21)) (L' := [cBlk nb0_2 [v_tries, I q19, I q29] 101, cOwn (α := Int) 3 u0_11 ((r10.set (Int.toNat r11) (max 0 ((r10.getD (Int.toNat r11) 0) - r19) : Int)).set (Int.toNat r20) (((r10.set (Int.toNat r11) (max 0 ((r10.getD (Int.toNat r11) 0) - r19) : Int)).getD (Int.toNat r20) 0) + r21 : Int)), cOwn (α := Int) 3 v_l4 l4, cOwn (α := Int) 3 u0_7 r02, cOwn (α := Int) 3 u0_6 r0, cOwn (α := Pk) 72 v_l l, cBlk nb0_1 [v_numbers, I s, I s2] 101]) H rfl Sz3 (by omega) (by omega) (((r10.set (Int.toNat r11) (max 0 ((r10.getD (Int.toNat r11) 0) - r19) : Int)).getD (Int.toNat r20) 0) + r21 : Int) rfl rfl rfl rfl rfl ?_
              intro w463z H
              refine s_nil ⟨(H.pick [2, 3, 4, 5, 6] (by decide) rfl), ?_⟩
              refine t_nil ?_
              refine W.seq ?_
              refine W.seq ?_
              refine W.region rfl ?_
              refine s_val (x_as (v := I 0) rfl) ?_
              refine s_nil ?_
              refine W.block ?_
              obtain ⟨ex464z, hi465z, hk466z⟩ := M.e_bind hM
              obtain ⟨m0_, hi465z⟩ := M.e_iter hi465z
              refine W.loop (fun m σ W => ∃ (l7 : List Int) (m2 : Nat) (v_l7 : Value) (ρ : Env), σ = upds ρ [(10, .pointer (some ⟨nb0_2, 0, none⟩)), (11, v_l), (14, I (1 + r6)), (15, I r7), (17, I r13), (19, u0_7), (25, I (k : Int)), (30, v_l7), (32, I (m2 : Int)), (177, gd (r18 != 0) (I r18)), (178, gd (r18 != 0) (B (r18 != 7))), (181, gd (!((r18 != 0) && (r18 != 7))) (I r18)), (182, gd (!((r18 != 0) && (r18 != 7))) (B (r18 == 0))), (183, gd (!((r18 != 0) && (r18 != 7))) (B (r18 == 0))), (184, gd ((!((r18 != 0) && (r18 != 7))) && (r18 == 0)) (I r06)), (185, gd ((!((r18 != 0) && (r18 != 7))) && (r18 == 0)) (I r13)), (186, gd ((!((r18 != 0) && (r18 != 7))) && (r18 == 0)) (B (decide (r13 < r06)))), (187, gd (!((r18 != 0) && (r18 != 7))) (B ((r18 == 0) && (decide (r13 < r06)))))] /\ M.iterN (m_nilometerlaw10_OftenOwn_b4) m (l7, m2) = some ex464z /\ St w W [cBlk nb0_2 [v_tries, I q19, I q29] 101, cOwn (α := Int) 3 v_l7 l7, cOwn (α := Int) 3 v_l4 l4, cOwn (α := Int) 3 u0_7 r02, cOwn (α := Int) 3 u0_6 r0, cOwn (α := Pk) 72 v_l l, cBlk nb0_1 [v_numbers, I s, I s2] 101] R) ?_ ?_
              ·exact ⟨_, (r10.set (Int.toNat r11) (max 0 ((r10.getD (Int.toNat r11) 0) - r19) : Int)).set (Int.toNat r20) (((r10.set (Int.toNat r11) (max 0 ((r10.getD (Int.toNat r11) 0) - r19) : Int)).getD (Int.toNat r20) 0) + r21 : Int), 0, u0_11, _, upds_of _ _ ⟨rfl, rfl, rfl, rfl, rfl, rfl, rfl, rfl, rfl, rfl, rfl, rfl, rfl, rfl, rfl, rfl, rfl, rfl, trivial⟩, hi465z, H⟩
              ·rintro m469z σ w467z ⟨l7, m2, v_l7, ρ, rfl, hI468z, H⟩
               obtain ⟨m470z, lt471z, x472z, hM, hN473z⟩ := M.e_iterN hI468z
               simp only [m_nilometerlaw10_OftenOwn_b4] at hM
               clear hI468z
               refine W.seq ?_
               refine W.seq ?_
               refine W.region rfl ?_
               refine s_val (x_mv (v := I (m2 : Int)) rfl) ?_
               refine s_val (x_mv (v := v_l7) rfl) ?_
               have hl474z := ((ownSl (H.get (k := 1) rfl))).len_le
               refine s_val (x_lenS T27.und rfl (ownSl (H.get (k := 1) rfl))) ?_
               refine s_val (x_cmp (kd := .i64) (a := (m2 : Int)) (b := (l7.length : Int)) (r := decide ((m2 : Int) < (l7.length : Int))) rfl rfl rfl) ?_
               refine s_nil ?_
               refine W.cond (decide ((m2 : Int) < (l7.length : Int))) rfl (fun c475z => ?_) (fun c475z => ?_)
               ·replace hM := M.e_t hM c475z
                simp only [decide_eq_true_eq, decide_eq_false_iff_not, beq_iff_eq, bne_iff_ne, beq_eq_false_iff_ne, bne_eq_false_iff_eq, ne_eq, Decidable.not_not] at c475z
                refine W.skip ?_
                refine W.seq ?_
                refine W.block ?_
                refine W.region rfl ?_
                refine s_val (x_mv (v := v_l7) rfl) ?_
                refine s_val (x_mv (v := I (m2 : Int)) rfl) ?_
                refine s_val (x_mv (v := v_l7) rfl) ?_
                refine s_val (x_mv (v := I (m2 : Int)) rfl) ?_
                obtain ⟨sd476z, hM⟩ := M.e_grd hM
                simp only [Bool.and_eq_true, decide_eq_true_eq] at sd476z
                refine s_val (x_ix (a := v_l7) (b := I (m2 : Int)) (v := vat v_l7 1 (Int.toNat (m2 : Int))) rfl rfl (Sl.ix (α := Int) T27.und T27.size (ownSl (H.get (k := 1) rfl)) (by omega) (by omega))) ?_
                refine s_val (x_ld (p := vat v_l7 1 (Int.toNat (m2 : Int))) (v := I (l7.getD m2 0)) rfl (ld_sc Sc3 (At.mono (Int_at (ownSl (H.get (k := 1) rfl)) (i := (m2 : Int)) (by omega) (by omega)) (ownLe _ (H.get (k := 1) rfl))))) ?_
                refine s_val (x_min (kd := .i64) (a := l7.getD m2 0) (b := 2000) rfl rfl) ?_
                refine s_val (x_ix (a := v_l7) (b := I (m2 : Int)) (v := vat v_l7 1 (Int.toNat (m2 : Int))) rfl rfl (Sl.ix (α := Int) T27.und T27.size (ownSl (H.get (k := 1) rfl)) (by omega) (by omega))) ?_
                refine t_ost (k := 1) (i := (m2 : Int)) (l := l7) (l' := l7.set m2 (min (l7.getD m2 0) 2000 : Int)) (val := I (min (l7.getD m2 0) 2000)) (L' := [cBlk nb0_2 [v_tries, I q19, I q29] 101, cOwn (α := Int) 3 v_l7 (l7.set m2 (min (l7.getD m2 0) 2000 : Int)), cOwn (α := Int) 3 v_l4 l4, cOwn (α := Int) 3 u0_7 r02, cOwn (α := Int) 3 u0_6 r0, cOwn (α := Pk) 72 v_l l, cBlk nb0_1 [v_numbers, I s, I s2] 101]) H rfl Sz3 (by omega) (by omega) (min (l7.getD m2 0) 2000 : Int) rfl rfl rfl rfl rfl ?_
                intro w477z H
                refine s_nil ?_
                refine W.region rfl ?_
                refine s_val (x_mv (v := I (m2 : Int)) rfl) ?_
                refine s_val (x_ari (a := (m2 : Int)) (b := 1) (r := (m2 : Int) + 1) rfl rfl rfl (by omega)) ?_
                refine s_val (x_as (v := I ((m2 : Int) + 1)) rfl) ?_
                refine s_nil ?_
                exact ⟨m470z, lt471z, l7.set m2 (min (l7.getD m2 0) 2000 : Int), m2 + 1, v_l7, _, upds_of _ _ ⟨rfl, rfl, rfl, rfl, rfl, rfl, rfl, rfl, rfl, rfl, rfl, rfl, rfl, rfl, rfl, rfl, rfl, rfl, trivial⟩, M.e_inl hM hN473z, H⟩
               ·replace hM := M.e_f hM c475z
                simp only [decide_eq_true_eq, decide_eq_false_iff_not, beq_iff_eq, bne_iff_ne, beq_eq_false_iff_ne, bne_eq_false_iff_eq, ne_eq, Decidable.not_not] at c475z
                refine W.exit ?_
                have hX478z := M.e_inr hM hN473z
                subst hX478z
                replace hM := hk466z
                try dsimp only at hM
                refine W.seq ?_
                refine W.region rfl ?_
                refine s_val (x_mv (v := I r13) rfl) ?_
                refine s_val (x_mv (v := .pointer (some ⟨nb0_2, 0, none⟩)) rfl) ?_
                obtain ⟨r480z, hx479z, hM⟩ := M.e_bind hM
                refine s_call cf14 [.pointer (some ⟨nb0_2, 0, none⟩), I 9] rfl (nilometerkit_Stream_Next_ok tries q19 q29 9 (hC_tries.app _) hs_tries hx479z _ (St.give (T := [cOwn (α := Int) 3 v_l7 l7, cOwn (α := Int) 3 v_l4 l4, cOwn (α := Int) 3 u0_7 r02, cOwn (α := Int) 3 u0_6 r0, cOwn (α := Pk) 72 v_l l, cBlk nb0_1 [v_numbers, I s, I s2] 101]) H rfl)) ?_
                rintro vq w481z ⟨r24, q110, q210, hr482z, hvq, H2_⟩
                subst hr482z
                subst vq
                try dsimp only at hM
                replace H : St w w481z [cBlk nb0_2 [v_tries, I q110, I q210] 101, cOwn (α := Int) 3 v_l7 l7, cOwn (α := Int) 3 v_l4 l4, cOwn (α := Int) 3 u0_7 r02, cOwn (α := Int) 3 u0_6 r0, cOwn (α := Pk) 72 v_l l, cBlk nb0_1 [v_numbers, I s, I s2] 101] R := H.back H2_ rfl
                clear H2_
                obtain ⟨sd483z, hM⟩ := M.e_grd hM
                simp only [Bool.and_eq_true, decide_eq_true_eq] at sd483z
                refine s_val (x_ari (a := r13) (b := r24) (r := r13 - r24) rfl rfl rfl (by omega)) ?_
                refine s_val (x_as (v := I (r13 - r24)) rfl) ?_
                refine s_nil ?_
                refine W.seq ?_
                refine W.region rfl ?_
                refine s_val (x_mv (v := v_l) rfl) ?_
                refine s_val (x_mv (v := I (1 + r6)) rfl) ?_
                refine s_val (x_mv (v := I r7) rfl) ?_
                refine s_val (x_mv (v := I (r13 - r24)) rfl) ?_
                refine s_val (x_mv (v := v_l7) rfl) ?_
                obtain ⟨r485z, hx484z, hM⟩ := M.e_bind hM
                refine s_call cf41 [v_l, I (1 + r6), I r7, I (r13 - r24), v_l7] rfl (often_Proves_ok l (1 + r6) r7 (r13 - r24) l7 (Reads.of (k := 5) rfl ownLe) (ownSl (H.get (k := 5) rfl)) (Reads.of (k := 1) rfl ownLe) (ownSl (H.get (k := 1) rfl)) hx484z _ (St.give (T := [cBlk nb0_2 [v_tries, I q110, I q210] 101, cOwn (α := Int) 3 v_l7 l7, cOwn (α := Int) 3 v_l4 l4, cOwn (α := Int) 3 u0_7 r02, cOwn (α := Int) 3 u0_6 r0, cOwn (α := Pk) 72 v_l l, cBlk nb0_1 [v_numbers, I s, I s2] 101]) H rfl)) ?_
                rintro vq w486z ⟨r07, r110, hr487z, hvq, H2_⟩
                subst hr487z
                subst vq
                try dsimp only at hM
                replace H : St w w486z [cBlk nb0_2 [v_tries, I q110, I q210] 101, cOwn (α := Int) 3 v_l7 l7, cOwn (α := Int) 3 v_l4 l4, cOwn (α := Int) 3 u0_7 r02, cOwn (α := Int) 3 u0_6 r0, cOwn (α := Pk) 72 v_l l, cBlk nb0_1 [v_numbers, I s, I s2] 101] R := H.back H2_ rfl
                clear H2_
                refine s_val (x_mv (v := .tuple #[B r07, I r110]) rfl) ?_
                refine s_val (x_ext (vs := [B r07, I r110]) (v := B r07) rfl rfl) ?_
                refine s_val (x_ext (vs := [B r07, I r110]) (v := I r110) rfl rfl) ?_
                refine s_val (x_as (v := B r07) rfl) ?_
                refine s_val (x_as (v := I r110) rfl) ?_
                refine s_nil ?_
                refine W.seq ?_
                refine W.region rfl ?_
                refine s_val (x_mv (v := I r110) rfl) ?_
                refine s_val (x_cmp (kd := .i64) (a := r110) (b := 0) (r := r110 != 0) rfl rfl rfl) ?_
                refine s_val (x_mv (v := B (r110 != 0)) rfl) ?_
                refine g_val (!(r110 != 0)) (gy_f rfl) (fun hg => x_mv (v := B r07) rfl) ?_
                refine g_val (!(r110 != 0)) (gy_f rfl) (fun hg => x_mv (v := B r07) (gd_of (c := !(r110 != 0)) hg (B r07))) ?_
                refine g_val ((!(r110 != 0)) && r07) (gy_gt rfl rfl) (fun hg => x_mv (v := I (r13 - r24)) rfl) ?_
                refine g_val ((!(r110 != 0)) && r07) (gy_gt rfl rfl) (fun hg => x_mv (v := I r13) rfl) ?_
                refine g_val ((!(r110 != 0)) && r07) (gy_gt rfl rfl) (fun hg => x_cmp (kd := .i64) (a := r13 - r24) (b := r13) (r := decide ((r13 - r24) < r13)) (gd_of (c := ((!(r110 != 0)) && r07)) hg (I (r13 - r24))) (gd_of (c := ((!(r110 != 0)) && r07)) hg (I r13)) rfl) ?_
                refine g_val (!(r110 != 0)) (gy_f rfl) (fun hg => x_pand (b := r07) (r := decide ((r13 - r24) < r13)) (gd_of (c := !(r110 != 0)) hg (B r07)) (fun hb => gd_of (c := ((!(r110 != 0)) && r07)) (by first | exact hb | (rw [hb]; rfl) | simp_all) (B (decide ((r13 - r24) < r13)))) rfl) ?_
                refine s_val (x_por (b := r110 != 0) (r := (r07 && (decide ((r13 - r24) < r13)))) rfl rfl (fun hb => gd_of (c := !(r110 != 0)) (by first | exact hb | (rw [hb]; rfl) | simp_all) (B (r07 && (decide ((r13 - r24) < r13)))))) ?_
                refine s_nil ?_
                refine W.cond ((r110 != 0) || (r07 && (decide ((r13 - r24) < r13)))) rfl (fun c488z => ?_) (fun c488z => ?_)
                ·replace hM := M.e_t hM c488z
                 refine W.seq ?_
                 refine W.region rfl ?_
                 refine s_val (x_as (v := B false) rfl) ?_
                 refine s_nil ?_
                 refine W.ret ?_
                 have hX489z := M.e_inr hM hN83z
                 subst hX489z
                 replace hM := hk76z
                 try dsimp only at hM
                 have hr_ := M.e_pure hM
                 exact ⟨_, resE_tmp rfl, ⟨false, hr_, rfl, (H.pick [] (by decide) rfl)⟩⟩
                ·replace hM := M.e_f hM c488z
                 refine W.skip ?_
                 refine W.region rfl ?_
                 refine s_val (x_mv (v := I (k : Int)) rfl) ?_
                 refine s_val (x_ari (a := (k : Int)) (b := 1) (r := (k : Int) + 1) rfl rfl rfl (by omega)) ?_
                 refine s_val (x_as (v := I ((k : Int) + 1)) rfl) ?_
                 refine s_nil ?_
                 exact ⟨m80z, lt81z, q110, q210, k + 1, _, upds_of _ _ ⟨rfl, rfl, rfl, rfl, rfl, rfl, rfl, trivial⟩, M.e_inl hM hN83z, (H.pick [3, 4, 5, 6, 0] (by decide) rfl)⟩
             ·skip
              obtain ⟨r491z, hx490z, hM⟩ := M.e_bind hM
              refine s_call cf14 [.pointer (some ⟨nb0_2, 0, none⟩), I 2] rfl (nilometerkit_Stream_Next_ok tries q18 q28 2 (hC_tries.app _) hs_tries hx490z _ (St.give (T := [cOwn (α := Int) 3 u0_11 (r10.set (Int.toNat r11) (max 0 ((r10.getD (Int.toNat r11) 0) - r19) : Int)), cOwn (α := Int) 3 v_l4 l4, cOwn (α := Int) 3 u0_7 r02, cOwn (α := Int) 3 u0_6 r0, cOwn (α := Pk) 72 v_l l, cBlk nb0_1 [v_numbers, I s, I s2] 101]) H rfl)) ?_
              rintro vq w492z ⟨r21, q19, q29, hr493z, hvq, H2_⟩
              subst hr493z
              subst vq
              try dsimp only at hM
              replace H : St w w492z [cBlk nb0_2 [v_tries, I q19, I q29] 101, cOwn (α := Int) 3 u0_11 (r10.set (Int.toNat r11) (max 0 ((r10.getD (Int.toNat r11) 0) - r19) : Int)), cOwn (α := Int) 3 v_l4 l4, cOwn (α := Int) 3 u0_7 r02, cOwn (α := Int) 3 u0_6 r0, cOwn (α := Pk) 72 v_l l, cBlk nb0_1 [v_numbers, I s, I s2] 101] R := H.back H2_ rfl
              clear H2_
              refine s_nil ⟨(H.pick [2, 3, 4, 5, 6] (by decide) rfl), ?_⟩
              refine t_l rfl ?_
              refine s_val (x_ld (p := vat u0_11 1 (Int.toNat r20)) (v := I ((r10.set (Int.toNat r11) (max 0 ((r10.getD (Int.toNat r11) 0) - r19) : Int)).getD (Int.toNat r20) 0)) rfl (ld_sc Sc3 (At.mono (Int_at (ownSl (H.get (k := 1) rfl)) (i := r20) (by omega) (by omega)) (ownLe _ (H.get (k := 1) rfl))))) ?_
              refine s_nil ⟨(H.pick [2, 3, 4, 5, 6] (by decide) rfl), ?_⟩
              obtain ⟨sd494z, hM⟩ := M.e_grd hM
              simp only [Bool.and_eq_true, decide_eq_true_eq] at sd494z
              refine t_q rfl (fun w' H => x_ari (a := (r10.set (Int.toNat r11) (max 0 ((r10.getD (Int.toNat r11) 0) - r19) : Int)).getD (Int.toNat r20) 0) (b := r21) (r := ((r10.set (Int.toNat r11) (max 0 ((r10.getD (Int.toNat r11) 0) - r19) : Int)).getD (Int.toNat r20) 0) + r21) rfl rfl rfl (by omega)) ?_
              refine t_l rfl ?_
              refine s_val (x_ix (a := u0_11) (b := I r20) (v := vat u0_11 1 (Int.toNat r20)) rfl rfl (Sl.ix (α := Int) T27.und T27.size (ownSl (H.get (k := 1) rfl)) (by omega) (by omega))) ?_
              refine s_nil ⟨(H.pick [2, 3, 4, 5, 6] (by decide) rfl), ?_⟩
              refine t_l rfl ?_
              refine t_ost (k := 1) (i := r20) (l := r10.set (Int.toNat r11) (max 0 ((r10.getD (Int.toNat r11) 0) - r19) : Int)) (l' := (r10.set (Int.toNat r11) (max 0 ((r10.getD (Int.toNat r11) 0) - r19) : Int)).set (Int.toNat r20) (((r10.set (Int.toNat r11) (max 0 ((r10.getD (Int.toNat r11) 0) - r19) : Int)).getD (Int.toNat r20) 0) + r21 : Int)) (val := I (((r10.set (Int.toNat r11) (max 0 ((r10.getD (Int.toNat r11) 0) - r19) : Int)).getD (Int.toNat r20) 0) + r21)) (L' := [cBlk nb0_2 [v_tries, I q19, I q29] 101, cOwn (α := Int) 3 u0_11 ((r10.set (Int.toNat r11) (max 0 ((r10.getD (Int.toNat r11) 0) - r19) : Int)).set (Int.toNat r20) (((r10.set (Int.toNat r11) (max 0 ((r10.getD (Int.toNat r11) 0) - r19) : Int)).getD (Int.toNat r20) 0) + r21 : Int)), cOwn (α := Int) 3 v_l4 l4, cOwn (α := Int) 3 u0_7 r02, cOwn (α := Int) 3 u0_6 r0, cOwn (α := Pk) 72 v_l l, cBlk nb0_1 [v_numbers, I s, I s2] 101]) H rfl Sz3 (by omega) (by omega) (((r10.set (Int.toNat r11) (max 0 ((r10.getD (Int.toNat r11) 0) - r19) : Int)).getD (Int.toNat r20) 0) + r21 : Int) rfl rfl rfl rfl rfl ?_
              intro w495z H
              refine s_nil ⟨(H.pick [2, 3, 4, 5, 6] (by decide) rfl), ?_⟩
              refine t_nil ?_
              refine W.seq ?_
              refine W.seq ?_
              refine W.region rfl ?_
              refine s_val (x_as (v := I 0) rfl) ?_
              refine s_nil ?_
              refine W.block ?_
              obtain ⟨ex496z, hi497z, hk498z⟩ := M.e_bind hM
              obtain ⟨m0_, hi497z⟩ := M.e_iter hi497z
              refine W.loop (fun m σ W => ∃ (l7 : List Int) (m2 : Nat) (v_l7 : Value) (ρ : Env), σ = upds ρ [(10, .pointer (some ⟨nb0_2, 0, none⟩)), (11, v_l), (14, I (1 + r6)), (15, I r7), (17, I r13), (19, u0_7), (25, I (k : Int)), (30, v_l7), (32, I (m2 : Int)), (177, gd (r18 != 0) (I r18)), (178, gd (r18 != 0) (B (r18 != 7))), (181, gd (!((r18 != 0) && (r18 != 7))) (I r18)), (182, gd (!((r18 != 0) && (r18 != 7))) (B (r18 == 0))), (183, gd (!((r18 != 0) && (r18 != 7))) (B (r18 == 0))), (184, gd ((!((r18 != 0) && (r18 != 7))) && (r18 == 0)) (I r06)), (185, gd ((!((r18 != 0) && (r18 != 7))) && (r18 == 0)) (I r13)), (186, gd ((!((r18 != 0) && (r18 != 7))) && (r18 == 0)) (B (decide (r13 < r06)))), (187, gd (!((r18 != 0) && (r18 != 7))) (B ((r18 == 0) && (decide (r13 < r06)))))] /\ M.iterN (m_nilometerlaw10_OftenOwn_b4) m (l7, m2) = some ex496z /\ St w W [cBlk nb0_2 [v_tries, I q19, I q29] 101, cOwn (α := Int) 3 v_l7 l7, cOwn (α := Int) 3 v_l4 l4, cOwn (α := Int) 3 u0_7 r02, cOwn (α := Int) 3 u0_6 r0, cOwn (α := Pk) 72 v_l l, cBlk nb0_1 [v_numbers, I s, I s2] 101] R) ?_ ?_
              ·exact ⟨_, (r10.set (Int.toNat r11) (max 0 ((r10.getD (Int.toNat r11) 0) - r19) : Int)).set (Int.toNat r20) (((r10.set (Int.toNat r11) (max 0 ((r10.getD (Int.toNat r11) 0) - r19) : Int)).getD (Int.toNat r20) 0) + r21 : Int), 0, u0_11, _, upds_of _ _ ⟨rfl, rfl, rfl, rfl, rfl, rfl, rfl, rfl, rfl, rfl, rfl, rfl, rfl, rfl, rfl, rfl, rfl, rfl, trivial⟩, hi497z, H⟩
              ·rintro m501z σ w499z ⟨l7, m2, v_l7, ρ, rfl, hI500z, H⟩
               obtain ⟨m502z, lt503z, x504z, hM, hN505z⟩ := M.e_iterN hI500z
               simp only [m_nilometerlaw10_OftenOwn_b4] at hM
               clear hI500z
               refine W.seq ?_
               refine W.seq ?_
               refine W.region rfl ?_
               refine s_val (x_mv (v := I (m2 : Int)) rfl) ?_
               refine s_val (x_mv (v := v_l7) rfl) ?_
               have hl506z := ((ownSl (H.get (k := 1) rfl))).len_le
               refine s_val (x_lenS T27.und rfl (ownSl (H.get (k := 1) rfl))) ?_
               refine s_val (x_cmp (kd := .i64) (a := (m2 : Int)) (b := (l7.length : Int)) (r := decide ((m2 : Int) < (l7.length : Int))) rfl rfl rfl) ?_
               refine s_nil ?_
               refine W.cond (decide ((m2 : Int) < (l7.length : Int))) rfl (fun c507z => ?_) (fun c507z => ?_)
               ·replace hM := M.e_t hM c507z
                simp only [decide_eq_true_eq, decide_eq_false_iff_not, beq_iff_eq, bne_iff_ne, beq_eq_false_iff_ne, bne_eq_false_iff_eq, ne_eq, Decidable.not_not] at c507z
                refine W.skip ?_
                refine W.seq ?_
                refine W.block ?_
                refine W.region rfl ?_
                refine s_val (x_mv (v := v_l7) rfl) ?_
                refine s_val (x_mv (v := I (m2 : Int)) rfl) ?_
                refine s_val (x_mv (v := v_l7) rfl) ?_
                refine s_val (x_mv (v := I (m2 : Int)) rfl) ?_
                obtain ⟨sd508z, hM⟩ := M.e_grd hM
                simp only [Bool.and_eq_true, decide_eq_true_eq] at sd508z
                refine s_val (x_ix (a := v_l7) (b := I (m2 : Int)) (v := vat v_l7 1 (Int.toNat (m2 : Int))) rfl rfl (Sl.ix (α := Int) T27.und T27.size (ownSl (H.get (k := 1) rfl)) (by omega) (by omega))) ?_
                refine s_val (x_ld (p := vat v_l7 1 (Int.toNat (m2 : Int))) (v := I (l7.getD m2 0)) rfl (ld_sc Sc3 (At.mono (Int_at (ownSl (H.get (k := 1) rfl)) (i := (m2 : Int)) (by omega) (by omega)) (ownLe _ (H.get (k := 1) rfl))))) ?_
                refine s_val (x_min (kd := .i64) (a := l7.getD m2 0) (b := 2000) rfl rfl) ?_
                refine s_val (x_ix (a := v_l7) (b := I (m2 : Int)) (v := vat v_l7 1 (Int.toNat (m2 : Int))) rfl rfl (Sl.ix (α := Int) T27.und T27.size (ownSl (H.get (k := 1) rfl)) (by omega) (by omega))) ?_
                refine t_ost (k := 1) (i := (m2 : Int)) (l := l7) (l' := l7.set m2 (min (l7.getD m2 0) 2000 : Int)) (val := I (min (l7.getD m2 0) 2000)) (L' := [cBlk nb0_2 [v_tries, I q19, I q29] 101, cOwn (α := Int) 3 v_l7 (l7.set m2 (min (l7.getD m2 0) 2000 : Int)), cOwn (α := Int) 3 v_l4 l4, cOwn (α := Int) 3 u0_7 r02, cOwn (α := Int) 3 u0_6 r0, cOwn (α := Pk) 72 v_l l, cBlk nb0_1 [v_numbers, I s, I s2] 101]) H rfl Sz3 (by omega) (by omega) (min (l7.getD m2 0) 2000 : Int) rfl rfl rfl rfl rfl ?_
                intro w509z H
                refine s_nil ?_
                refine W.region rfl ?_
                refine s_val (x_mv (v := I (m2 : Int)) rfl) ?_
                refine s_val (x_ari (a := (m2 : Int)) (b := 1) (r := (m2 : Int) + 1) rfl rfl rfl (by omega)) ?_
                refine s_val (x_as (v := I ((m2 : Int) + 1)) rfl) ?_
                refine s_nil ?_
                exact ⟨m502z, lt503z, l7.set m2 (min (l7.getD m2 0) 2000 : Int), m2 + 1, v_l7, _, upds_of _ _ ⟨rfl, rfl, rfl, rfl, rfl, rfl, rfl, rfl, rfl, rfl, rfl, rfl, rfl, rfl, rfl, rfl, rfl, rfl, trivial⟩, M.e_inl hM hN505z, H⟩
               ·replace hM := M.e_f hM c507z
                simp only [decide_eq_true_eq, decide_eq_false_iff_not, beq_iff_eq, bne_iff_ne, beq_eq_false_iff_ne, bne_eq_false_iff_eq, ne_eq, Decidable.not_not] at c507z
                refine W.exit ?_
                have hX510z := M.e_inr hM hN505z
                subst hX510z
                replace hM := hk498z
                try dsimp only at hM
                refine W.seq ?_
                refine W.region rfl ?_
                refine s_val (x_mv (v := I r13) rfl) ?_
                refine s_val (x_mv (v := .pointer (some ⟨nb0_2, 0, none⟩)) rfl) ?_
                obtain ⟨r512z, hx511z, hM⟩ := M.e_bind hM
                refine s_call cf14 [.pointer (some ⟨nb0_2, 0, none⟩), I 9] rfl (nilometerkit_Stream_Next_ok tries q19 q29 9 (hC_tries.app _) hs_tries hx511z _ (St.give (T := [cOwn (α := Int) 3 v_l7 l7, cOwn (α := Int) 3 v_l4 l4, cOwn (α := Int) 3 u0_7 r02, cOwn (α := Int) 3 u0_6 r0, cOwn (α := Pk) 72 v_l l, cBlk nb0_1 [v_numbers, I s, I s2] 101]) H rfl)) ?_
                rintro vq w513z ⟨r24, q110, q210, hr514z, hvq, H2_⟩
                subst hr514z
                subst vq
                try dsimp only at hM
                replace H : St w w513z [cBlk nb0_2 [v_tries, I q110, I q210] 101, cOwn (α := Int) 3 v_l7 l7, cOwn (α := Int) 3 v_l4 l4, cOwn (α := Int) 3 u0_7 r02, cOwn (α := Int) 3 u0_6 r0, cOwn (α := Pk) 72 v_l l, cBlk nb0_1 [v_numbers, I s, I s2] 101] R := H.back H2_ rfl
                clear H2_
                obtain ⟨sd515z, hM⟩ := M.e_grd hM
                simp only [Bool.and_eq_true, decide_eq_true_eq] at sd515z
                refine s_val (x_ari (a := r13) (b := r24) (r := r13 - r24) rfl rfl rfl (by omega)) ?_
                refine s_val (x_as (v := I (r13 - r24)) rfl) ?_
                refine s_nil ?_
                refine W.seq ?_
                refine W.region rfl ?_
                refine s_val (x_mv (v := v_l) rfl) ?_
                refine s_val (x_mv (v := I (1 + r6)) rfl) ?_
                refine s_val (x_mv (v := I r7) rfl) ?_
                refine s_val (x_mv (v := I (r13 - r24)) rfl) ?_
                refine s_val (x_mv (v := v_l7) rfl) ?_
                obtain ⟨r517z, hx516z, hM⟩ := M.e_bind hM
                refine s_call cf41 [v_l, I (1 + r6), I r7, I (r13 - r24), v_l7] rfl (often_Proves_ok l (1 + r6) r7 (r13 - r24) l7 (Reads.of (k := 5) rfl ownLe) (ownSl (H.get (k := 5) rfl)) (Reads.of (k := 1) rfl ownLe) (ownSl (H.get (k := 1) rfl)) hx516z _ (St.give (T := [cBlk nb0_2 [v_tries, I q110, I q210] 101, cOwn (α := Int) 3 v_l7 l7, cOwn (α := Int) 3 v_l4 l4, cOwn (α := Int) 3 u0_7 r02, cOwn (α := Int) 3 u0_6 r0, cOwn (α := Pk) 72 v_l l, cBlk nb0_1 [v_numbers, I s, I s2] 101]) H rfl)) ?_
                rintro vq w518z ⟨r07, r110, hr519z, hvq, H2_⟩
                subst hr519z
                subst vq
                try dsimp only at hM
                replace H : St w w518z [cBlk nb0_2 [v_tries, I q110, I q210] 101, cOwn (α := Int) 3 v_l7 l7, cOwn (α := Int) 3 v_l4 l4, cOwn (α := Int) 3 u0_7 r02, cOwn (α := Int) 3 u0_6 r0, cOwn (α := Pk) 72 v_l l, cBlk nb0_1 [v_numbers, I s, I s2] 101] R := H.back H2_ rfl
                clear H2_
                refine s_val (x_mv (v := .tuple #[B r07, I r110]) rfl) ?_
                refine s_val (x_ext (vs := [B r07, I r110]) (v := B r07) rfl rfl) ?_
                refine s_val (x_ext (vs := [B r07, I r110]) (v := I r110) rfl rfl) ?_
                refine s_val (x_as (v := B r07) rfl) ?_
                refine s_val (x_as (v := I r110) rfl) ?_
                refine s_nil ?_
                refine W.seq ?_
                refine W.region rfl ?_
                refine s_val (x_mv (v := I r110) rfl) ?_
                refine s_val (x_cmp (kd := .i64) (a := r110) (b := 0) (r := r110 != 0) rfl rfl rfl) ?_
                refine s_val (x_mv (v := B (r110 != 0)) rfl) ?_
                refine g_val (!(r110 != 0)) (gy_f rfl) (fun hg => x_mv (v := B r07) rfl) ?_
                refine g_val (!(r110 != 0)) (gy_f rfl) (fun hg => x_mv (v := B r07) (gd_of (c := !(r110 != 0)) hg (B r07))) ?_
                refine g_val ((!(r110 != 0)) && r07) (gy_gt rfl rfl) (fun hg => x_mv (v := I (r13 - r24)) rfl) ?_
                refine g_val ((!(r110 != 0)) && r07) (gy_gt rfl rfl) (fun hg => x_mv (v := I r13) rfl) ?_
                refine g_val ((!(r110 != 0)) && r07) (gy_gt rfl rfl) (fun hg => x_cmp (kd := .i64) (a := r13 - r24) (b := r13) (r := decide ((r13 - r24) < r13)) (gd_of (c := ((!(r110 != 0)) && r07)) hg (I (r13 - r24))) (gd_of (c := ((!(r110 != 0)) && r07)) hg (I r13)) rfl) ?_
                refine g_val (!(r110 != 0)) (gy_f rfl) (fun hg => x_pand (b := r07) (r := decide ((r13 - r24) < r13)) (gd_of (c := !(r110 != 0)) hg (B r07)) (fun hb => gd_of (c := ((!(r110 != 0)) && r07)) (by first | exact hb | (rw [hb]; rfl) | simp_all) (B (decide ((r13 - r24) < r13)))) rfl) ?_
                refine s_val (x_por (b := r110 != 0) (r := (r07 && (decide ((r13 - r24) < r13)))) rfl rfl (fun hb => gd_of (c := !(r110 != 0)) (by first | exact hb | (rw [hb]; rfl) | simp_all) (B (r07 && (decide ((r13 - r24) < r13)))))) ?_
                refine s_nil ?_
                refine W.cond ((r110 != 0) || (r07 && (decide ((r13 - r24) < r13)))) rfl (fun c520z => ?_) (fun c520z => ?_)
                ·replace hM := M.e_t hM c520z
                 refine W.seq ?_
                 refine W.region rfl ?_
                 refine s_val (x_as (v := B false) rfl) ?_
                 refine s_nil ?_
                 refine W.ret ?_
                 have hX521z := M.e_inr hM hN83z
                 subst hX521z
                 replace hM := hk76z
                 try dsimp only at hM
                 have hr_ := M.e_pure hM
                 exact ⟨_, resE_tmp rfl, ⟨false, hr_, rfl, (H.pick [] (by decide) rfl)⟩⟩
                ·replace hM := M.e_f hM c520z
                 refine W.skip ?_
                 refine W.region rfl ?_
                 refine s_val (x_mv (v := I (k : Int)) rfl) ?_
                 refine s_val (x_ari (a := (k : Int)) (b := 1) (r := (k : Int) + 1) rfl rfl rfl (by omega)) ?_
                 refine s_val (x_as (v := I ((k : Int) + 1)) rfl) ?_
                 refine s_nil ?_
                 exact ⟨m80z, lt81z, q110, q210, k + 1, _, upds_of _ _ ⟨rfl, rfl, rfl, rfl, rfl, rfl, rfl, trivial⟩, M.e_inl hM hN83z, (H.pick [3, 4, 5, 6, 0] (by decide) rfl)⟩
            ·skip
             obtain ⟨r523z, hx522z, hM⟩ := M.e_bind hM
             refine s_call cf14 [.pointer (some ⟨nb0_2, 0, none⟩), I 2] rfl (nilometerkit_Stream_Next_ok tries q18 q28 2 (hC_tries.app _) hs_tries hx522z _ (St.give (T := [cOwn (α := Int) 3 u0_11 (r10.set (Int.toNat r11) (max 0 ((r10.getD (Int.toNat r11) 0) - r19) : Int)), cOwn (α := Int) 3 v_l4 l4, cOwn (α := Int) 3 u0_7 r02, cOwn (α := Int) 3 u0_6 r0, cOwn (α := Pk) 72 v_l l, cBlk nb0_1 [v_numbers, I s, I s2] 101]) H rfl)) ?_
             rintro vq w524z ⟨r21, q19, q29, hr525z, hvq, H2_⟩
             subst hr525z
             subst vq
             try dsimp only at hM
             replace H : St w w524z [cBlk nb0_2 [v_tries, I q19, I q29] 101, cOwn (α := Int) 3 u0_11 (r10.set (Int.toNat r11) (max 0 ((r10.getD (Int.toNat r11) 0) - r19) : Int)), cOwn (α := Int) 3 v_l4 l4, cOwn (α := Int) 3 u0_7 r02, cOwn (α := Int) 3 u0_6 r0, cOwn (α := Pk) 72 v_l l, cBlk nb0_1 [v_numbers, I s, I s2] 101] R := H.back H2_ rfl
             clear H2_
             refine s_nil ⟨(H.pick [2, 3, 4, 5, 6] (by decide) rfl), ?_⟩
             refine t_l rfl ?_
             refine s_val (x_ix (a := u0_11) (b := I r20) (v := vat u0_11 1 (Int.toNat r20)) rfl rfl (Sl.ix (α := Int) T27.und T27.size (ownSl (H.get (k := 1) rfl)) (by omega) (by omega))) ?_
             refine s_nil ⟨(H.pick [2, 3, 4, 5, 6] (by decide) rfl), ?_⟩
             refine t_l rfl ?_
             refine s_val (x_ld (p := vat u0_11 1 (Int.toNat r20)) (v := I ((r10.set (Int.toNat r11) (max 0 ((r10.getD (Int.toNat r11) 0) - r19) : Int)).getD (Int.toNat r20) 0)) rfl (ld_sc Sc3 (At.mono (Int_at (ownSl (H.get (k := 1) rfl)) (i := r20) (by omega) (by omega)) (ownLe _ (H.get (k := 1) rfl))))) ?_
             refine s_nil ⟨(H.pick [2, 3, 4, 5, 6] (by decide) rfl), ?_⟩
             obtain ⟨sd526z, hM⟩ := M.e_grd hM
             simp only [Bool.and_eq_true, decide_eq_true_eq] at sd526z
             refine t_q rfl (fun w' H => x_ari (a := (r10.set (Int.toNat r11) (max 0 ((r10.getD (Int.toNat r11) 0) - r19) : Int)).getD (Int.toNat r20) 0) (b := r21) (r := ((r10.set (Int.toNat r11) (max 0 ((r10.getD (Int.toNat r11) 0) - r19) : Int)).getD (Int.toNat r20) 0) + r21) rfl rfl rfl (by omega)) ?_
             refine t_l rfl ?_
             refine s_val (x_ix (a := u0_11) (b := I r20) (v := vat u0_11 1 (Int.toNat r20)) rfl rfl (Sl.ix (α := Int) T27.und T27.size (ownSl (H.get (k := 1) rfl)) (by omega) (by omega))) ?_
             refine s_nil ⟨(H.pick [2, 3, 4, 5, 6] (by decide) rfl), ?_⟩
             refine t_l rfl ?_
             refine t_ost (k := 1) (i := r20) (l := r10.set (Int.toNat r11) (max 0 ((r10.getD (Int.toNat r11) 0) - r19) : Int)) (l' := (r10.set (Int.toNat r11) (max 0 ((r10.getD (Int.toNat r11) 0) - r19) : Int)).set (Int.toNat r20) (((r10.set (Int.toNat r11) (max 0 ((r10.getD (Int.toNat r11) 0) - r19) : Int)).getD (Int.toNat r20) 0) + r21 : Int)) (val := I (((r10.set (Int.toNat r11) (max 0 ((r10.getD (Int.toNat r11) 0) - r19) : Int)).getD (Int.toNat r20) 0) + r21)) (L' := [cBlk nb0_2 [v_tries, I q19, I q29] 101, cOwn (α := Int) 3 u0_11 ((r10.set (Int.toNat r11) (max 0 ((r10.getD (Int.toNat r11) 0) - r19) : Int)).set (Int.toNat r20) (((r10.set (Int.toNat r11) (max 0 ((r10.getD (Int.toNat r11) 0) - r19) : Int)).getD (Int.toNat r20) 0) + r21 : Int)), cOwn (α := Int) 3 v_l4 l4, cOwn (α := Int) 3 u0_7 r02, cOwn (α := Int) 3 u0_6 r0, cOwn (α := Pk) 72 v_l l, cBlk nb0_1 [v_numbers, I s, I s2] 101]) H rfl Sz3 (by omega) (by omega) (((r10.set (Int.toNat r11) (max 0 ((r10.getD (Int.toNat r11) 0) - r19) : Int)).getD (Int.toNat r20) 0) + r21 : Int) rfl rfl rfl rfl rfl ?_
             intro w527z H
             refine s_nil ⟨(H.pick [2, 3, 4, 5, 6] (by decide) rfl), ?_⟩
             refine t_nil ?_
             refine W.seq ?_
             refine W.seq ?_
             refine W.region rfl ?_
             refine s_val (x_as (v := I 0) rfl) ?_
             refine s_nil ?_
             refine W.block ?_
             obtain ⟨ex528z, hi529z, hk530z⟩ := M.e_bind hM
             obtain ⟨m0_, hi529z⟩ := M.e_iter hi529z
             refine W.loop (fun m σ W => ∃ (l7 : List Int) (m2 : Nat) (v_l7 : Value) (ρ : Env), σ = upds ρ [(10, .pointer (some ⟨nb0_2, 0, none⟩)), (11, v_l), (14, I (1 + r6)), (15, I r7), (17, I r13), (19, u0_7), (25, I (k : Int)), (30, v_l7), (32, I (m2 : Int)), (177, gd (r18 != 0) (I r18)), (178, gd (r18 != 0) (B (r18 != 7))), (181, gd (!((r18 != 0) && (r18 != 7))) (I r18)), (182, gd (!((r18 != 0) && (r18 != 7))) (B (r18 == 0))), (183, gd (!((r18 != 0) && (r18 != 7))) (B (r18 == 0))), (184, gd ((!((r18 != 0) && (r18 != 7))) && (r18 == 0)) (I r06)), (185, gd ((!((r18 != 0) && (r18 != 7))) && (r18 == 0)) (I r13)), (186, gd ((!((r18 != 0) && (r18 != 7))) && (r18 == 0)) (B (decide (r13 < r06)))), (187, gd (!((r18 != 0) && (r18 != 7))) (B ((r18 == 0) && (decide (r13 < r06)))))] /\ M.iterN (m_nilometerlaw10_OftenOwn_b4) m (l7, m2) = some ex528z /\ St w W [cBlk nb0_2 [v_tries, I q19, I q29] 101, cOwn (α := Int) 3 v_l7 l7, cOwn (α := Int) 3 v_l4 l4, cOwn (α := Int) 3 u0_7 r02, cOwn (α := Int) 3 u0_6 r0, cOwn (α := Pk) 72 v_l l, cBlk nb0_1 [v_numbers, I s, I s2] 101] R) ?_ ?_
             ·exact ⟨_, (r10.set (Int.toNat r11) (max 0 ((r10.getD (Int.toNat r11) 0) - r19) : Int)).set (Int.toNat r20) (((r10.set (Int.toNat r11) (max 0 ((r10.getD (Int.toNat r11) 0) - r19) : Int)).getD (Int.toNat r20) 0) + r21 : Int), 0, u0_11, _, upds_of _ _ ⟨rfl, rfl, rfl, rfl, rfl, rfl, rfl, rfl, rfl, rfl, rfl, rfl, rfl, rfl, rfl, rfl, rfl, rfl, trivial⟩, hi529z, H⟩
             ·rintro m533z σ w531z ⟨l7, m2, v_l7, ρ, rfl, hI532z, H⟩
              obtain ⟨m534z, lt535z, x536z, hM, hN537z⟩ := M.e_iterN hI532z
              simp only [m_nilometerlaw10_OftenOwn_b4] at hM
              clear hI532z
              refine W.seq ?_
              refine W.seq ?_
              refine W.region rfl ?_
              refine s_val (x_mv (v := I (m2 : Int)) rfl) ?_
              refine s_val (x_mv (v := v_l7) rfl) ?_
              have hl538z := ((ownSl (H.get (k := 1) rfl))).len_le
              refine s_val (x_lenS T27.und rfl (ownSl (H.get (k := 1) rfl))) ?_
              refine s_val (x_cmp (kd := .i64) (a := (m2 : Int)) (b := (l7.length : Int)) (r := decide ((m2 : Int) < (l7.length : Int))) rfl rfl rfl) ?_
              refine s_nil ?_
              refine W.cond (decide ((m2 : Int) < (l7.length : Int))) rfl (fun c539z => ?_) (fun c539z => ?_)
              ·replace hM := M.e_t hM c539z
               simp only [decide_eq_true_eq, decide_eq_false_iff_not, beq_iff_eq, bne_iff_ne, beq_eq_false_iff_ne, bne_eq_false_iff_eq, ne_eq, Decidable.not_not] at c539z
               refine W.skip ?_
               refine W.seq ?_
               refine W.block ?_
               refine W.region rfl ?_
               refine s_val (x_mv (v := v_l7) rfl) ?_
               refine s_val (x_mv (v := I (m2 : Int)) rfl) ?_
               refine s_val (x_mv (v := v_l7) rfl) ?_
               refine s_val (x_mv (v := I (m2 : Int)) rfl) ?_
               obtain ⟨sd540z, hM⟩ := M.e_grd hM
               simp only [Bool.and_eq_true, decide_eq_true_eq] at sd540z
               refine s_val (x_ix (a := v_l7) (b := I (m2 : Int)) (v := vat v_l7 1 (Int.toNat (m2 : Int))) rfl rfl (Sl.ix (α := Int) T27.und T27.size (ownSl (H.get (k := 1) rfl)) (by omega) (by omega))) ?_
               refine s_val (x_ld (p := vat v_l7 1 (Int.toNat (m2 : Int))) (v := I (l7.getD m2 0)) rfl (ld_sc Sc3 (At.mono (Int_at (ownSl (H.get (k := 1) rfl)) (i := (m2 : Int)) (by omega) (by omega)) (ownLe _ (H.get (k := 1) rfl))))) ?_
               refine s_val (x_min (kd := .i64) (a := l7.getD m2 0) (b := 2000) rfl rfl) ?_
               refine s_val (x_ix (a := v_l7) (b := I (m2 : Int)) (v := vat v_l7 1 (Int.toNat (m2 : Int))) rfl rfl (Sl.ix (α := Int) T27.und T27.size (ownSl (H.get (k := 1) rfl)) (by omega) (by omega))) ?_
               refine t_ost (k := 1) (i := (m2 : Int)) (l := l7) (l' := l7.set m2 (min (l7.getD m2 0) 2000 : Int)) (val := I (min (l7.getD m2 0) 2000)) (L' := [cBlk nb0_2 [v_tries, I q19, I q29] 101, cOwn (α := Int) 3 v_l7 (l7.set m2 (min (l7.getD m2 0) 2000 : Int)), cOwn (α := Int) 3 v_l4 l4, cOwn (α := Int) 3 u0_7 r02, cOwn (α := Int) 3 u0_6 r0, cOwn (α := Pk) 72 v_l l, cBlk nb0_1 [v_numbers, I s, I s2] 101]) H rfl Sz3 (by omega) (by omega) (min (l7.getD m2 0) 2000 : Int) rfl rfl rfl rfl rfl ?_
               intro w541z H
               refine s_nil ?_
               refine W.region rfl ?_
               refine s_val (x_mv (v := I (m2 : Int)) rfl) ?_
               refine s_val (x_ari (a := (m2 : Int)) (b := 1) (r := (m2 : Int) + 1) rfl rfl rfl (by omega)) ?_
               refine s_val (x_as (v := I ((m2 : Int) + 1)) rfl) ?_
               refine s_nil ?_
               exact ⟨m534z, lt535z, l7.set m2 (min (l7.getD m2 0) 2000 : Int), m2 + 1, v_l7, _, upds_of _ _ ⟨rfl, rfl, rfl, rfl, rfl, rfl, rfl, rfl, rfl, rfl, rfl, rfl, rfl, rfl, rfl, rfl, rfl, rfl, trivial⟩, M.e_inl hM hN537z, H⟩
              ·replace hM := M.e_f hM c539z
               simp only [decide_eq_true_eq, decide_eq_false_iff_not, beq_iff_eq, bne_iff_ne, beq_eq_false_iff_ne, bne_eq_false_iff_eq, ne_eq, Decidable.not_not] at c539z
               refine W.exit ?_
               have hX542z := M.e_inr hM hN537z
               subst hX542z
               replace hM := hk530z
               try dsimp only at hM
               refine W.seq ?_
               refine W.region rfl ?_
               refine s_val (x_mv (v := I r13) rfl) ?_
               refine s_val (x_mv (v := .pointer (some ⟨nb0_2, 0, none⟩)) rfl) ?_
               obtain ⟨r544z, hx543z, hM⟩ := M.e_bind hM
               refine s_call cf14 [.pointer (some ⟨nb0_2, 0, none⟩), I 9] rfl (nilometerkit_Stream_Next_ok tries q19 q29 9 (hC_tries.app _) hs_tries hx543z _ (St.give (T := [cOwn (α := Int) 3 v_l7 l7, cOwn (α := Int) 3 v_l4 l4, cOwn (α := Int) 3 u0_7 r02, cOwn (α := Int) 3 u0_6 r0, cOwn (α := Pk) 72 v_l l, cBlk nb0_1 [v_numbers, I s, I s2] 101]) H rfl)) ?_
               rintro vq w545z ⟨r24, q110, q210, hr546z, hvq, H2_⟩
               subst hr546z
               subst vq
               try dsimp only at hM
               replace H : St w w545z [cBlk nb0_2 [v_tries, I q110, I q210] 101, cOwn (α := Int) 3 v_l7 l7, cOwn (α := Int) 3 v_l4 l4, cOwn (α := Int) 3 u0_7 r02, cOwn (α := Int) 3 u0_6 r0, cOwn (α := Pk) 72 v_l l, cBlk nb0_1 [v_numbers, I s, I s2] 101] R := H.back H2_ rfl
               clear H2_
               obtain ⟨sd547z, hM⟩ := M.e_grd hM
               simp only [Bool.and_eq_true, decide_eq_true_eq] at sd547z
               refine s_val (x_ari (a := r13) (b := r24) (r := r13 - r24) rfl rfl rfl (by omega)) ?_
               refine s_val (x_as (v := I (r13 - r24)) rfl) ?_
               refine s_nil ?_
               refine W.seq ?_
               refine W.region rfl ?_
               refine s_val (x_mv (v := v_l) rfl) ?_
               refine s_val (x_mv (v := I (1 + r6)) rfl) ?_
               refine s_val (x_mv (v := I r7) rfl) ?_
               refine s_val (x_mv (v := I (r13 - r24)) rfl) ?_
               refine s_val (x_mv (v := v_l7) rfl) ?_
               obtain ⟨r549z, hx548z, hM⟩ := M.e_bind hM
               refine s_call cf41 [v_l, I (1 + r6), I r7, I (r13 - r24), v_l7] rfl (often_Proves_ok l (1 + r6) r7 (r13 - r24) l7 (Reads.of (k := 5) rfl ownLe) (ownSl (H.get (k := 5) rfl)) (Reads.of (k := 1) rfl ownLe) (ownSl (H.get (k := 1) rfl)) hx548z _ (St.give (T := [cBlk nb0_2 [v_tries, I q110, I q210] 101, cOwn (α := Int) 3 v_l7 l7, cOwn (α := Int) 3 v_l4 l4, cOwn (α := Int) 3 u0_7 r02, cOwn (α := Int) 3 u0_6 r0, cOwn (α := Pk) 72 v_l l, cBlk nb0_1 [v_numbers, I s, I s2] 101]) H rfl)) ?_
               rintro vq w550z ⟨r07, r110, hr551z, hvq, H2_⟩
               subst hr551z
               subst vq
               try dsimp only at hM
               replace H : St w w550z [cBlk nb0_2 [v_tries, I q110, I q210] 101, cOwn (α := Int) 3 v_l7 l7, cOwn (α := Int) 3 v_l4 l4, cOwn (α := Int) 3 u0_7 r02, cOwn (α := Int) 3 u0_6 r0, cOwn (α := Pk) 72 v_l l, cBlk nb0_1 [v_numbers, I s, I s2] 101] R := H.back H2_ rfl
               clear H2_
               refine s_val (x_mv (v := .tuple #[B r07, I r110]) rfl) ?_
               refine s_val (x_ext (vs := [B r07, I r110]) (v := B r07) rfl rfl) ?_
               refine s_val (x_ext (vs := [B r07, I r110]) (v := I r110) rfl rfl) ?_
               refine s_val (x_as (v := B r07) rfl) ?_
               refine s_val (x_as (v := I r110) rfl) ?_
               refine s_nil ?_
               refine W.seq ?_
               refine W.region rfl ?_
               refine s_val (x_mv (v := I r110) rfl) ?_
               refine s_val (x_cmp (kd := .i64) (a := r110) (b := 0) (r := r110 != 0) rfl rfl rfl) ?_
               refine s_val (x_mv (v := B (r110 != 0)) rfl) ?_
               refine g_val (!(r110 != 0)) (gy_f rfl) (fun hg => x_mv (v := B r07) rfl) ?_
               refine g_val (!(r110 != 0)) (gy_f rfl) (fun hg => x_mv (v := B r07) (gd_of (c := !(r110 != 0)) hg (B r07))) ?_
               refine g_val ((!(r110 != 0)) && r07) (gy_gt rfl rfl) (fun hg => x_mv (v := I (r13 - r24)) rfl) ?_
               refine g_val ((!(r110 != 0)) && r07) (gy_gt rfl rfl) (fun hg => x_mv (v := I r13) rfl) ?_
               refine g_val ((!(r110 != 0)) && r07) (gy_gt rfl rfl) (fun hg => x_cmp (kd := .i64) (a := r13 - r24) (b := r13) (r := decide ((r13 - r24) < r13)) (gd_of (c := ((!(r110 != 0)) && r07)) hg (I (r13 - r24))) (gd_of (c := ((!(r110 != 0)) && r07)) hg (I r13)) rfl) ?_
               refine g_val (!(r110 != 0)) (gy_f rfl) (fun hg => x_pand (b := r07) (r := decide ((r13 - r24) < r13)) (gd_of (c := !(r110 != 0)) hg (B r07)) (fun hb => gd_of (c := ((!(r110 != 0)) && r07)) (by first | exact hb | (rw [hb]; rfl) | simp_all) (B (decide ((r13 - r24) < r13)))) rfl) ?_
               refine s_val (x_por (b := r110 != 0) (r := (r07 && (decide ((r13 - r24) < r13)))) rfl rfl (fun hb => gd_of (c := !(r110 != 0)) (by first | exact hb | (rw [hb]; rfl) | simp_all) (B (r07 && (decide ((r13 - r24) < r13)))))) ?_
               refine s_nil ?_
               refine W.cond ((r110 != 0) || (r07 && (decide ((r13 - r24) < r13)))) rfl (fun c552z => ?_) (fun c552z => ?_)
               ·replace hM := M.e_t hM c552z
                refine W.seq ?_
                refine W.region rfl ?_
                refine s_val (x_as (v := B false) rfl) ?_
                refine s_nil ?_
                refine W.ret ?_
                have hX553z := M.e_inr hM hN83z
                subst hX553z
                replace hM := hk76z
                try dsimp only at hM
                have hr_ := M.e_pure hM
                exact ⟨_, resE_tmp rfl, ⟨false, hr_, rfl, (H.pick [] (by decide) rfl)⟩⟩
               ·replace hM := M.e_f hM c552z
                refine W.skip ?_
                refine W.region rfl ?_
                refine s_val (x_mv (v := I (k : Int)) rfl) ?_
                refine s_val (x_ari (a := (k : Int)) (b := 1) (r := (k : Int) + 1) rfl rfl rfl (by omega)) ?_
                refine s_val (x_as (v := I ((k : Int) + 1)) rfl) ?_
                refine s_nil ?_
                exact ⟨m80z, lt81z, q110, q210, k + 1, _, upds_of _ _ ⟨rfl, rfl, rfl, rfl, rfl, rfl, rfl, trivial⟩, M.e_inl hM hN83z, (H.pick [3, 4, 5, 6, 0] (by decide) rfl)⟩
      ·replace hM := M.e_f hM c84z
       simp only [decide_eq_true_eq, decide_eq_false_iff_not, beq_iff_eq, bne_iff_ne, beq_eq_false_iff_ne, bne_eq_false_iff_eq, ne_eq, Decidable.not_not] at c84z
       refine W.exit ?_
       have hX554z := M.e_inr hM hN83z
       subst hX554z
       replace hM := hk76z
       try dsimp only at hM
       refine W.seq ?_
       refine W.region rfl ?_
       refine s_val (x_mv (v := v_l) rfl) ?_
       refine s_val (x_mv (v := I (1 + r6)) rfl) ?_
       refine s_val (x_mv (v := .pointer (some ⟨nb0_2, 0, none⟩)) rfl) ?_
       obtain ⟨r556z, hx555z, hM⟩ := M.e_bind hM
       refine s_call cf14 [.pointer (some ⟨nb0_2, 0, none⟩), I 9] rfl (nilometerkit_Stream_Next_ok tries s9 s10 9 (hC_tries.app _) hs_tries hx555z _ (St.give (L := [cBlk nb0_2 [v_tries, I s9, I s10] 101, cOwn (α := Int) 3 u0_7 r02, cOwn (α := Int) 3 u0_6 r0, cOwn (α := Pk) 72 v_l l, cBlk nb0_1 [v_numbers, I s, I s2] 101]) (A := [cBlk nb0_2 [v_tries, I s9, I s10] 101]) (T := [cOwn (α := Int) 3 u0_7 r02, cOwn (α := Int) 3 u0_6 r0, cOwn (α := Pk) 72 v_l l, cBlk nb0_1 [v_numbers, I s, I s2] 101]) (H.pick [4, 0, 1, 2, 3] (by decide) rfl) rfl)) ?_
       rintro vq w557z ⟨r25, q111, q211, hr558z, hvq, H2_⟩
       subst hr558z
       subst vq
       try dsimp only at hM
       replace H : St w w557z [cBlk nb0_2 [v_tries, I q111, I q211] 101, cOwn (α := Int) 3 u0_7 r02, cOwn (α := Int) 3 u0_6 r0, cOwn (α := Pk) 72 v_l l, cBlk nb0_1 [v_numbers, I s, I s2] 101] R := H.pick [4, 0, 1, 2, 3] (by decide) rfl |>.back H2_ rfl
       clear H2_
       obtain ⟨sd559z, hM⟩ := M.e_grd hM
       simp only [Bool.and_eq_true, decide_eq_true_eq] at sd559z
       refine s_val (x_ari (a := 1 + r6) (b := r25) (r := (1 + r6) + r25) rfl rfl rfl (by omega)) ?_
       refine s_val (x_min (kd := .i64) (a := 60) (b := (1 + r6) + r25) rfl rfl) ?_
       refine s_val (x_mv (v := I r7) rfl) ?_
       obtain ⟨r561z, hx560z, hM⟩ := M.e_bind hM
       refine s_call cf37 [v_l, I (min 60 ((1 + r6) + r25)), I r7] rfl (often_Pick_ok l (min 60 ((1 + r6) + r25)) r7 (Reads.of (k := 3) rfl ownLe) (ownSl (H.get (k := 3) rfl)) hx560z _ (St.give (T := [cBlk nb0_2 [v_tries, I q111, I q211] 101, cOwn (α := Int) 3 u0_7 r02, cOwn (α := Int) 3 u0_6 r0, cOwn (α := Pk) 72 v_l l, cBlk nb0_1 [v_numbers, I s, I s2] 101]) H rfl)) ?_
       rintro vq w562z ⟨r08, r111, r26, u0_12, hr563z, hvq, H2_⟩
       subst hr563z
       subst vq
       try dsimp only at hM
       replace H : St w w562z [cOwn (α := Int) 3 u0_12 r08, cBlk nb0_2 [v_tries, I q111, I q211] 101, cOwn (α := Int) 3 u0_7 r02, cOwn (α := Int) 3 u0_6 r0, cOwn (α := Pk) 72 v_l l, cBlk nb0_1 [v_numbers, I s, I s2] 101] R := H.back H2_ rfl
       clear H2_
       refine s_val (x_mv (v := .tuple #[u0_12, I r111, I r26]) rfl) ?_
       refine s_val (x_ext (vs := [u0_12, I r111, I r26]) (v := u0_12) rfl rfl) ?_
       refine s_val (x_ext (vs := [u0_12, I r111, I r26]) (v := I r111) rfl rfl) ?_
       refine s_val (x_ext (vs := [u0_12, I r111, I r26]) (v := I r26) rfl rfl) ?_
       refine s_val (x_as (v := u0_12) rfl) ?_
       refine s_val (x_as (v := I r111) rfl) ?_
       refine s_val (x_as (v := I r26) rfl) ?_
       refine s_nil ?_
       refine W.seq ?_
       refine W.region rfl ?_
       refine s_val (x_mv (v := v_l) rfl) ?_
       refine s_val (x_mv (v := I (1 + r6)) rfl) ?_
       refine s_val (x_mv (v := I r7) rfl) ?_
       refine s_val (x_mv (v := .pointer (some ⟨nb0_2, 0, none⟩)) rfl) ?_
       obtain ⟨r565z, hx564z, hM⟩ := M.e_bind hM
       refine s_call cf14 [.pointer (some ⟨nb0_2, 0, none⟩), I 50] rfl (nilometerkit_Stream_Next_ok tries q111 q211 50 (hC_tries.app _) hs_tries hx564z _ (St.give (L := [cBlk nb0_2 [v_tries, I q111, I q211] 101, cOwn (α := Int) 3 u0_12 r08, cOwn (α := Int) 3 u0_7 r02, cOwn (α := Int) 3 u0_6 r0, cOwn (α := Pk) 72 v_l l, cBlk nb0_1 [v_numbers, I s, I s2] 101]) (A := [cBlk nb0_2 [v_tries, I q111, I q211] 101]) (T := [cOwn (α := Int) 3 u0_12 r08, cOwn (α := Int) 3 u0_7 r02, cOwn (α := Int) 3 u0_6 r0, cOwn (α := Pk) 72 v_l l, cBlk nb0_1 [v_numbers, I s, I s2] 101]) (H.pick [1, 0, 2, 3, 4, 5] (by decide) rfl) rfl)) ?_
       rintro vq w566z ⟨r27, q112, q212, hr567z, hvq, H2_⟩
       subst hr567z
       subst vq
       try dsimp only at hM
       replace H : St w w566z [cBlk nb0_2 [v_tries, I q112, I q212] 101, cOwn (α := Int) 3 u0_12 r08, cOwn (α := Int) 3 u0_7 r02, cOwn (α := Int) 3 u0_6 r0, cOwn (α := Pk) 72 v_l l, cBlk nb0_1 [v_numbers, I s, I s2] 101] R := H.pick [1, 0, 2, 3, 4, 5] (by decide) rfl |>.back H2_ rfl
       clear H2_
       obtain ⟨sd568z, hM⟩ := M.e_grd hM
       simp only [Bool.and_eq_true, decide_eq_true_eq] at sd568z
       refine s_val (x_ari (a := r7) (b := r27) (r := r7 + r27) rfl rfl rfl (by omega)) ?_
       obtain ⟨r570z, hx569z, hM⟩ := M.e_bind hM
       refine s_call cf37 [v_l, I (1 + r6), I (r7 + r27)] rfl (often_Pick_ok l (1 + r6) (r7 + r27) (Reads.of (k := 4) rfl ownLe) (ownSl (H.get (k := 4) rfl)) hx569z _ (St.give (T := [cBlk nb0_2 [v_tries, I q112, I q212] 101, cOwn (α := Int) 3 u0_12 r08, cOwn (α := Int) 3 u0_7 r02, cOwn (α := Int) 3 u0_6 r0, cOwn (α := Pk) 72 v_l l, cBlk nb0_1 [v_numbers, I s, I s2] 101]) H rfl)) ?_
       rintro vq w571z ⟨r09, r112, r28, u0_13, hr572z, hvq, H2_⟩
       subst hr572z
       subst vq
       try dsimp only at hM
       replace H : St w w571z [cOwn (α := Int) 3 u0_13 r09, cBlk nb0_2 [v_tries, I q112, I q212] 101, cOwn (α := Int) 3 u0_12 r08, cOwn (α := Int) 3 u0_7 r02, cOwn (α := Int) 3 u0_6 r0, cOwn (α := Pk) 72 v_l l, cBlk nb0_1 [v_numbers, I s, I s2] 101] R := H.back H2_ rfl
       clear H2_
       refine s_val (x_mv (v := .tuple #[u0_13, I r112, I r28]) rfl) ?_
       refine s_val (x_ext (vs := [u0_13, I r112, I r28]) (v := u0_13) rfl rfl) ?_
       refine s_val (x_ext (vs := [u0_13, I r112, I r28]) (v := I r112) rfl rfl) ?_
       refine s_val (x_ext (vs := [u0_13, I r112, I r28]) (v := I r28) rfl rfl) ?_
       refine s_val (x_as (v := u0_13) rfl) ?_
       refine s_val (x_as (v := I r112) rfl) ?_
       refine s_val (x_as (v := I r28) rfl) ?_
       refine s_nil ?_
       refine W.seq ?_
       refine W.region rfl ?_
       refine s_val (x_mv (v := I r26) rfl) ?_
       refine s_val (x_cmp (kd := .i64) (a := r26) (b := 0) (r := r26 == 0) rfl rfl rfl) ?_
       refine s_val (x_mv (v := B (r26 == 0)) rfl) ?_
       refine g_val (r26 == 0) (gy_t rfl) (fun hg => x_mv (v := I r28) rfl) ?_
       refine g_val (r26 == 0) (gy_t rfl) (fun hg => x_cmp (kd := .i64) (a := r28) (b := 0) (r := r28 == 0) (gd_of (c := r26 == 0) hg (I r28)) rfl rfl) ?_
       refine s_val (x_pand (b := r26 == 0) (r := r28 == 0) rfl (fun hb => gd_of (c := r26 == 0) (by first | exact hb | (rw [hb]; rfl) | simp_all) (B (r28 == 0))) rfl) ?_
       refine s_val (x_mv (v := B ((r26 == 0) && (r28 == 0))) rfl) ?_
       refine g_val ((r26 == 0) && (r28 == 0)) (gy_t rfl) (fun hg => x_mv (v := I r111) rfl) ?_
       refine g_val ((r26 == 0) && (r28 == 0)) (gy_t rfl) (fun hg => x_mv (v := I r13) rfl) ?_
       refine g_val ((r26 == 0) && (r28 == 0)) (gy_t rfl) (fun hg => x_cmp (kd := .i64) (a := r111) (b := r13) (r := decide (r111 <= r13)) (gd_of (c := ((r26 == 0) && (r28 == 0))) hg (I r111)) (gd_of (c := ((r26 == 0) && (r28 == 0))) hg (I r13)) rfl) ?_
       refine s_val (x_pand (b := ((r26 == 0) && (r28 == 0))) (r := decide (r111 <= r13)) rfl (fun hb => gd_of (c := ((r26 == 0) && (r28 == 0))) (by first | exact hb | (rw [hb]; rfl) | simp_all) (B (decide (r111 <= r13)))) rfl) ?_
       refine s_val (x_mv (v := B (((r26 == 0) && (r28 == 0)) && (decide (r111 <= r13)))) rfl) ?_
       refine g_val (((r26 == 0) && (r28 == 0)) && (decide (r111 <= r13))) (gy_t rfl) (fun hg => x_mv (v := I r112) rfl) ?_
       refine g_val (((r26 == 0) && (r28 == 0)) && (decide (r111 <= r13))) (gy_t rfl) (fun hg => x_mv (v := I r13) rfl) ?_
       refine g_val (((r26 == 0) && (r28 == 0)) && (decide (r111 <= r13))) (gy_t rfl) (fun hg => x_cmp (kd := .i64) (a := r112) (b := r13) (r := decide (r112 <= r13)) (gd_of (c := (((r26 == 0) && (r28 == 0)) && (decide (r111 <= r13)))) hg (I r112)) (gd_of (c := (((r26 == 0) && (r28 == 0)) && (decide (r111 <= r13)))) hg (I r13)) rfl) ?_
       refine s_val (x_pand (b := (((r26 == 0) && (r28 == 0)) && (decide (r111 <= r13)))) (r := decide (r112 <= r13)) rfl (fun hb => gd_of (c := (((r26 == 0) && (r28 == 0)) && (decide (r111 <= r13)))) (by first | exact hb | (rw [hb]; rfl) | simp_all) (B (decide (r112 <= r13)))) rfl) ?_
       refine s_val (x_mv (v := B ((((r26 == 0) && (r28 == 0)) && (decide (r111 <= r13))) && (decide (r112 <= r13)))) rfl) ?_
       obtain ⟨r29, hx573z, hM⟩ := M.e_bind hM
       refine t_gcall ((((r26 == 0) && (r28 == 0)) && (decide (r111 <= r13))) && (decide (r112 <= r13))) (gy_t rfl) cf18 (B r29) (fun _ => []) (fun _ => rfl) H (fun hg => (nilometerlaw10_awake_ok (M.e_opt hx573z hg) _ (H.give (A := []) rfl)).mono fun v_ w_ ⟨y_, hr_, hv_, H_⟩ => by subst hr_; exact ⟨hv_, H.via H_⟩) ?_
       intro w574z H
       refine s_val (x_pand (b := ((((r26 == 0) && (r28 == 0)) && (decide (r111 <= r13))) && (decide (r112 <= r13)))) (r := r29) rfl (fun hb => gd_of (c := ((((r26 == 0) && (r28 == 0)) && (decide (r111 <= r13))) && (decide (r112 <= r13)))) (by first | exact hb | (rw [hb]; rfl) | simp_all) (B r29)) rfl) ?_
       refine s_val (x_as (v := B (((((r26 == 0) && (r28 == 0)) && (decide (r111 <= r13))) && (decide (r112 <= r13))) && r29)) rfl) ?_
       refine s_nil ?_
       refine W.ret ?_
       have hr_ := M.e_pure hM
       exact ⟨_, resE_tmp rfl, ⟨(((((r26 == 0) && (r28 == 0)) && (decide (r111 <= r13))) && (decide (r112 <= r13))) && r29), hr_, rfl, (H.pick [] (by decide) rfl)⟩⟩

end Go.Proofs.Ytcgalcbkkijkhaa
namespace Go.Nm
namespace M
variable {α β σ ρ : Type}
def Out (m : M α) (Q : α -> Prop) : Prop := ∃ r, m.Ends r /\ Q r
theorem o_of {m : M α} {a : α} {Q : α -> Prop} (h : m.Ends a) (q : Q a) : m.Out Q := ⟨a, h, q⟩
theorem o_pure {a : α} {Q : α -> Prop} (h : Q a) : (pure a).Out Q := ⟨a, i_pure, h⟩
theorem o_mono {m : M α} {P Q : α -> Prop} (h : m.Out P) (k : ∀ a, P a -> Q a) : m.Out Q := by
  obtain ⟨a, h1, h2⟩ := h
  exact ⟨a, h1, k a h2⟩
theorem o_bind {m : M α} {k : α -> M β} {P : α -> Prop} {Q : β -> Prop} (h : m.Out P) (h' : ∀ a, P a -> (k a).Out Q) : (bind m k).Out Q := by
  obtain ⟨a, h1, h2⟩ := h
  obtain ⟨b, h3, h4⟩ := h' a h2
  exact ⟨b, i_bind h1 h3, h4⟩
theorem o_bindE {m : M α} {k : α -> M β} {a : α} {Q : β -> Prop} (h : m.Ends a) (h' : (k a).Out Q) : (bind m k).Out Q := o_bind (o_of (Q := fun x => x = a) h rfl) (fun _ e => by subst e; exact h')
theorem o_grd {b : Bool} {k : M α} {Q : α -> Prop} (hb : b = true) (h : k.Out Q) : (grd b k).Out Q := by subst hb; exact h
theorem o_grdD {p : Prop} [Decidable p] {k : M α} {Q : α -> Prop} (hp : p) (h : k.Out Q) : (grd (decide p) k).Out Q := o_grd (decide_eq_true hp) h
theorem o_if {b : Bool} {x y : M α} {Q : α -> Prop} (h : b = true -> x.Out Q) (h' : b = false -> y.Out Q) : (bif b then x else y).Out Q := by
  cases b with
  | true => exact h rfl
  | false => exact h' rfl
theorem o_t {b : Bool} {x y : M α} {Q : α -> Prop} (hb : b = true) (h : x.Out Q) : (bif b then x else y).Out Q := by subst hb; exact h
theorem o_f {b : Bool} {x y : M α} {Q : α -> Prop} (hb : b = false) (h : y.Out Q) : (bif b then x else y).Out Q := by subst hb; exact h
/-- What a round leaves. -/
def Rd (J : Nat -> σ -> Prop) (Q : ρ -> Prop) (m : Nat) : σ ⊕ ρ -> Prop
  | .inl s => ∃ m', m' < m /\ J m' s
  | .inr r => Q r
theorem o_iter {body : σ -> M (σ ⊕ ρ)} {Q : ρ -> Prop} (J : Nat -> σ -> Prop) (round : ∀ m s, J m s -> (body s).Out (Rd J Q m)) : ∀ (m : Nat) (s : σ), J m s -> (iter body s).Out Q := by
  intro m
  induction m using Nat.strongRecOn with
  | _ m ih =>
    intro s hs
    obtain ⟨x, h1, h2⟩ := round m s hs
    cases x with
    | inl s' =>
      obtain ⟨m', hlt, hj⟩ := h2
      obtain ⟨r, h3, h4⟩ := ih m' hlt s' hj
      exact ⟨r, i_next h1 h3, h4⟩
    | inr r => exact ⟨r, i_stop h1, h2⟩
/-- A loop that counts from 0 to n. -/
theorem o_for {body : σ -> M (σ ⊕ ρ)} {Q : ρ -> Prop} (n : Nat) (J : Nat -> σ -> Prop) (round : ∀ i s, i < n -> J i s -> (body s).Out (fun x => match x with | .inl s' => J (i + 1) s' | .inr r => Q r))
    (last : ∀ s, J n s -> (body s).Out (fun x => match x with | .inl _ => False | .inr r => Q r)) {s : σ} (h : J 0 s) : (iter body s).Out Q := by
  refine o_iter (fun m s => ∃ i, i <= n /\ m = n - i /\ J i s) ?_ n s ⟨0, Nat.zero_le _, rfl, h⟩
  rintro m s ⟨i, hi, rfl, hj⟩
  by_cases e : i < n
  · refine o_mono (round i s e hj) ?_
    intro x hx
    cases x with
    | inl s' => exact ⟨n - (i + 1), by omega, i + 1, e, rfl, hx⟩
    | inr r => exact hx
  · obtain rfl : i = n := by omega
    refine o_mono (last s hj) ?_
    intro x hx
    cases x with
    | inl s' => exact hx.elim
    | inr r => exact hx
end M
theorem M.i_f {α : Type} {b : Bool} {x y : M α} {r : α} (hb : b = false) (h : y.Ends r) : (bif b then x else y).Ends r := by subst hb; exact h
theorem M.i_t {α : Type} {b : Bool} {x y : M α} {r : α} (hb : b = true) (h : x.Ends r) : (bif b then x else y).Ends r := by subst hb; exact h
theorem take_succ_D {α : Type} (l : List α) (i : Nat) (h : i < l.length) (d : α) : l.take i ++ [l.getD i d] = l.take (i + 1) := by
  rw [List.take_succ_eq_append_getElem h]
  simp [List.getD, h]
theorem gset {α : Type} (l : List α) (i j : Nat) (x d : α) (h : i < l.length) : (l.set i x).getD j d = if j = i then x else l.getD j d := by
  simp only [List.getD_eq_getElem?_getD, List.getElem?_set]
  by_cases e : i = j
  · subst e; simp [h]
  · rw [if_neg e, if_neg (fun h => e h.symm)]
theorem getD_el {α : Type} (l : List α) {k : Nat} (h : k < l.length) (d : α) : l.getD k d = l[k] := by rw [List.getD_eq_getElem?_getD, List.getElem?_eq_getElem h, Option.getD_some]
theorem gA2 {p q : Prop} [Decidable p] [Decidable q] (hp : p) (hq : q) : (decide p && decide q) = true := by rw [decide_eq_true hp, decide_eq_true hq]; rfl
theorem gA3 {p q r : Prop} [Decidable p] [Decidable q] [Decidable r] (hp : p) (hq : q) (hr : r) : (decide p && decide q && decide r) = true := by rw [decide_eq_true hp, decide_eq_true hq, decide_eq_true hr]; rfl
theorem mem_getD {α : Type} {l : List α} {x : α} (h : x ∈ l) (d : α) : ∃ i, i < l.length /\ l.getD i d = x := by
  obtain ⟨i, hi, e⟩ := List.getElem_of_mem h
  exact ⟨i, hi, by rw [getD_el l hi d]; exact e⟩
end Go.Nm
namespace Go.Nm
structure SOk (c u x : Int) : Prop where
  u0 : 0 <= u
  u1 : u <= c
  x0 : 0 <= x
  x1 : x < 251
theorem SOk.mono {c d u x : Int} (h : SOk c u x) (hd : c <= d) : SOk d u x := ⟨h.u0, Int.le_trans h.u1 hd, h.x0, h.x1⟩
/-- What a stream gives: a number below n. -/
structure Nx (c n : Int) (y : Int × Int × Int) : Prop where
  ok : SOk c y.2.1 y.2.2
  lt : 1 <= n -> 0 <= y.1 /\ y.1 < n
  no : n < 1 -> y.1 = 0
end Go.Nm
namespace Go.Proofs.Ytcgalcbkkijkhaa
open Go Go.Nm
theorem next_out {b : List UInt8} {c u x n : Int} (h : SOk c u x) (hc : c <= 1000000000000) (hn : n <= 1000000) : (m_nilometerkit_Stream_Next b u x n).Out (Nx (c + 1) n) := by
  obtain ⟨u0, u1, x0, x1⟩ := h
  unfold m_nilometerkit_Stream_Next
  refine M.o_if (fun hb => ?_) (fun hb => ?_)
  · simp only [Bool.or_eq_true, decide_eq_true_eq, beq_iff_eq] at hb
    refine M.o_pure ⟨⟨u0, by dsimp only; omega, x0, x1⟩, fun h1 => ⟨Int.le_refl _, ?_⟩, fun _ => rfl⟩
    dsimp only
    omega
  · simp only [Bool.or_eq_false_iff, decide_eq_false_iff_not, beq_eq_false_iff_ne, ne_eq] at hb
    have hl : (0 : Int) < (b.length : Int) := by omega
    have m0 := Int.emod_nonneg u (show (b.length : Int) ≠ 0 by omega)
    have m1 := Int.emod_lt_of_pos u hl
    have d0 := Int.ediv_nonneg u0 (show (0 : Int) <= (b.length : Int) by omega)
    have d1 : u / (b.length : Int) <= u := Int.ediv_le_self _ u0
    have y1 : ((b.getD (Int.toNat (u % (b.length : Int))) 0).toNat : Int) < 256 := by
      have := UInt8.toNat_lt (b.getD (Int.toNat (u % (b.length : Int))) 0)
      omega
    have y0 : (0 : Int) <= ((b.getD (Int.toNat (u % (b.length : Int))) 0).toNat : Int) := Int.natCast_nonneg _
    generalize ((b.getD (Int.toNat (u % (b.length : Int))) 0).toNat : Int) = y at *
    generalize u % (b.length : Int) = m at *
    generalize u / (b.length : Int) = d at *
    have hn0 : 0 < n := by omega
    have fin : ∀ z : Int, 0 <= z -> 0 <= z % n /\ z % n < n := fun z hz => ⟨Int.emod_nonneg _ (by omega), Int.emod_lt_of_pos _ hn0⟩
    have pr : ∀ z w : Int, 0 <= z -> Nx (c + 1) n (z % n, u + 1, w % 251) := fun z w hz => ⟨⟨by dsimp only; omega, by dsimp only; omega, by dsimp only; omega, by dsimp only; omega⟩, fun _ => fin z hz, fun h => by omega⟩
    refine M.o_grd (by simp only [Bool.and_eq_true, decide_eq_true_eq]; omega) (M.o_grd (by simp only [Bool.and_eq_true, decide_eq_true_eq]; omega) (M.o_grd (by simp only [Bool.and_eq_true, decide_eq_true_eq]; omega) ?_))
    refine M.o_if (fun h1 => ?_) (fun h1 => ?_)
    · refine M.o_grd (by simp only [Bool.and_eq_true, decide_eq_true_eq]; omega) (M.o_grd (by simp only [Bool.and_eq_true, decide_eq_true_eq]; omega) (M.o_grd (by simp only [Bool.and_eq_true, decide_eq_true_eq]; omega) (M.o_grd (by simp only [Bool.and_eq_true, decide_eq_true_eq]; omega) (M.o_grd (by simp only [Bool.and_eq_true, decide_eq_true_eq]; omega) ?_))))
      refine M.o_grd (by simp only [Bool.and_eq_true, decide_eq_true_eq]; omega) (M.o_grd (by simp only [Bool.and_eq_true, decide_eq_true_eq]; omega) (M.o_grd (by simp only [Bool.and_eq_true, decide_eq_true_eq]; omega) (M.o_grd (by simp only [Bool.and_eq_true, decide_eq_true_eq]; omega) ?_)))
      refine M.o_if (fun h2 => ?_) (fun h2 => ?_)
      · refine M.o_grd (by simp only [Bool.and_eq_true, decide_eq_true_eq]; omega) (M.o_grd (by simp only [Bool.and_eq_true, decide_eq_true_eq]; omega) (M.o_grd (by simp only [Bool.and_eq_true, decide_eq_true_eq]; omega) (M.o_pure (pr _ _ (by omega)))))
      · refine M.o_grd (by simp only [Bool.and_eq_true, decide_eq_true_eq]; omega) (M.o_pure (pr _ _ (by omega)))
    · refine M.o_grd (by simp only [Bool.and_eq_true, decide_eq_true_eq]; omega) (M.o_grd (by simp only [Bool.and_eq_true, decide_eq_true_eq]; omega) (M.o_grd (by simp only [Bool.and_eq_true, decide_eq_true_eq]; omega) (M.o_grd (by simp only [Bool.and_eq_true, decide_eq_true_eq]; omega) (M.o_grd (by simp only [Bool.and_eq_true, decide_eq_true_eq]; omega) ?_))))
      refine M.o_if (fun h2 => ?_) (fun h2 => ?_)
      · refine M.o_grd (by simp only [Bool.and_eq_true, decide_eq_true_eq]; omega) (M.o_grd (by simp only [Bool.and_eq_true, decide_eq_true_eq]; omega) (M.o_grd (by simp only [Bool.and_eq_true, decide_eq_true_eq]; omega) (M.o_pure (pr _ _ (by omega)))))
      · refine M.o_grd (by simp only [Bool.and_eq_true, decide_eq_true_eq]; omega) (M.o_pure (pr _ _ (by omega)))
theorem within_out {b : List UInt8} {c u x lo hi : Int} (h : SOk c u x) (hc : c <= 1000000000000) (h0 : -1000 <= lo) (h1 : lo <= hi) (h2 : hi <= 10000) : (m_nilometerkit_Stream_Within b u x lo hi).Out (fun y => SOk (c + 1) y.2.1 y.2.2 /\ lo <= y.1 /\ y.1 <= hi) := by
  unfold m_nilometerkit_Stream_Within
  refine M.o_grd (gA2 (by omega) (by omega)) (M.o_grd (gA2 (by omega) (by omega)) (M.o_bind (next_out h hc (by omega)) ?_))
  rintro ⟨r, u', x'⟩ ⟨k, hl, _⟩
  have := hl (by omega)
  dsimp only at this k ⊢
  exact M.o_grd (gA2 (by omega) (by omega)) (M.o_pure ⟨k, by dsimp only; omega, by dsimp only; omega⟩)
end Go.Proofs.Ytcgalcbkkijkhaa
namespace Go.Nm
namespace Pk
/-- The first peak behind the flood of each one, and how many floods are over when a peak comes. -/
structure Fl (n : Nat) (nx kk : Nat -> Nat) : Prop where
  lt : ∀ i, i < n -> i < nx i
  le : ∀ i, i < n -> nx i <= n
  kle : ∀ m, kk m <= m
  iff : ∀ i m, i < n -> m <= n -> (i < kk m ↔ nx i <= m)
namespace Fl
variable {n : Nat} {nx kk : Nat -> Nat}
theorem kmono (F : Fl n nx kk) {a b : Nat} (h : a <= b) (hb : b <= n) : kk a <= kk b := by
  rcases Nat.lt_or_ge (kk b) (kk a) with hlt | hge
  · have h1 := F.kle a
    have h2 := (F.iff (kk b) a (by omega) (by omega)).1 hlt
    have h3 := (F.iff (kk b) b (by omega) (by omega)).2 (by omega)
    omega
  · exact hge
end Fl
/-- The greatest worth of the peaks ahead of one. -/
structure IsS (n : Nat) (v : Nat -> Int) (kk : Nat -> Nat) (S : Nat -> Int) : Prop where
  z : S 0 = 0
  s : ∀ i, i < n -> S (i + 1) = max (S i) (S (kk i) + v i)
/-- The greatest worth from a peak on. -/
structure IsB (n : Nat) (v : Nat -> Int) (nx : Nat -> Nat) (B : Nat -> Int) : Prop where
  z : B n = 0
  s : ∀ i, i < n -> B i = max (max 0 (B (i + 1))) (v i + B (nx i))
variable {n : Nat} {nx kk : Nat -> Nat} {v S B : Nat -> Int}
theorem IsS.mono (h : IsS n v kk S) : ∀ {a b : Nat}, a <= b -> b <= n -> S a <= S b := by
  intro a b hab
  induction hab with
  | refl => intro _; exact Int.le_refl _
  | @step m k ih =>
    intro hb
    have := ih (by omega)
    have e := h.s m (by omega)
    rw [Nat.succ_eq_add_one]
    omega
theorem IsB.anti (h : IsB n v nx B) : ∀ {a b : Nat}, a <= b -> b <= n -> B b <= B a := by
  intro a b hab
  induction hab with
  | refl => intro _; exact Int.le_refl _
  | @step m k ih =>
    intro hb
    have := ih (by omega)
    have e := h.s m (by omega)
    rw [Nat.succ_eq_add_one]
    omega
theorem IsB.pos (h : IsB n v nx B) {i : Nat} (hi : i <= n) : 0 <= B i := by
  have := h.anti hi (Nat.le_refl _)
  rw [h.z] at this
  exact this
theorem fwd (F : Fl n nx kk) (hS : IsS n v kk S) (hB : IsB n v nx B) : ∀ i, i <= n -> ∀ m, m <= n -> (∀ j, j < i -> nx j <= m) -> (i = 0 -> True) -> S i + B m <= B 0 := by
  intro i
  induction i using Nat.strongRecOn with
  | _ i ih =>
    intro hi m hm hj _
    cases i with
    | zero =>
      rw [hS.z]
      have := hB.anti (Nat.zero_le m) hm
      omega
    | succ i =>
      have e := hS.s i (by omega)
      have k1 := ih i (by omega) (by omega) m hm (fun j hj' => hj j (by omega)) (fun _ => trivial)
      have h1 := hj i (by omega)
      have b1 := hB.s i (by omega)
      have a1 := hB.anti h1 hm
      have kl := F.kle i
      have k2 := ih (kk i) (by omega) (by omega) i (by omega) (fun j hj' => (F.iff j i (by omega) (by omega)).1 hj') (fun _ => trivial)
      omega
theorem bwd (F : Fl n nx kk) (hS : IsS n v kk S) (hB : IsB n v nx B) : ∀ d i, i + d = n -> B i + S (kk i) <= S n := by
  intro d
  induction d using Nat.strongRecOn with
  | _ d ih =>
    intro i hi
    cases d with
    | zero =>
      obtain rfl : i = n := by omega
      rw [hB.z]
      have := hS.mono (F.kle i) (Nat.le_refl _)
      omega
    | succ d =>
      have e := hB.s i (by omega)
      have k1 := ih d (by omega) (i + 1) (by omega)
      have m1 := hS.mono (F.kmono (Nat.le_succ i) (by omega)) (Nat.le_trans (F.kle (i + 1)) (by omega))
      have l1 := F.lt i (by omega)
      have l2 := F.le i (by omega)
      have k2 := ih (n - nx i) (by omega) (nx i) (by omega)
      have q := (F.iff i (nx i) (by omega) l2).2 (Nat.le_refl _)
      have m2 := hS.mono q (Nat.le_trans (F.kle (nx i)) l2)
      have s1 := hS.s i (by omega)
      have m3 := hS.mono (Nat.le_trans (F.kle i) (show i <= n by omega)) (Nat.le_refl n)
      rw [Nat.succ_eq_add_one] at *
      omega
/-- Reckoned from either end it is the same. -/
theorem both (F : Fl n nx kk) (hS : IsS n v kk S) (hB : IsB n v nx B) : B 0 = S n := by
  have h1 := fwd F hS hB n (Nat.le_refl _) n (Nat.le_refl _) (fun j hj => F.le j hj) (fun _ => trivial)
  have h2 := bwd F hS hB n 0 (by omega)
  have h3 : kk 0 = 0 := by have := F.kle 0; omega
  rw [h3, hS.z] at h2
  rw [hB.z] at h1
  omega
/-- The sum of a function's values from a to b. -/
def sm (d : Nat -> Int) (a : Nat) : Nat -> Int
  | 0 => 0
  | k + 1 => sm d a k + d (a + k)
theorem sm_add (d : Nat -> Int) (a j k : Nat) : sm d a (j + k) = sm d a j + sm d (a + j) k := by
  induction k with
  | zero => simp [sm]
  | succ k ih => rw [← Nat.add_assoc]; simp only [sm]; rw [ih, Nat.add_assoc]; omega
theorem sm_nn {d : Nat -> Int} {a k : Nat} (h : ∀ i, a <= i -> i < a + k -> 0 <= d i) : 0 <= sm d a k := by
  induction k with
  | zero => exact Int.le_refl _
  | succ k ih =>
    have := ih (fun i h1 h2 => h i h1 (by omega))
    have := h (a + k) (by omega) (by omega)
    simp only [sm]; omega
end Pk
end Go.Nm
namespace Go.Nm
namespace Pk
def dayAt (l : List Pk) (i : Nat) : Int := (l.getD i default).day
def stAt (l : List Pk) (i : Nat) : Int := (l.getD i default).stage
/-- Days that rise. -/
def Up (l : List Pk) : Prop := ∀ i j, i < j -> j < l.length -> dayAt l i < dayAt l j
theorem Up.le {l : List Pk} (h : Up l) {i j : Nat} (hij : i <= j) (hj : j < l.length) : dayAt l i <= dayAt l j := by
  rcases Nat.lt_or_eq_of_le hij with e | e
  · have := h i j e hj
    omega
  · subst e; exact Int.le_refl _
theorem tw_lt {l : List Pk} {p : Pk -> Bool} : ∀ {j : Nat}, j < (l.takeWhile p).length ↔ j < l.length /\ ∀ k, k <= j -> p (l.getD k default) = true := by
  induction l with
  | nil => intro j; simp
  | cons a l ih =>
    intro j
    rw [List.takeWhile_cons]
    by_cases e : p a = true
    · rw [if_pos e]
      cases j with
      | zero => simp [e]
      | succ j =>
        simp only [List.length_cons, Nat.succ_lt_succ_iff, ih]
        refine and_congr_right fun _ => ⟨fun h k hk => ?_, fun h k hk => ?_⟩
        · cases k with
          | zero => simpa using e
          | succ k => simpa using h k (by omega)
        · simpa using h (k + 1) (by omega)
    · rw [if_neg e]
      simp only [List.length_nil, Nat.not_lt_zero, false_iff]
      intro h
      exact e (by simpa using h.2 0 (Nat.zero_le _))
theorem tw_le (l : List Pk) (p : Pk -> Bool) : (l.takeWhile p).length <= l.length := by
  induction l with
  | nil => simp
  | cons a l ih =>
    rw [List.takeWhile_cons]
    split
    · simpa using ih
    · simp
/-- The first peak whose day is not ahead of a day. -/
def fst (l : List Pk) (t : Int) : Nat := (l.takeWhile fun p => decide (p.day < t)).length
theorem fst_le (l : List Pk) (t : Int) : fst l t <= l.length := tw_le l _
theorem fst_lt {l : List Pk} (h : Up l) {t : Int} {j : Nat} (hj : j < l.length) : j < fst l t ↔ dayAt l j < t := by
  unfold fst
  rw [tw_lt]
  constructor
  · rintro ⟨_, k⟩
    simpa [dayAt] using k j (Nat.le_refl _)
  · intro e
    refine ⟨hj, fun k hk => ?_⟩
    have := h.le hk hj
    show decide (dayAt l k < t) = true
    exact decide_eq_true (by omega)
/-- It is the only such number. -/
theorem fst_eq {l : List Pk} (h : Up l) {t : Int} {k : Nat} (hk : k <= l.length) (h1 : ∀ j, j < k -> dayAt l j < t) (h2 : k < l.length -> t <= dayAt l k) : fst l t = k := by
  have hl := fst_le l t
  rcases Nat.lt_trichotomy (fst l t) k with e | e | e
  · have := (fst_lt h (t := t) (j := fst l t) (by omega)).2 (h1 _ e)
    omega
  · exact e
  · have := (fst_lt h (t := t) (j := k) (by omega)).1 e
    have := h2 (by omega)
    omega
def nx (l : List Pk) (A : Int) (i : Nat) : Nat := fst l (dayAt l i + A)
def kk (l : List Pk) (A : Int) (m : Nat) : Nat := if m < l.length then fst l (dayAt l m - A + 1) else l.length
theorem fl {l : List Pk} (h : Up l) {A : Int} (hA : 1 <= A) : Fl l.length (nx l A) (kk l A) where
  lt i hi := (fst_lt h hi).2 (by omega)
  le i _ := fst_le _ _
  kle m := by
    unfold kk
    split
    · rename_i hm
      rcases Nat.lt_or_ge m (fst l (dayAt l m - A + 1)) with e | e
      · have := (fst_lt h hm).1 e
        omega
      · exact e
    · omega
  iff i m hi hm := by
    unfold kk nx
    split
    · rename_i hm
      rw [fst_lt h hi]
      have := fst_lt h (t := dayAt l i + A) hm
      omega
    · have := fst_le l (dayAt l i + A)
      omega
end Pk
end Go.Nm
namespace Go.Nm
namespace Pk
/-- The greatest worth of the peaks ahead of one. -/
def Sf (kk : Nat -> Nat) (v : Nat -> Int) : Nat -> Int
  | 0 => 0
  | i + 1 => max (Sf kk v i) (Sf kk v (min (kk i) i) + v i)
termination_by i => i
decreasing_by all_goals omega
theorem sf_is {n : Nat} {nx kk : Nat -> Nat} (F : Fl n nx kk) (v : Nat -> Int) : IsS n v kk (Sf kk v) where
  z := by rw [Sf]
  s i _ := by rw [Sf, Nat.min_eq_left (F.kle i)]
theorem IsS.uniq {n : Nat} {nx kk : Nat -> Nat} {v S S' : Nat -> Int} (F : Fl n nx kk) (h : IsS n v kk S) (h' : IsS n v kk S') : ∀ i, i <= n -> S i = S' i := by
  intro i
  induction i using Nat.strongRecOn with
  | _ i ih =>
    intro hi
    cases i with
    | zero => rw [h.z, h'.z]
    | succ i =>
      have := F.kle i
      rw [h.s i (by omega), h'.s i (by omega), ih i (by omega) (by omega), ih (kk i) (by omega) (by omega)]
variable {n : Nat} {nx kk : Nat -> Nat} {v S : Nat -> Int}
/-- Dues behind so many peaks. -/
def Du (n : Nat) (kk : Nat -> Nat) (S : Nat -> Int) (i : Nat) (out : Nat -> Int) : Prop := ∀ m, m <= n -> sm out 0 m = S (min i (kk m))
theorem sm_range (d : Nat -> Int) {a b : Nat} (h : a <= b) : sm d a (b - a) = sm d 0 b - sm d 0 a := by
  have := sm_add d 0 a (b - a)
  rw [show a + (b - a) = b by omega, Nat.zero_add] at this
  omega
theorem sm_set (d : Nat -> Int) (p : Nat) (x : Int) (m : Nat) : sm (fun k => if k = p then d k + x else d k) 0 m = sm d 0 m + (if p < m then x else 0) := by
  induction m with
  | zero => simp [sm]
  | succ m ih =>
    simp only [sm, ih, Nat.zero_add]
    by_cases e : m = p
    · subst e; simp; omega
    · by_cases e' : p < m
      · rw [if_neg e, if_pos e', if_pos (by omega)]; omega
      · rw [if_neg e, if_neg e', if_neg (by omega)]; omega
theorem sm_zero (a m : Nat) : sm (fun _ => 0) a m = 0 := by
  induction m with
  | zero => rfl
  | succ m ih => simp [sm, ih]
theorem Du.z (hS : IsS n v kk S) : Du n kk S 0 (fun _ => 0) := by
  intro m _
  rw [Nat.zero_min, hS.z]
  exact sm_zero 0 m
/-- What a peak's days have when its turn comes. -/
theorem Du.has (F : Fl n nx kk) {i : Nat} {out : Nat -> Int} (h : Du n kk S i out) (hi : i < n) : sm out i (nx i - i) = S i - S (kk i) := by
  have l1 := F.lt i hi
  have l2 := F.le i hi
  have k1 := (F.iff i (nx i) hi l2).2 (Nat.le_refl _)
  have k2 := F.kle i
  rw [sm_range out (Nat.le_of_lt l1), h (nx i) l2, h i (by omega), Nat.min_eq_left (Nat.le_of_lt k1), Nat.min_eq_right k2]
theorem Du.step (F : Fl n nx kk) (hS : IsS n v kk S) {i : Nat} {out : Nat -> Int} (h : Du n kk S i out) (hi : i < n) {p : Nat} (hp : p + 1 = nx i) {x : Int} (hx : x = max 0 (v i - sm out i (nx i - i))) : Du n kk S (i + 1) (fun k => if k = p then out k + x else out k) := by
  intro m hm
  rw [sm_set, h m hm]
  rw [h.has F hi] at hx
  have e := hS.s i hi
  have q := F.iff i m hi hm
  by_cases c : i < kk m
  · have := q.1 c
    rw [if_pos (by omega), Nat.min_eq_left (by omega), Nat.min_eq_left (by omega)]
    omega
  · rw [if_neg (by omega), Nat.min_eq_right (by omega), Nat.min_eq_right (by omega)]
    omega
theorem kk_n (F : Fl n nx kk) : kk n = n := by
  have h1 := F.kle n
  rcases Nat.lt_or_ge (kk n) n with e | e
  · have := (F.iff (kk n) n e (Nat.le_refl _)).2 (F.le _ e)
    omega
  · omega
section
variable (F : Fl n nx kk) (hS : IsS n v kk S) {out : Nat -> Int} (h : Du n kk S n out)
include F h in
theorem Du.pre {m : Nat} (hm : m <= n) : sm out 0 m = S (kk m) := by
  rw [h m hm, Nat.min_eq_right (Nat.le_trans (F.kle m) hm)]
include F hS h
omit hS in
theorem Du.sum : sm out 0 n = S n := by rw [h.pre F (Nat.le_refl _), kk_n F]
theorem Du.proves {i : Nat} (hi : i < n) : v i <= sm out i (nx i - i) := by
  have l1 := F.lt i hi
  have l2 := F.le i hi
  have k1 := (F.iff i (nx i) hi l2).2 (Nat.le_refl _)
  rw [sm_range out (Nat.le_of_lt l1), h.pre F l2, h.pre F (Nat.le_of_lt hi)]
  have m1 : S (i + 1) <= S (kk (nx i)) := hS.mono k1 (Nat.le_trans (F.kle _) l2)
  have := hS.s i hi
  omega
omit hS in
theorem Du.at {p : Nat} (hp : p < n) : out p = S (kk (p + 1)) - S (kk p) := by
  have h1 := h.pre F (show p + 1 <= n from hp)
  have h2 := h.pre F (Nat.le_of_lt hp)
  simp only [sm, Nat.zero_add] at h1
  omega
theorem Du.nn {p : Nat} (hp : p < n) : 0 <= out p := by
  rw [h.at F hp]
  have m1 : S (kk p) <= S (kk (p + 1)) := hS.mono (F.kmono (Nat.le_succ p) hp) (Nat.le_trans (F.kle _) hp)
  omega
theorem Du.most {c : Int} (hc : 0 <= c) (hv : ∀ i, i < n -> v i <= c) {p : Nat} (hp : p < n) : out p <= c := by
  rw [h.at F hp]
  have k : ∀ j, kk p <= j -> j <= kk (p + 1) -> S j <= S (kk p) + c := by
    intro j hj
    induction hj with
    | refl => intro _; omega
    | @step j hj ih =>
      intro hj2
      have := ih (by omega)
      have hb := F.kle (p + 1)
      have e := hS.s j (by omega)
      have q := (F.iff j (p + 1) (by omega) hp).1 (by omega)
      have := F.lt j (by omega)
      have m1 := hS.mono (F.kmono (show j <= p by omega) (by omega)) (Nat.le_trans (F.kle p) (by omega))
      have := hv j (by omega)
      rw [Nat.succ_eq_add_one]
      omega
  have := k (kk (p + 1)) (F.kmono (Nat.le_succ p) hp) (Nat.le_refl _)
  omega
end
end Pk
end Go.Nm
namespace Go.Nm
namespace Pk
/-- The first that is not 0. -/
def fe (f : Nat -> Int) : Nat -> Int
  | 0 => 0
  | n + 1 => if fe f n ≠ 0 then fe f n else f n
theorem fe_all {f : Nat -> Int} : ∀ {n : Nat}, fe f n = 0 ↔ ∀ i, i < n -> f i = 0
  | 0 => by simp [fe]
  | n + 1 => by
    have ih := fe_all (f := f) (n := n)
    unfold fe
    constructor
    · intro h i hi
      split at h
      · rename_i h1; exact absurd h h1
      · rename_i h1
        rcases Nat.lt_or_eq_of_le (Nat.le_of_lt_succ hi) with e | e
        · exact ih.1 (Classical.not_not.1 h1) i e
        · rw [e]; exact h
    · intro h
      have h1 := ih.2 fun i hi => h i (by omega)
      rw [if_neg (by rw [h1]; simp)]
      exact h n (by omega)
theorem fe_stop {f : Nat -> Int} {i : Nat} (h0 : fe f i = 0) (h : f i ≠ 0) : ∀ {n : Nat}, i < n -> fe f n = f i
  | 0, hn => by omega
  | n + 1, hn => by
    unfold fe
    rcases Nat.lt_or_eq_of_le (Nat.le_of_lt_succ hn) with e | e
    · have ih := fe_stop h0 h e
      rw [if_pos (by rw [ih]; exact h), ih]
    · subst e
      rw [if_neg (by rw [h0]; simp)]
def pkB (p : Pk) : Bool := (decide (0 <= p.day) && decide (p.day <= 4000)) && (decide (0 <= p.stage) && decide (p.stage <= 2000))
def errP (l : List Pk) (i : Nat) : Int := if pkB (l.getD i default) = false then 110 else if 0 < i /\ (l.getD i default).day <= (l.getD (i - 1) default).day then 9 else 0
def chkP (l : List Pk) : Int := if 40 < l.length then 3 else fe (errP l) l.length
/-- Peaks that are right. -/
structure Ok (l : List Pk) : Prop where
  few : l.length <= 40
  day : ∀ i, i < l.length -> 0 <= dayAt l i /\ dayAt l i <= 4000
  st : ∀ i, i < l.length -> 0 <= stAt l i /\ stAt l i <= 2000
  up : Up l
theorem chk_ok {l : List Pk} (h : chkP l = 0) : Ok l := by
  unfold chkP at h
  split at h
  · cases h
  · rename_i h40
    have k := fe_all.1 h
    have k1 : ∀ i, i < l.length -> pkB (l.getD i default) = true /\ (0 < i -> dayAt l (i - 1) < dayAt l i) := by
      intro i hi
      have := k i hi
      unfold errP at this
      split at this
      · cases this
      · rename_i h1
        split at this
        · cases this
        · rename_i h2
          refine ⟨by simpa using h1, fun h0 => ?_⟩
          unfold dayAt
          omega
    have k2 : ∀ i, i < l.length -> (0 <= dayAt l i /\ dayAt l i <= 4000) /\ (0 <= stAt l i /\ stAt l i <= 2000) := by
      intro i hi
      have := (k1 i hi).1
      simpa [pkB, dayAt, stAt] using this
    refine ⟨by omega, fun i hi => (k2 i hi).1, fun i hi => (k2 i hi).2, ?_⟩
    intro i j hij hj
    induction j with
    | zero => omega
    | succ j ih =>
      have h1 := (k1 (j + 1) hj).2 (by omega)
      simp only [Nat.add_sub_cancel] at h1
      rcases Nat.lt_or_eq_of_le (Nat.le_of_lt_succ hij) with e | e
      · have := ih e (by omega)
        omega
      · subst e; exact h1
def askP (l : List Pk) (A T : Int) : Int := if chkP l ≠ 0 then chkP l else if (1 <= A /\ A <= 60) /\ (0 <= T /\ T <= 2000) then 0 else 4
structure Asked (l : List Pk) (A T : Int) : Prop where
  ok : Ok l
  ap : 1 <= A /\ A <= 60
  th : 0 <= T /\ T <= 2000
theorem ask_ok {l : List Pk} {A T : Int} (h : askP l A T = 0) : Asked l A T := by
  unfold askP at h
  split at h
  · rename_i h1; exact absurd h h1
  · rename_i h1
    split at h
    · rename_i h2; exact ⟨chk_ok (Classical.not_not.1 h1), h2.1, h2.2⟩
    · cases h
end Pk
end Go.Nm
namespace Go.Proofs.Ytcgalcbkkijkhaa
open Go Go.Nm
theorem in_ends (x a b : Int) : (m_often_in x a b).Ends (decide (a <= x) && decide (x <= b)) := M.i_pure
theorem gI2 {c : Bool} {p q : Prop} [Decidable p] [Decidable q] (h : c = true -> p /\ q) : (!c || (decide p && decide q)) = true := by
  cases c with
  | true => exact gA2 (h rfl).1 (h rfl).2
  | false => rfl
theorem chk_ends (l : List Pk) : (m_often_CheckPeaks l).Ends (Pk.chkP l) := by
  unfold m_often_CheckPeaks Pk.chkP
  refine M.i_if (fun hb => ?_) (fun hb => ?_)
  · have := of_decide_eq_true hb
    rw [if_pos (by omega)]
    exact M.i_pure
  · have h40 := of_decide_eq_false hb
    rw [if_neg (by omega)]
    have out : (M.iter (m_often_CheckPeaks_b0 l) 0).Out (fun y => (match y with | .inl s => s | .inr (_ : Unit) => 0) = Pk.fe (Pk.errP l) l.length) := by
      refine M.o_for l.length (fun i s => s = i /\ Pk.fe (Pk.errP l) i = 0) ?_ ?_ ⟨rfl, rfl⟩
      · rintro i s hi ⟨rfl, h0⟩
        simp only [m_often_CheckPeaks_b0]
        have ha : (m_often_Book_allowed_t72 ([] : List Yr) ([] : List Old10) 0 0 (l.getD s default)).Ends (Pk.pkB (l.getD s default)) := by
          unfold m_often_Book_allowed_t72 Pk.pkB
          refine M.i_bind (in_ends _ _ _) (M.i_bind (a := (decide (0 <= (l.getD s default).day) && decide ((l.getD s default).day <= 4000)) && (decide (0 <= (l.getD s default).stage) && decide ((l.getD s default).stage <= 2000))) (M.i_opt (fun h => by rw [h, Bool.true_and]; exact in_ends _ _ _) (fun h => by rw [h, Bool.false_and])) ?_)
          cases (decide (0 <= (l.getD s default).day) && decide ((l.getD s default).day <= 4000)) <;> exact M.i_pure
        refine M.o_t (decide_eq_true (by omega)) (M.o_grdD (by omega) (M.o_bindE ha (M.o_if (fun h1 => ?_) (fun h1 => ?_))))
        · have e : Pk.errP l s = 110 := by unfold Pk.errP; rw [if_pos (by simpa using h1)]
          exact M.o_pure (by rw [Pk.fe_stop h0 (by rw [e]; decide) hi, e])
        · have h1 : Pk.pkB (l.getD s default) = true := by simpa using h1
          refine M.o_grd (gI2 fun h => by have := of_decide_eq_true h; omega) (M.o_grd (gI2 fun h => by have := of_decide_eq_true h; omega) ?_)
          · rw [show Int.toNat ((s : Int) - 1) = s - 1 by omega]
            refine M.o_if (fun h2 => ?_) (fun h2 => ?_)
            · rw [Bool.and_eq_true, decide_eq_true_eq, decide_eq_true_eq] at h2
              have e : Pk.errP l s = 9 := by unfold Pk.errP; rw [if_neg (by rw [h1]; simp), if_pos ⟨by omega, h2.2⟩]
              exact M.o_pure (by rw [Pk.fe_stop h0 (by rw [e]; decide) hi, e])
            · refine M.o_pure ⟨rfl, ?_⟩
              have e : Pk.errP l s = 0 := by
                unfold Pk.errP
                rw [if_neg (by rw [h1]; simp), if_neg]
                intro hh
                rw [Bool.and_eq_false_iff, decide_eq_false_iff_not, decide_eq_false_iff_not] at h2
                omega
              show (if Pk.fe (Pk.errP l) s ≠ 0 then _ else _) = _
              rw [if_neg (by rw [h0]; simp), e]
      · rintro s ⟨rfl, h0⟩
        simp only [m_often_CheckPeaks_b0]
        exact M.o_f (by simp) (M.o_pure h0.symm)
    obtain ⟨y, h1, h2⟩ := out
    refine M.i_bind h1 ?_
    cases y with
    | inl s => rw [← h2]; exact M.i_pure
    | inr u => rw [← h2]; exact M.i_pure
theorem asked_ends (l : List Pk) (A T : Int) : (m_often_asked l A T).Ends (Pk.askP l A T) := by
  unfold m_often_asked Pk.askP
  refine M.i_bind (chk_ends l) ?_
  by_cases h : Pk.chkP l = 0
  · rw [h]
    refine M.i_bind (a := decide (1 <= A) && decide (A <= 60)) (M.i_opt (fun _ => in_ends _ _ _) (fun h => by cases h)) ?_
    rw [if_neg (by simp)]
    by_cases h1 : 1 <= A /\ A <= 60
    · rw [decide_eq_true h1.1, decide_eq_true h1.2]
      refine M.i_bind (a := decide (0 <= T) && decide (T <= 2000)) (M.i_opt (fun _ => in_ends _ _ _) (fun h => by cases h)) ?_
      by_cases h2 : 0 <= T /\ T <= 2000
      · rw [decide_eq_true h2.1, decide_eq_true h2.2, if_pos ⟨h1, h2⟩]
        exact M.i_f rfl M.i_pure
      · rw [if_neg (fun hh => h2 hh.2)]
        have : (decide (0 <= T) && decide (T <= 2000)) = false := by rw [Bool.and_eq_false_iff, decide_eq_false_iff_not, decide_eq_false_iff_not]; omega
        rw [this]
        exact M.i_t rfl M.i_pure
    · have : (decide (1 <= A) && decide (A <= 60)) = false := by rw [Bool.and_eq_false_iff, decide_eq_false_iff_not, decide_eq_false_iff_not]; omega
      rw [this, if_neg (fun hh => h1 hh.1)]
      exact M.i_bind (a := false) (M.i_opt (fun h => by cases h) (fun _ => rfl)) (M.i_t rfl M.i_pure)
  · have hb : (Pk.chkP l == 0) = false := beq_eq_false_iff_ne.2 h
    rw [if_pos h, hb]
    exact M.i_bind (a := false) (M.i_opt (fun h => by cases h) (fun _ => rfl)) (M.i_bind (a := false) (M.i_opt (fun h => by cases h) (fun _ => rfl)) (M.i_f rfl M.i_pure))
end Go.Proofs.Ytcgalcbkkijkhaa
namespace Go.Nm
namespace Pk
theorem getD_day {l : List Pk} {i : Nat} : (l.getD i default).day = dayAt l i := rfl
theorem getD_st {l : List Pk} {i : Nat} : (l.getD i default).stage = stAt l i := rfl
end Pk
end Go.Nm
namespace Go.Proofs.Ytcgalcbkkijkhaa
open Go Go.Nm
variable {l : List Pk} {A T : Int}
theorem cmp_ends (p : Pk) (t : Int) : (m_often_Pick_1_1 p t).Ends (if p.day < t then -1 else if t < p.day then 1 else 0) := by
  unfold m_often_Pick_1_1 m_cmp_Compare_int m_cmp_isNaN_int
  refine M.i_bind (M.i_bind M.i_pure (M.i_bind M.i_pure (M.i_f (by simp) (M.i_f (by simp) ?_)))) M.i_pure
  by_cases h : p.day < t
  · rw [if_pos h]
    exact M.i_t (decide_eq_true h) M.i_pure
  · rw [if_neg h]
    refine M.i_f (decide_eq_false h) ?_
    by_cases h2 : t < p.day
    · rw [if_pos h2]
      exact M.i_t (decide_eq_true h2) M.i_pure
    · rw [if_neg h2]
      exact M.i_f (decide_eq_false h2) M.i_pure
theorem search_out (h : Pk.Up l) (hl : l.length <= 1000000) (t : Int) : (m_slices_BinarySearchFunc_often_Peak_int_77 l t).Out (fun y => y.1 = (Pk.fst l t : Int)) := by
  unfold m_slices_BinarySearchFunc_often_Peak_int_77
  refine M.o_bind (P := fun i => i = (Pk.fst l t : Int)) ?_ ?_
  · refine M.o_iter (fun m (s : Int × Int) => 0 <= s.1 /\ s.1 <= s.2 /\ s.2 <= l.length /\ m = Int.toNat (s.2 - s.1) /\ (∀ k : Nat, (k : Int) < s.1 -> Pk.dayAt l k < t) /\ ∀ k : Nat, s.2 <= k -> k < l.length -> t <= Pk.dayAt l k) ?_ _ (0, (l.length : Int)) ⟨Int.le_refl _, by dsimp only; omega, Int.le_refl _, rfl, fun k hk => by dsimp only at hk; omega, fun k h1 h2 => by dsimp only at h1; omega⟩
    rintro m ⟨i, j⟩ ⟨h0, h1, h2, rfl, h3, h4⟩
    dsimp only at h0 h1 h2 h3 h4 ⊢
    simp only [m_slices_BinarySearchFunc_often_Peak_int_77_b0]
    refine M.o_if (fun hb => ?_) (fun hb => ?_)
    · have hb := of_decide_eq_true hb
      refine M.o_grd (gA2 (by omega) (by omega)) (M.o_grd (gA2 (by omega) (by omega)) (M.o_grd (gA2 (by omega) (by omega)) (M.o_grd (gA2 (by omega) (by omega)) (M.o_bindE (cmp_ends _ _) ?_))))
      rw [Pk.getD_day]
      refine M.o_if (fun hc => ?_) (fun hc => ?_)
      · have hc := of_decide_eq_true hc
        have hd : Pk.dayAt l (Int.toNat ((i + j) / 2)) < t := by
          refine Classical.byContradiction fun hn => ?_
          rw [if_neg hn] at hc
          split at hc <;> omega
        refine M.o_pure ⟨_, ?_, by dsimp only; omega, by dsimp only; omega, h2, rfl, fun k hk => ?_, h4⟩
        · dsimp only; omega
        · dsimp only at hk
          have := h.le (show k <= Int.toNat ((i + j) / 2) by omega) (by omega)
          omega
      · have hc := of_decide_eq_false hc
        have hd : t <= Pk.dayAt l (Int.toNat ((i + j) / 2)) := by
          refine Classical.byContradiction fun hn => ?_
          rw [if_pos (by omega)] at hc
          omega
        refine M.o_pure ⟨_, ?_, h0, by dsimp only; omega, by dsimp only; omega, rfl, h3, fun k hk1 hk2 => ?_⟩
        · dsimp only; omega
        · dsimp only at hk1
          have := h.le (show Int.toNat ((i + j) / 2) <= k by omega) hk2
          omega
    · have hb := of_decide_eq_false hb
      obtain rfl : i = j := by omega
      obtain ⟨i, rfl⟩ := Int.eq_ofNat_of_zero_le h0
      exact M.o_pure (by show (i : Int) = _; rw [Pk.fst_eq h (by omega) (fun k hk => h3 k (by omega)) (fun hk => h4 i (by omega) hk)])
  · rintro i rfl
    have hle := Pk.fst_le l t
    refine M.o_grd (gI2 fun hb => by have := of_decide_eq_true hb; omega) ?_
    by_cases hb : ((Pk.fst l t : Int) < (l.length : Int))
    · rw [decide_eq_true hb]
      exact M.o_bindE (M.i_opt (fun _ => cmp_ends _ _) (fun h => by cases h)) (M.o_pure rfl)
    · rw [decide_eq_false hb]
      exact M.o_bindE (a := 0) (M.i_opt (fun h => by cases h) (fun _ => rfl)) (M.o_pure rfl)
/-- Where the flood of a peak is over. -/
theorem next_ends (h : Pk.Asked l A T) {i : Nat} (hi : i < l.length) : (m_often_Pick_1 (i : Int) l A).Ends (Pk.nx l A i : Int) := by
  have out : (m_often_Pick_1 (i : Int) l A).Out (fun y => y = (Pk.nx l A i : Int)) := by
    unfold m_often_Pick_1
    have hd := h.ok.day i hi
    have ha := h.ap
    have hf := h.ok.few
    rw [Int.toNat_natCast, Pk.getD_day]
    refine M.o_grd (gA2 (by omega) (by omega)) (M.o_grd (gA2 (by omega) (by omega)) (M.o_bind (search_out h.ok.up (by omega) _) ?_))
    rintro ⟨a, b⟩ e
    exact M.o_pure e
  obtain ⟨y, h1, rfl⟩ := out
  exact h1
theorem window_ends (h : Pk.Asked l A T) {i : Nat} (hi : i < l.length) : (m_often_window l (i : Int) A).Ends (Pk.nx l A i : Int) := by
  have out : (m_often_window l (i : Int) A).Out (fun y => y = (Pk.nx l A i : Int)) := by
    unfold m_often_window
    have hd : 0 <= (l.getD i default).day /\ (l.getD i default).day <= 4000 := h.ok.day i hi
    have ha := h.ap
    have hf := h.ok.few
    refine M.o_bind (P := fun y => y = (Pk.nx l A i : Int)) ?_ (fun y e => M.o_pure e)
    refine M.o_iter (fun m (s : Int) => (i : Int) <= s /\ s <= l.length /\ m = Int.toNat (l.length - s) /\ ∀ k : Nat, (k : Int) < s -> Pk.dayAt l k < Pk.dayAt l i + A) ?_ _ (i : Int) ⟨Int.le_refl _, by omega, rfl, fun k hk => ?_⟩
    · rintro m s ⟨h0, h1, rfl, h3⟩
      obtain ⟨s, rfl⟩ := Int.eq_ofNat_of_zero_le (show 0 <= s by omega)
      simp only [m_often_window_b0, Int.toNat_natCast]
      refine M.o_grd (gI2 fun hb => by have := of_decide_eq_true hb; omega) (M.o_grd (gI2 fun hb => by omega) (M.o_grd (gI2 fun hb => by omega) (M.o_if (fun hb => ?_) (fun hb => ?_))))
      · rw [Bool.and_eq_true, decide_eq_true_eq, decide_eq_true_eq] at hb
        refine M.o_grd (gA2 (by omega) (by omega)) (M.o_pure ⟨_, ?_, by omega, by omega, rfl, fun k hk => ?_⟩)
        · omega
        · rcases Nat.lt_or_eq_of_le (show k <= s by omega) with e | e
          · exact h3 k (by omega)
          · rw [e]; exact hb.2
      · rw [Bool.and_eq_false_iff, decide_eq_false_iff_not, decide_eq_false_iff_not] at hb
        refine M.o_pure ?_
        have hb2 : s < l.length -> Pk.dayAt l i + A <= Pk.dayAt l s := fun hk => by
          show (l.getD i default).day + A <= (l.getD s default).day
          omega
        show (s : Int) = (Pk.nx l A i : Int)
        unfold Pk.nx
        rw [Pk.fst_eq (k := s) h.ok.up (by omega) (fun k hk => h3 k (by omega)) hb2]
    · have := h.ok.up.le (show k <= i by omega) hi
      omega
  obtain ⟨y, h1, rfl⟩ := out
  exact h1
theorem greatest1 (a : Int) : (m_often_greatest [a]).Ends (max 0 a) := by
  unfold m_often_greatest
  refine M.i_bind (M.i_next (s' := (max 0 a, 1)) ?_ (M.i_stop (r := max 0 a) ?_)) M.i_pure
  · simp only [m_often_greatest_b0]
    exact M.i_t rfl (M.i_grd rfl M.i_pure)
  · simp only [m_often_greatest_b0]
    exact M.i_f rfl M.i_pure
theorem greatest2 (a b : Int) : (m_often_greatest [a, b]).Ends (max (max 0 a) b) := by
  unfold m_often_greatest
  refine M.i_bind (M.i_next (s' := (max 0 a, 1)) ?_ (M.i_next (s' := (max (max 0 a) b, 2)) ?_ (M.i_stop (r := max (max 0 a) b) ?_))) M.i_pure
  · simp only [m_often_greatest_b0]
    exact M.i_t rfl (M.i_grd rfl M.i_pure)
  · simp only [m_often_greatest_b0]
    exact M.i_t rfl (M.i_grd rfl M.i_pure)
  · simp only [m_often_greatest_b0]
    exact M.i_f rfl M.i_pure
/-- What a peak has above the threshold. -/
def vP (l : List Pk) (T : Int) (i : Nat) : Int := Pk.stAt l i - T
theorem with_ends (h : Pk.Asked l A T) {i : Nat} (hi : i < l.length) {b : List Int} (hb : ∀ k : Nat, k <= l.length -> 0 <= b.getD k 0 /\ b.getD k 0 <= 100000) : (m_often_Pick_2 (i : Int) l T b l A).Ends (vP l T i + b.getD (Pk.nx l A i) 0) := by
  unfold m_often_Pick_2
  have hs := h.ok.st i hi
  have ht := h.th
  have hf := h.ok.few
  have hn := Pk.fst_le l (Pk.dayAt l i + A)
  have hq := hb (Pk.nx l A i) hn
  rw [Int.toNat_natCast, Pk.getD_st]
  refine M.i_grd (gA2 (by omega) (by omega)) (M.i_grd (gA2 (by omega) (by omega)) (M.i_bind (next_ends h hi) ?_))
  rw [Int.toNat_natCast]
  have : (Pk.nx l A i : Int) < 41 := by have : Pk.nx l A i <= l.length := hn; omega
  exact M.i_grd (gA2 (by omega) this) (M.i_grd (gA2 (by omega) (by omega)) M.i_pure)
/-- The worths behind each peak. -/
theorem best_out (h : Pk.Asked l A T) : (M.iter (m_often_Pick_b0 l A T) (List.replicate 41 0, (l.length : Int) - 1)).Out (fun b => b.length = 41 /\ Pk.IsB l.length (vP l T) (Pk.nx l A) (fun k => b.getD k 0) /\ ∀ k : Nat, k <= l.length -> 0 <= b.getD k 0 /\ b.getD k 0 <= 100000) := by
  have hf := h.ok.few
  have F := Pk.fl h.ok.up h.ap.1
  refine M.o_iter (fun m (s : List Int × Int) => m = Int.toNat (s.2 + 1) /\ -1 <= s.2 /\ s.2 < l.length /\ s.1.length = 41 /\ s.1.getD l.length 0 = 0 /\ (∀ k : Nat, s.2 < k -> k < l.length -> s.1.getD k 0 = max (max 0 (s.1.getD (k + 1) 0)) (vP l T k + s.1.getD (Pk.nx l A k) 0)) /\ ∀ k : Nat, k <= l.length -> 0 <= s.1.getD k 0 /\ s.1.getD k 0 <= 2000 * ((l.length : Int) - k)) ?_ _ _
    ⟨rfl, by dsimp only; omega, by dsimp only; omega, by simp, ?_, fun k h1 h2 => by dsimp only at h1; omega, fun k hk => ?_⟩
  · rintro m ⟨b, i⟩ ⟨rfl, h0, h1, h2, h3, h4, h5⟩
    dsimp only at h0 h1 h2 h3 h4 h5 ⊢
    simp only [m_often_Pick_b0]
    refine M.o_if (fun hb => ?_) (fun hb => ?_)
    · have hb := of_decide_eq_true hb
      obtain ⟨i, rfl⟩ := Int.eq_ofNat_of_zero_le hb
      have hi : i < l.length := by omega
      have l1 := F.lt i hi
      have l2 := F.le i hi
      have b5 : ∀ k : Nat, k <= l.length -> 0 <= b.getD k 0 /\ b.getD k 0 <= 100000 := fun k hk => by have := h5 k hk; omega
      refine M.o_grd (gA2 (by omega) (by omega)) (M.o_grd (gA2 (by omega) (by omega)) (M.o_bindE (with_ends h hi b5) (M.o_bindE (greatest2 _ _) (M.o_grd (gA2 (by omega) (by omega)) (M.o_grd (gA2 (by omega) (by omega)) (M.o_pure ?_))))))
      rw [show Int.toNat ((i : Int) + 1) = i + 1 by omega, Int.toNat_natCast]
      have g : ∀ k : Nat, (b.set i (max (max 0 (b.getD (i + 1) 0)) (vP l T i + b.getD (Pk.nx l A i) 0))).getD k 0 = if k = i then max (max 0 (b.getD (i + 1) 0)) (vP l T i + b.getD (Pk.nx l A i) 0) else b.getD k 0 := fun k => gset _ _ _ _ _ (by omega)
      refine ⟨_, by dsimp only; omega, rfl, by dsimp only; omega, by dsimp only; omega, by simpa using h2, ?_, fun k hk1 hk2 => ?_, fun k hk => ?_⟩
      · dsimp only
        rw [g, if_neg (by omega)]
        exact h3
      · dsimp only at hk1 ⊢
        by_cases e : k = i
        · subst e
          rw [g, if_pos rfl, g, if_neg (by omega), g, if_neg (by omega)]
        · have q1 := F.lt k hk2
          rw [g, if_neg e, g, if_neg (by omega), g, if_neg (by omega)]
          exact h4 k (by omega) hk2
      · dsimp only
        rw [g]
        split
        · rename_i e
          subst e
          have k1 := h5 (k + 1) (by omega)
          have k2 := h5 _ l2
          have hs := h.ok.st k hi
          have ht := h.th
          unfold vP
          omega
        · exact h5 k hk
    · have hb := of_decide_eq_false hb
      refine M.o_pure ⟨h2, ⟨h3, fun k hk => h4 k (by omega) hk⟩, fun k hk => ?_⟩
      have := h5 k hk
      omega
  · dsimp only
    rw [List.getD_eq_getElem?_getD, List.getElem?_replicate]
    split <;> rfl
  · dsimp only
    rw [List.getD_eq_getElem?_getD, List.getElem?_replicate]
    split
    · show (0 : Int) <= 0 /\ (0 : Int) <= _
      omega
    · show (0 : Int) <= 0 /\ (0 : Int) <= _
      omega
end Go.Proofs.Ytcgalcbkkijkhaa
namespace Go.Nm
namespace Pk
def cA (c : List Int) (k : Nat) : Nat := Int.toNat (c.getD k 0)
/-- A choice: a strictly increasing list of peaks. -/
def Ris (n : Nat) (c : List Int) : Prop := ∀ k, k < c.length -> 0 <= c.getD k 0 /\ c.getD k 0 < n /\ (0 < k -> c.getD (k - 1) 0 < c.getD k 0)
/-- Of floods of their own, each above the threshold. -/
def Good (l : List Pk) (A T : Int) (c : List Int) : Prop := ∀ k, k < c.length -> T < stAt l (cA c k) /\ (0 < k -> A <= dayAt l (cA c k) - dayAt l (cA c (k - 1)))
def wS (l : List Pk) (T : Int) (c : List Int) : Nat -> Int
  | 0 => 0
  | k + 1 => wS l T c k + (stAt l (cA c k) - T)
theorem Ris.low {n : Nat} {c : List Int} (h : Ris n c) : ∀ k : Nat, k < c.length -> (k : Int) <= c.getD k 0
  | 0, hk => by have := (h 0 hk).1; omega
  | k + 1, hk => by
    have ih := h.low k (by omega)
    have := (h (k + 1) hk).2.2 (by omega)
    rw [Nat.add_sub_cancel] at this
    omega
theorem Ris.few {n : Nat} {c : List Int} (h : Ris n c) : c.length <= n := by
  rcases Nat.eq_zero_or_pos c.length with e | e
  · omega
  · have h1 := h.low (c.length - 1) (by omega)
    have h2 := h (c.length - 1) (by omega)
    omega
theorem Ris.mono {n : Nat} {c : List Int} (h : Ris n c) {j k : Nat} (hjk : j < k) (hk : k < c.length) : c.getD j 0 < c.getD k 0 := by
  induction k with
  | zero => omega
  | succ k ih =>
    have h1 := (h (k + 1) hk).2.2 (by omega)
    rw [Nat.add_sub_cancel] at h1
    rcases Nat.lt_or_eq_of_le (Nat.le_of_lt_succ hjk) with e | e
    · have := ih e (by omega)
      omega
    · rw [e]; exact h1
theorem Ris.at_ {n : Nat} {c : List Int} (h : Ris n c) {k : Nat} (hk : k < c.length) : cA c k < n := by
  have := h k hk
  unfold cA
  omega
theorem wS_bound {l : List Pk} {T : Int} {c : List Int} (ho : Ok l) (hT : 0 <= T /\ T <= 2000) (h : Ris l.length c) : ∀ k : Nat, k <= c.length -> -(2000 * (k : Int)) <= wS l T c k /\ wS l T c k <= 2000 * (k : Int)
  | 0, _ => by simp [wS]
  | k + 1, hk => by
    have ih := wS_bound ho hT h k (by omega)
    have := ho.st _ (h.at_ (k := k) (by omega))
    unfold wS
    omega
/-- What is said of a worth. -/
structure WoE (l : List Pk) (A T : Int) (c : List Int) (y : Int × Int) : Prop where
  ask : askP l A T ≠ 0 -> y = (0, askP l A T)
  arg : askP l A T = 0 -> ¬ Ris l.length c -> y = (0, 2)
  bad : askP l A T = 0 -> Ris l.length c -> ¬ Good l A T c -> y = (0, 7)
  ok : askP l A T = 0 -> Ris l.length c -> Good l A T c -> y = (wS l T c c.length, 0)
theorem WoE.uniq {l : List Pk} {A T : Int} {c : List Int} {y y' : Int × Int} (h : WoE l A T c y) (h' : WoE l A T c y') : y = y' := by
  by_cases h0 : askP l A T = 0
  · by_cases h1 : Ris l.length c
    · by_cases h2 : Good l A T c
      · rw [h.ok h0 h1 h2, h'.ok h0 h1 h2]
      · rw [h.bad h0 h1 h2, h'.bad h0 h1 h2]
    · rw [h.arg h0 h1, h'.arg h0 h1]
  · rw [h.ask h0, h'.ask h0]
end Pk
end Go.Nm
namespace Go.Proofs.Ytcgalcbkkijkhaa
open Go Go.Nm
variable {l : List Pk} {A T : Int}
theorem rising_out {c : List Int} {n : Nat} (hn : n <= 1000000) : (m_often_rising c 0 ((n : Int) - 1)).Out (fun r => r = true ↔ Pk.Ris n c) := by
  unfold m_often_rising
  refine M.o_bind (P := fun y => match y with | .inl (_ : Unit) => ¬ Pk.Ris n c | .inr (_ : Unit) => Pk.Ris n c) ?_ ?_
  · refine M.o_for c.length (fun i (s : Int × Nat) => s.2 = i /\ s.1 = (if i = 0 then 0 else c.getD (i - 1) 0 + 1) /\ ∀ k, k < i -> 0 <= c.getD k 0 /\ c.getD k 0 < n /\ (0 < k -> c.getD (k - 1) 0 < c.getD k 0)) ?_ ?_ ⟨rfl, rfl, fun k hk => by omega⟩
    · rintro i ⟨f, s⟩ hi ⟨e1, e2, hJ⟩
      dsimp only at e1 e2
      subst e1
      simp only [m_often_rising_b0]
      refine M.o_t (decide_eq_true (by omega)) (M.o_grdD (by omega) (M.o_bindE (in_ends _ _ _) (M.o_if (fun hb => ?_) (fun hb => ?_))))
      · refine M.o_pure fun hR => ?_
        have := hR s hi
        rw [Bool.not_eq_true', Bool.and_eq_false_iff, decide_eq_false_iff_not, decide_eq_false_iff_not] at hb
        rw [e2] at hb
        split at hb <;> omega
      · rw [Bool.not_eq_false', Bool.and_eq_true, decide_eq_true_eq, decide_eq_true_eq] at hb
        have h0 : 0 <= f := by
          rw [e2]
          split
          · exact Int.le_refl _
          · have := hJ (s - 1) (by omega)
            omega
        refine M.o_grd (gA2 (by omega) (by omega)) (M.o_pure ⟨rfl, ?_, fun k hk => ?_⟩)
        · dsimp only
          rw [if_neg (by omega), Nat.add_sub_cancel]
        · rcases Nat.lt_or_eq_of_le (Nat.le_of_lt_succ hk) with e | e
          · exact hJ k e
          · subst e
            refine ⟨by omega, by omega, fun h1 => ?_⟩
            rw [if_neg (by omega)] at e2
            omega
    · rintro ⟨f, s⟩ ⟨e1, e2, hJ⟩
      dsimp only at e1 e2
      subst e1
      simp only [m_often_rising_b0]
      exact M.o_f (by simp) (M.o_pure fun k hk => hJ k hk)
  · intro y hy
    cases y with
    | inl u => exact M.o_pure ⟨fun h => (by cases h), fun h => absurd h hy⟩
    | inr u => exact M.o_pure ⟨fun _ => hy, fun _ => rfl⟩
theorem worth_out (l : List Pk) (A T : Int) (c : List Int) : (m_often_Worth l A T c).Out (Pk.WoE l A T c) := by
  unfold m_often_Worth
  refine M.o_bindE (asked_ends l A T) ?_
  by_cases h0 : Pk.askP l A T = 0
  · have hA := Pk.ask_ok h0
    have hf := hA.ok.few
    have hT := hA.th
    have hAp := hA.ap
    rw [h0]
    refine M.o_f rfl (M.o_bind (rising_out (by omega)) fun r hr => ?_)
    cases r with
    | false =>
      have hR : ¬ Pk.Ris l.length c := fun h => by have := hr.2 h; cases this
      exact M.o_t rfl (M.o_pure ⟨fun h => absurd h0 h, fun _ _ => rfl, fun _ h => absurd h hR, fun _ h => absurd h hR⟩)
    | true =>
      have hR := hr.1 rfl
      have hfew := hR.few
      refine M.o_f rfl (M.o_bind (P := fun y => match y with | .inl (_ : Unit) => ¬ Pk.Good l A T c | .inr w => Pk.Good l A T c /\ w = Pk.wS l T c c.length) ?_ ?_)
      · refine M.o_for c.length (fun i (s : Int × Nat) => s.2 = i /\ s.1 = Pk.wS l T c i /\ ∀ k, k < i -> T < Pk.stAt l (Pk.cA c k) /\ (0 < k -> A <= Pk.dayAt l (Pk.cA c k) - Pk.dayAt l (Pk.cA c (k - 1)))) ?_ ?_ ⟨rfl, rfl, fun k hk => by omega⟩
        · rintro i ⟨w, s⟩ hi ⟨e1, e2, hJ⟩
          dsimp only at e1 e2
          subst e1
          subst e2
          simp only [m_often_Worth_b0]
          have hc := hR s hi
          have hcp : 0 < s -> 0 <= c.getD (s - 1) 0 /\ c.getD (s - 1) 0 < (l.length : Int) := fun h => by have := hR (s - 1) (by omega); omega
          have hst := hA.ok.st _ (hR.at_ hi)
          have hd := hA.ok.day _ (hR.at_ hi)
          have hdp : 0 < s -> 0 <= Pk.dayAt l (Pk.cA c (s - 1)) /\ Pk.dayAt l (Pk.cA c (s - 1)) <= 4000 := fun h => hA.ok.day _ (hR.at_ (by omega))
          have hw := Pk.wS_bound hA.ok hT hR s (by omega)
          unfold Pk.stAt at hst
          unfold Pk.dayAt at hd hdp
          unfold Pk.cA at hst hd hdp
          rw [show Int.toNat ((s : Int) - 1) = s - 1 by omega]
          refine M.o_t (decide_eq_true (by omega)) (M.o_grdD (by omega) (M.o_grd (gA2 hc.1 hc.2.1) (M.o_grd (gI2 fun h => by omega) (M.o_grd (gI2 fun h => ?_) (M.o_grd (gI2 fun h => ?_) (M.o_grd (gI2 fun h => ?_) (M.o_if (fun hb => ?_) (fun hb => ?_))))))))
          · rw [Bool.and_eq_true, decide_eq_true_eq] at h; omega
          · rw [Bool.and_eq_true, decide_eq_true_eq] at h
            exact hcp (by omega)
          · rw [Bool.and_eq_true, decide_eq_true_eq] at h
            have := hdp (by omega)
            omega
          · refine M.o_pure fun hG => ?_
            have := hG s hi
            unfold Pk.stAt Pk.dayAt Pk.cA at this
            rw [Bool.or_eq_true, Bool.and_eq_true, decide_eq_true_eq, decide_eq_true_eq, decide_eq_true_eq] at hb
            rcases hb with hb | hb
            · omega
            · have := this.2 (by omega)
              omega
          · rw [Bool.or_eq_false_iff, Bool.and_eq_false_iff, decide_eq_false_iff_not, decide_eq_false_iff_not, decide_eq_false_iff_not] at hb
            refine M.o_grd (gA2 (by omega) (by omega)) (M.o_grd (gA2 (by omega) (by omega)) (M.o_pure ⟨rfl, rfl, fun k hk => ?_⟩))
            rcases Nat.lt_or_eq_of_le (Nat.le_of_lt_succ hk) with e | e
            · exact hJ k e
            · subst e
              unfold Pk.stAt Pk.dayAt Pk.cA
              exact ⟨by omega, fun h => by omega⟩
        · rintro ⟨w, s⟩ ⟨e1, e2, hJ⟩
          dsimp only at e1 e2
          subst e1
          simp only [m_often_Worth_b0]
          exact M.o_f (by simp) (M.o_pure ⟨hJ, e2⟩)
      · intro y hy
        cases y with
        | inl u => exact M.o_pure ⟨fun h => absurd h0 h, fun _ h => absurd hR h, fun _ _ _ => rfl, fun _ _ h => absurd h hy⟩
        | inr w =>
          obtain ⟨hG, rfl⟩ := hy
          exact M.o_pure ⟨fun h => absurd h0 h, fun _ h => absurd hR h, fun _ _ h => absurd hG h, fun _ _ _ => rfl⟩
  · exact M.o_t (bne_iff_ne.2 h0) (M.o_pure ⟨fun _ => rfl, fun h => absurd h h0, fun h => absurd h h0, fun h => absurd h h0⟩)
end Go.Proofs.Ytcgalcbkkijkhaa
