/- Part 5 of the texts on which the proof rests. Conditions: none. -/
import Derived.Test.YtclhljenjphofaaZU4
set_option linter.unusedVariables false
set_option linter.unusedSimpArgs false
set_option linter.unusedSectionVars false
namespace Go.Proofs.Ytclhljenjphofaa
open Go Go.Nm
def m_nilometerkit_Mixed_b0 (s_bytes : List UInt8) (n : Int) : (Int × Int × Nat × (List Int)) → M ((Int × Int × Nat × (List Int)) ⊕ ((List Int) × (List Int) × Int × Int)) := fun (s2, s3, i, l) =>
  bif decide ((i : Int) < n) then (
  M.grd (decide ((-9223372036854775808 : Int) ≤ ((i : Int) + 1)) && decide (((i : Int) + 1) ≤ (9223372036854775807 : Int))) <|
  M.bind (m_nilometerkit_Stream_Next s_bytes s2 s3 ((i : Int) + 1)) fun (r2, q1, q2) =>
  M.grd (decide ((l.length + ([(i : Int)]).length) * 8 ≤ 140737488355328)) <|
  M.grd (decide ((0 : Int) ≤ r2) && decide (r2 < ((l ++ ([(i : Int)])).length : Int))) <|
  M.grd (decide ((i : Int) < ((l ++ ([(i : Int)])).length : Int))) <|
  M.grd (decide ((0 : Int) ≤ r2) && decide (r2 < (((l ++ ([(i : Int)])).set i ((l ++ ([(i : Int)])).getD (Int.toNat r2) 0 : Int)).length : Int))) <|
  M.pure (.inl (q1, q2, i + 1, ((l ++ ([(i : Int)])).set i ((l ++ ([(i : Int)])).getD (Int.toNat r2) 0 : Int)).set (Int.toNat r2) ((l ++ ([(i : Int)])).getD i 0 : Int))))
  else (
  M.pure (.inr (l, l, s2, s3)))
def m_nilometerkit_Mixed (s_bytes : List UInt8) (s_used : Int) (s_mix : Int) (n : Int) : M ((List Int) × Int × Int) :=
  M.bind (M.iter (m_nilometerkit_Mixed_b0 s_bytes n) (s_used, s_mix, 0, [])) fun (l2, l3, s4, s5) =>
  M.pure (l3, s4, s5)
set_option maxRecDepth 100000 in
set_option maxHeartbeats 16000000 in
theorem nilometerkit_Mixed_ok {R : List Chunk} {b_s : Nat} {C_s_bytes : Cells} {v_s_bytes : Value} (s_bytes : List UInt8) (s_used : Int) (s_mix : Int) (n : Int) (hC_s_bytes : Reads R C_s_bytes) (hs_s_bytes : Sl C_s_bytes v_s_bytes s_bytes) {r : ((List Int) × Int × Int)} (hM : (m_nilometerkit_Mixed s_bytes s_used s_mix n).Ends r) (w : World) (H : St w w [cBlk b_s [v_s_bytes, I s_used, I s_mix] 109] R) : Ret Try.prog 20 #[.pointer (some ⟨b_s, 0, none⟩), I n] w fun v w' => ∃ (y0 : List Int) (y1 : Int) (y2 : Int) (u0 : Value), (y0, y1, y2) = r ∧ v = u0 ∧ St w w' [cOwn (α := Int) 3 u0 y0, cBlk b_s [v_s_bytes, I y1, I y2] 109] R := by
 refine ret_of_W Try.func20 rfl rfl rfl ?_
 refine W.seq ?_
 refine W.region rfl ?_
 refine s_val (x_as (v := .slice none 0 0) rfl) ?_
 refine s_nil ?_
 refine W.seq ?_
 refine W.region rfl ?_
 refine s_val (x_as (v := .slice none 0 0) rfl) ?_
 refine s_nil ?_
 refine W.seq ?_
 refine W.seq ?_
 refine W.region rfl ?_
 refine s_val (x_as (v := I 0) rfl) ?_
 refine s_nil ?_
 refine W.block ?_
 replace H : St w w [cOwn (α := Int) 3 (.slice none 0 0) ([]), cBlk b_s [v_s_bytes, I s_used, I s_mix] 109] R := H.nilOwn (α := Int) 3
 obtain ⟨ex1z, hi2z, hk3z⟩ := M.e_bind hM
 obtain ⟨m0_, hi2z⟩ := M.e_iter hi2z
 refine W.loop (fun m σ W => ∃ (s2 : Int) (s3 : Int) (i : Nat) (l : List Int) (v_l : Value) (ρ : Env), σ = upds ρ [(0, .pointer (some ⟨b_s, 0, none⟩)), (1, I n), (5, v_l), (6, I (i : Int))] ∧ M.iterN (m_nilometerkit_Mixed_b0 s_bytes n) m (s2, s3, i, l) = some ex1z ∧ St w W [cOwn (α := Int) 3 v_l l, cBlk b_s [v_s_bytes, I s2, I s3] 109] R) ?_ ?_
 ·exact ⟨_, s_used, s_mix, 0, [], (.slice none 0 0), _, upds_of _ _ ⟨rfl, rfl, rfl, rfl, trivial⟩, hi2z, H⟩
 ·rintro m6z σ w4z ⟨s2, s3, i, l, v_l, ρ, rfl, hI5z, H⟩
  obtain ⟨m7z, lt8z, x9z, hM, hN10z⟩ := M.e_iterN hI5z
  simp only [m_nilometerkit_Mixed_b0] at hM
  clear hI5z
  refine W.seq ?_
  refine W.seq ?_
  refine W.region rfl ?_
  refine s_val (x_mv (v := I (i : Int)) rfl) ?_
  refine s_val (x_mv (v := I n) rfl) ?_
  refine s_val (x_cmp (kd := .i64) (a := (i : Int)) (b := n) (r := decide ((i : Int) < n)) rfl rfl rfl) ?_
  refine s_nil ?_
  refine W.cond (decide ((i : Int) < n)) rfl (fun c11z => ?_) (fun c11z => ?_)
  ·replace hM := M.e_t hM c11z
   simp only [decide_eq_true_eq, decide_eq_false_iff_not, beq_iff_eq, bne_iff_ne, beq_eq_false_iff_ne, bne_eq_false_iff_eq, ne_eq, Decidable.not_not] at c11z
   refine W.skip ?_
   refine W.seq ?_
   refine W.block ?_
   refine W.seq ?_
   refine W.region rfl ?_
   refine s_val (x_mv (v := .pointer (some ⟨b_s, 0, none⟩)) rfl) ?_
   refine s_val (x_mv (v := I (i : Int)) rfl) ?_
   obtain ⟨sd12z, hM⟩ := M.e_grd hM
   simp only [Bool.and_eq_true, decide_eq_true_eq] at sd12z
   refine s_val (x_ari (a := (i : Int)) (b := 1) (r := (i : Int) + 1) rfl rfl rfl (by omega)) ?_
   obtain ⟨r14z, hx13z, hM⟩ := M.e_bind hM
   refine s_call cf14 [.pointer (some ⟨b_s, 0, none⟩), I ((i : Int) + 1)] rfl (nilometerkit_Stream_Next_ok s_bytes s2 s3 ((i : Int) + 1) (hC_s_bytes.app _) hs_s_bytes hx13z _ (St.give (L := [cBlk b_s [v_s_bytes, I s2, I s3] 109, cOwn (α := Int) 3 v_l l]) (A := [cBlk b_s [v_s_bytes, I s2, I s3] 109]) (T := [cOwn (α := Int) 3 v_l l]) (H.pick [1, 0] (by decide) rfl) rfl)) ?_
   rintro vq w15z ⟨r2, q1, q2, hr16z, hvq, H2_⟩
   subst hr16z
   subst vq
   try dsimp only at hM
   replace H : St w w15z [cBlk b_s [v_s_bytes, I q1, I q2] 109, cOwn (α := Int) 3 v_l l] R := H.pick [1, 0] (by decide) rfl |>.back H2_ rfl
   clear H2_
   refine s_val (x_as (v := I r2) rfl) ?_
   refine s_nil ?_
   refine W.seq ?_
   refine W.region rfl ?_
   refine s_val (x_mv (v := v_l) rfl) ?_
   refine s_val (x_mv (v := I (i : Int)) rfl) ?_
   refine t_bs (α := Int) T26 [I (i : Int)] [(i : Int)] H rfl (.cons rfl (Flat.rep_enc _ (i : Int)) <| .nil) rfl rfl rfl ?_
   intro v17z w18z H
   obtain ⟨sd19z, hM⟩ := M.e_grd hM
   simp only [Bool.and_eq_true, decide_eq_true_eq] at sd19z
   refine t_app (α := Int) (k := 2) (l := l) (l2 := [(i : Int)]) (l' := l ++ ([(i : Int)])) (vy := v17z) T26 rfl H rfl rfl rfl (ownSl (H.get (k := 0) rfl)) (ownLe _ (H.get (k := 0) rfl)) (rfl) (by first | omega | (simp only [List.length_nil] at *; omega)) ?_
   intro v20z w21z H
   replace H : St w w21z [cOwn (α := Int) 3 v17z ([(i : Int)]), cBlk b_s [v_s_bytes, I q1, I q2] 109, cOwn (α := Int) 3 v20z (l ++ ([(i : Int)]))] R := H
   refine s_val (x_as (v := v20z) rfl) ?_
   refine s_nil ?_
   refine W.drawT (fun W => St w W [cOwn (α := Int) 3 v17z ([(i : Int)]), cBlk b_s [v_s_bytes, I q1, I q2] 109] R) (.q 0 (.q 1 (.q 2 (.q 3 (.q 4 (.q 5 (.q 8 (.q 9 (.l2 6 (.l2 7 (.l 10 (.l 11 (.l 12 (.l 13 (.l 14 (.l 15 .nil)))))) 10 (.l2 7 (.l 11 (.l 12 (.l 13 (.l 14 (.l 15 .nil))))) 11 (.l 7 (.l 12 (.l 13 (.l 14 (.l 15 .nil))))))) 10 (.l2 6 (.l2 7 (.l 11 (.l 12 (.l 13 (.l 14 (.l 15 .nil))))) 11 (.l 7 (.l 12 (.l 13 (.l 14 (.l 15 .nil)))))) 11 (.l 6 (.l 7 (.l 12 (.l 13 (.l 14 (.l 15 .nil)))))))))))))))) mixed (by decide +kernel) rfl ?_
   intro w22z hx_
   replace H : St w w22z [cOwn (α := Int) 3 v17z ([(i : Int)]), cBlk b_s [v_s_bytes, I q1, I q2] 109, cOwn (α := Int) 3 v20z (l ++ ([(i : Int)]))] R := H.ext hx_
   clear hx_
   refine ⟨(H.pick [0, 1] (by decide) rfl), ?_⟩
   refine t_q rfl (fun w' H => x_mv (v := v20z) rfl) ?_
   refine t_q rfl (fun w' H => x_mv (v := I (i : Int)) rfl) ?_
   refine t_q rfl (fun w' H => x_mv (v := v20z) rfl) ?_
   refine t_q rfl (fun w' H => x_mv (v := I r2) rfl) ?_
   refine t_q rfl (fun w' H => x_mv (v := v20z) rfl) ?_
   refine t_q rfl (fun w' H => x_mv (v := I r2) rfl) ?_
   refine t_q rfl (fun w' H => x_mv (v := v20z) rfl) ?_
   refine t_q rfl (fun w' H => x_mv (v := I (i : Int)) rfl) ?_
   obtain ⟨sd23z, hM⟩ := M.e_grd hM
   simp only [Bool.and_eq_true, decide_eq_true_eq] at sd23z
   obtain ⟨sd24z, hM⟩ := M.e_grd hM
   simp only [Bool.and_eq_true, decide_eq_true_eq] at sd24z
   obtain ⟨sd26z, hM⟩ := M.e_grd hM
   simp only [Bool.and_eq_true, decide_eq_true_eq] at sd26z
   refine t_l2 rfl rfl ?_ ?_
   ·skip
    refine s_val (x_ix (a := v20z) (b := I r2) (v := vat v20z 1 (Int.toNat r2)) rfl rfl (Sl.ix (α := Int) T26.und T26.size (ownSl (H.get (k := 2) rfl)) (by omega) (by omega))) ?_
    have hvc_q28z := Sl.cells (ownSl (H.get (k := 2) rfl))
    have hvo_q28z := Sl.oc (ownSl (H.get (k := 2) rfl))
    refine s_nil ⟨(H.pick [0, 1] (by decide) rfl), ?_⟩
    refine t_l2 rfl rfl ?_ ?_
    ·skip
     refine s_val (x_ld (p := vat v20z 1 (Int.toNat r2)) (v := I ((l ++ ([(i : Int)])).getD (Int.toNat r2) 0)) rfl (ld_sc Sc3 (At.mono (Int_at (ownSl (H.get (k := 2) rfl)) (i := r2) (by omega) (by omega)) (ownLe _ (H.get (k := 2) rfl))))) ?_
     refine s_nil ⟨(H.pick [0, 1] (by decide) rfl), ?_⟩
     refine t_l rfl ?_
     refine s_val (x_ix (a := v20z) (b := I (i : Int)) (v := vat v20z 1 (Int.toNat (i : Int))) rfl rfl (Sl.ix (α := Int) T26.und T26.size (ownSl (H.get (k := 2) rfl)) (by omega) (by omega))) ?_
     refine s_nil ⟨(H.pick [0, 1] (by decide) rfl), ?_⟩
     refine t_l rfl ?_
     refine s_val (x_ld (p := vat v20z 1 (Int.toNat (i : Int))) (v := I ((l ++ ([(i : Int)])).getD i 0)) rfl (ld_sc Sc3 (At.mono (Int_at (ownSl (H.get (k := 2) rfl)) (i := (i : Int)) (by omega) (by omega)) (ownLe _ (H.get (k := 2) rfl))))) ?_
     refine s_nil ⟨(H.pick [0, 1] (by decide) rfl), ?_⟩
     refine t_l rfl ?_
     refine s_val (x_ix (a := v20z) (b := I (i : Int)) (v := vat v20z 1 (Int.toNat (i : Int))) rfl rfl (Sl.ix (α := Int) T26.und T26.size (ownSl (H.get (k := 2) rfl)) (by omega) (by omega))) ?_
     refine s_nil ⟨(H.pick [0, 1] (by decide) rfl), ?_⟩
     refine t_l rfl ?_
     refine t_ost (k := 2) (i := (i : Int)) (l := l ++ ([(i : Int)])) (l' := (l ++ ([(i : Int)])).set i ((l ++ ([(i : Int)])).getD (Int.toNat r2) 0 : Int)) (val := I ((l ++ ([(i : Int)])).getD (Int.toNat r2) 0)) (L' := [cOwn (α := Int) 3 v17z ([(i : Int)]), cBlk b_s [v_s_bytes, I q1, I q2] 109, cOwn (α := Int) 3 v20z ((l ++ ([(i : Int)])).set i ((l ++ ([(i : Int)])).getD (Int.toNat r2) 0 : Int))]) H rfl Sz3 (by omega) (by omega) ((l ++ ([(i : Int)])).getD (Int.toNat r2) 0 : Int) rfl rfl rfl rfl rfl ?_
     intro w29z H
     refine s_nil ⟨(H.pick [0, 1] (by decide) rfl), ?_⟩
     refine t_l rfl ?_
     refine s_val (x_ix (a := v20z) (b := I r2) (v := vat v20z 1 (Int.toNat r2)) rfl rfl (Sl.ix (α := Int) T26.und T26.size (ownSl (H.get (k := 2) rfl)) (by omega) (by omega))) ?_
     refine s_nil ⟨(H.pick [0, 1] (by decide) rfl), ?_⟩
     refine t_l rfl ?_
     refine t_ost (k := 2) (i := r2) (l := (l ++ ([(i : Int)])).set i ((l ++ ([(i : Int)])).getD (Int.toNat r2) 0 : Int)) (l' := ((l ++ ([(i : Int)])).set i ((l ++ ([(i : Int)])).getD (Int.toNat r2) 0 : Int)).set (Int.toNat r2) ((l ++ ([(i : Int)])).getD i 0 : Int)) (val := I ((l ++ ([(i : Int)])).getD i 0)) (L' := [cOwn (α := Int) 3 v17z ([(i : Int)]), cBlk b_s [v_s_bytes, I q1, I q2] 109, cOwn (α := Int) 3 v20z (((l ++ ([(i : Int)])).set i ((l ++ ([(i : Int)])).getD (Int.toNat r2) 0 : Int)).set (Int.toNat r2) ((l ++ ([(i : Int)])).getD i 0 : Int))]) H rfl Sz3 (by omega) (by omega) ((l ++ ([(i : Int)])).getD i 0 : Int) rfl rfl rfl rfl rfl ?_
     intro w30z H
     refine s_nil ⟨(H.pick [0, 1] (by decide) rfl), ?_⟩
     refine t_nil ?_
     refine W.region rfl ?_
     refine s_val (x_mv (v := I (i : Int)) rfl) ?_
     refine s_val (x_ari (a := (i : Int)) (b := 1) (r := (i : Int) + 1) rfl rfl rfl (by omega)) ?_
     refine s_val (x_as (v := I ((i : Int) + 1)) rfl) ?_
     refine s_nil ?_
     exact ⟨m7z, lt8z, q1, q2, i + 1, ((l ++ ([(i : Int)])).set i ((l ++ ([(i : Int)])).getD (Int.toNat r2) 0 : Int)).set (Int.toNat r2) ((l ++ ([(i : Int)])).getD i 0 : Int), v20z, _, upds_of _ _ ⟨rfl, rfl, rfl, rfl, trivial⟩, M.e_inl hM hN10z, (H.pick [2, 1] (by decide) rfl)⟩
    ·skip
     refine s_val (x_ix (a := v20z) (b := I (i : Int)) (v := vat v20z 1 (Int.toNat (i : Int))) rfl rfl (Sl.ix (α := Int) T26.und T26.size (ownSl (H.get (k := 2) rfl)) (by omega) (by omega))) ?_
     refine s_nil ⟨(H.pick [0, 1] (by decide) rfl), ?_⟩
     refine t_l2 rfl rfl ?_ ?_
     ·skip
      refine s_val (x_ld (p := vat v20z 1 (Int.toNat r2)) (v := I ((l ++ ([(i : Int)])).getD (Int.toNat r2) 0)) rfl (ld_sc Sc3 (At.mono (Int_at (ownSl (H.get (k := 2) rfl)) (i := r2) (by omega) (by omega)) (ownLe _ (H.get (k := 2) rfl))))) ?_
      refine s_nil ⟨(H.pick [0, 1] (by decide) rfl), ?_⟩
      refine t_l rfl ?_
      refine s_val (x_ld (p := vat v20z 1 (Int.toNat (i : Int))) (v := I ((l ++ ([(i : Int)])).getD i 0)) rfl (ld_sc Sc3 (At.mono (Int_at (ownSl (H.get (k := 2) rfl)) (i := (i : Int)) (by omega) (by omega)) (ownLe _ (H.get (k := 2) rfl))))) ?_
      refine s_nil ⟨(H.pick [0, 1] (by decide) rfl), ?_⟩
      refine t_l rfl ?_
      refine s_val (x_ix (a := v20z) (b := I (i : Int)) (v := vat v20z 1 (Int.toNat (i : Int))) rfl rfl (Sl.ix (α := Int) T26.und T26.size (ownSl (H.get (k := 2) rfl)) (by omega) (by omega))) ?_
      refine s_nil ⟨(H.pick [0, 1] (by decide) rfl), ?_⟩
      refine t_l rfl ?_
      refine t_ost (k := 2) (i := (i : Int)) (l := l ++ ([(i : Int)])) (l' := (l ++ ([(i : Int)])).set i ((l ++ ([(i : Int)])).getD (Int.toNat r2) 0 : Int)) (val := I ((l ++ ([(i : Int)])).getD (Int.toNat r2) 0)) (L' := [cOwn (α := Int) 3 v17z ([(i : Int)]), cBlk b_s [v_s_bytes, I q1, I q2] 109, cOwn (α := Int) 3 v20z ((l ++ ([(i : Int)])).set i ((l ++ ([(i : Int)])).getD (Int.toNat r2) 0 : Int))]) H rfl Sz3 (by omega) (by omega) ((l ++ ([(i : Int)])).getD (Int.toNat r2) 0 : Int) rfl rfl rfl rfl rfl ?_
      intro w31z H
      refine s_nil ⟨(H.pick [0, 1] (by decide) rfl), ?_⟩
      refine t_l rfl ?_
      refine s_val (x_ix (a := v20z) (b := I r2) (v := vat v20z 1 (Int.toNat r2)) rfl rfl (Sl.ix (α := Int) T26.und T26.size (ownSl (H.get (k := 2) rfl)) (by omega) (by omega))) ?_
      refine s_nil ⟨(H.pick [0, 1] (by decide) rfl), ?_⟩
      refine t_l rfl ?_
      refine t_ost (k := 2) (i := r2) (l := (l ++ ([(i : Int)])).set i ((l ++ ([(i : Int)])).getD (Int.toNat r2) 0 : Int)) (l' := ((l ++ ([(i : Int)])).set i ((l ++ ([(i : Int)])).getD (Int.toNat r2) 0 : Int)).set (Int.toNat r2) ((l ++ ([(i : Int)])).getD i 0 : Int)) (val := I ((l ++ ([(i : Int)])).getD i 0)) (L' := [cOwn (α := Int) 3 v17z ([(i : Int)]), cBlk b_s [v_s_bytes, I q1, I q2] 109, cOwn (α := Int) 3 v20z (((l ++ ([(i : Int)])).set i ((l ++ ([(i : Int)])).getD (Int.toNat r2) 0 : Int)).set (Int.toNat r2) ((l ++ ([(i : Int)])).getD i 0 : Int))]) H rfl Sz3 (by omega) (by omega) ((l ++ ([(i : Int)])).getD i 0 : Int) rfl rfl rfl rfl rfl ?_
      intro w32z H
      refine s_nil ⟨(H.pick [0, 1] (by decide) rfl), ?_⟩
      refine t_nil ?_
      refine W.region rfl ?_
      refine s_val (x_mv (v := I (i : Int)) rfl) ?_
      refine s_val (x_ari (a := (i : Int)) (b := 1) (r := (i : Int) + 1) rfl rfl rfl (by omega)) ?_
      refine s_val (x_as (v := I ((i : Int) + 1)) rfl) ?_
      refine s_nil ?_
      exact ⟨m7z, lt8z, q1, q2, i + 1, ((l ++ ([(i : Int)])).set i ((l ++ ([(i : Int)])).getD (Int.toNat r2) 0 : Int)).set (Int.toNat r2) ((l ++ ([(i : Int)])).getD i 0 : Int), v20z, _, upds_of _ _ ⟨rfl, rfl, rfl, rfl, trivial⟩, M.e_inl hM hN10z, (H.pick [2, 1] (by decide) rfl)⟩
     ·skip
      refine s_val (x_ld (p := vat v20z 1 (Int.toNat (i : Int))) (v := I ((l ++ ([(i : Int)])).getD i 0)) rfl (ld_sc Sc3 (At.mono (Int_at (ownSl (H.get (k := 2) rfl)) (i := (i : Int)) (by omega) (by omega)) (ownLe _ (H.get (k := 2) rfl))))) ?_
      refine s_nil ⟨(H.pick [0, 1] (by decide) rfl), ?_⟩
      refine t_l rfl ?_
      refine s_val (x_ld (p := vat v20z 1 (Int.toNat r2)) (v := I ((l ++ ([(i : Int)])).getD (Int.toNat r2) 0)) rfl (ld_sc Sc3 (At.mono (Int_at (ownSl (H.get (k := 2) rfl)) (i := r2) (by omega) (by omega)) (ownLe _ (H.get (k := 2) rfl))))) ?_
      refine s_nil ⟨(H.pick [0, 1] (by decide) rfl), ?_⟩
      refine t_l rfl ?_
      refine s_val (x_ix (a := v20z) (b := I (i : Int)) (v := vat v20z 1 (Int.toNat (i : Int))) rfl rfl (Sl.ix (α := Int) T26.und T26.size (ownSl (H.get (k := 2) rfl)) (by omega) (by omega))) ?_
      refine s_nil ⟨(H.pick [0, 1] (by decide) rfl), ?_⟩
      refine t_l rfl ?_
      refine t_ost (k := 2) (i := (i : Int)) (l := l ++ ([(i : Int)])) (l' := (l ++ ([(i : Int)])).set i ((l ++ ([(i : Int)])).getD (Int.toNat r2) 0 : Int)) (val := I ((l ++ ([(i : Int)])).getD (Int.toNat r2) 0)) (L' := [cOwn (α := Int) 3 v17z ([(i : Int)]), cBlk b_s [v_s_bytes, I q1, I q2] 109, cOwn (α := Int) 3 v20z ((l ++ ([(i : Int)])).set i ((l ++ ([(i : Int)])).getD (Int.toNat r2) 0 : Int))]) H rfl Sz3 (by omega) (by omega) ((l ++ ([(i : Int)])).getD (Int.toNat r2) 0 : Int) rfl rfl rfl rfl rfl ?_
      intro w33z H
      refine s_nil ⟨(H.pick [0, 1] (by decide) rfl), ?_⟩
      refine t_l rfl ?_
      refine s_val (x_ix (a := v20z) (b := I r2) (v := vat v20z 1 (Int.toNat r2)) rfl rfl (Sl.ix (α := Int) T26.und T26.size (ownSl (H.get (k := 2) rfl)) (by omega) (by omega))) ?_
      refine s_nil ⟨(H.pick [0, 1] (by decide) rfl), ?_⟩
      refine t_l rfl ?_
      refine t_ost (k := 2) (i := r2) (l := (l ++ ([(i : Int)])).set i ((l ++ ([(i : Int)])).getD (Int.toNat r2) 0 : Int)) (l' := ((l ++ ([(i : Int)])).set i ((l ++ ([(i : Int)])).getD (Int.toNat r2) 0 : Int)).set (Int.toNat r2) ((l ++ ([(i : Int)])).getD i 0 : Int)) (val := I ((l ++ ([(i : Int)])).getD i 0)) (L' := [cOwn (α := Int) 3 v17z ([(i : Int)]), cBlk b_s [v_s_bytes, I q1, I q2] 109, cOwn (α := Int) 3 v20z (((l ++ ([(i : Int)])).set i ((l ++ ([(i : Int)])).getD (Int.toNat r2) 0 : Int)).set (Int.toNat r2) ((l ++ ([(i : Int)])).getD i 0 : Int))]) H rfl Sz3 (by omega) (by omega) ((l ++ ([(i : Int)])).getD i 0 : Int) rfl rfl rfl rfl rfl ?_
      intro w34z H
      refine s_nil ⟨(H.pick [0, 1] (by decide) rfl), ?_⟩
      refine t_nil ?_
      refine W.region rfl ?_
      refine s_val (x_mv (v := I (i : Int)) rfl) ?_
      refine s_val (x_ari (a := (i : Int)) (b := 1) (r := (i : Int) + 1) rfl rfl rfl (by omega)) ?_
      refine s_val (x_as (v := I ((i : Int) + 1)) rfl) ?_
      refine s_nil ?_
      exact ⟨m7z, lt8z, q1, q2, i + 1, ((l ++ ([(i : Int)])).set i ((l ++ ([(i : Int)])).getD (Int.toNat r2) 0 : Int)).set (Int.toNat r2) ((l ++ ([(i : Int)])).getD i 0 : Int), v20z, _, upds_of _ _ ⟨rfl, rfl, rfl, rfl, trivial⟩, M.e_inl hM hN10z, (H.pick [2, 1] (by decide) rfl)⟩
   ·skip
    refine s_val (x_ix (a := v20z) (b := I (i : Int)) (v := vat v20z 1 (Int.toNat (i : Int))) rfl rfl (Sl.ix (α := Int) T26.und T26.size (ownSl (H.get (k := 2) rfl)) (by omega) (by omega))) ?_
    have hvc_q35z := Sl.cells (ownSl (H.get (k := 2) rfl))
    have hvo_q35z := Sl.oc (ownSl (H.get (k := 2) rfl))
    refine s_nil ⟨(H.pick [0, 1] (by decide) rfl), ?_⟩
    refine t_l2 rfl rfl ?_ ?_
    ·skip
     refine s_val (x_ix (a := v20z) (b := I r2) (v := vat v20z 1 (Int.toNat r2)) rfl rfl (Sl.ix (α := Int) T26.und T26.size (ownSl (H.get (k := 2) rfl)) (by omega) (by omega))) ?_
     refine s_nil ⟨(H.pick [0, 1] (by decide) rfl), ?_⟩
     refine t_l2 rfl rfl ?_ ?_
     ·skip
      refine s_val (x_ld (p := vat v20z 1 (Int.toNat r2)) (v := I ((l ++ ([(i : Int)])).getD (Int.toNat r2) 0)) rfl (ld_sc Sc3 (At.mono (Int_at (ownSl (H.get (k := 2) rfl)) (i := r2) (by omega) (by omega)) (ownLe _ (H.get (k := 2) rfl))))) ?_
      refine s_nil ⟨(H.pick [0, 1] (by decide) rfl), ?_⟩
      refine t_l rfl ?_
      refine s_val (x_ld (p := vat v20z 1 (Int.toNat (i : Int))) (v := I ((l ++ ([(i : Int)])).getD i 0)) rfl (ld_sc Sc3 (At.mono (Int_at (ownSl (H.get (k := 2) rfl)) (i := (i : Int)) (by omega) (by omega)) (ownLe _ (H.get (k := 2) rfl))))) ?_
      refine s_nil ⟨(H.pick [0, 1] (by decide) rfl), ?_⟩
      refine t_l rfl ?_
      refine s_val (x_ix (a := v20z) (b := I (i : Int)) (v := vat v20z 1 (Int.toNat (i : Int))) rfl rfl (Sl.ix (α := Int) T26.und T26.size (ownSl (H.get (k := 2) rfl)) (by omega) (by omega))) ?_
      refine s_nil ⟨(H.pick [0, 1] (by decide) rfl), ?_⟩
      refine t_l rfl ?_
      refine t_ost (k := 2) (i := (i : Int)) (l := l ++ ([(i : Int)])) (l' := (l ++ ([(i : Int)])).set i ((l ++ ([(i : Int)])).getD (Int.toNat r2) 0 : Int)) (val := I ((l ++ ([(i : Int)])).getD (Int.toNat r2) 0)) (L' := [cOwn (α := Int) 3 v17z ([(i : Int)]), cBlk b_s [v_s_bytes, I q1, I q2] 109, cOwn (α := Int) 3 v20z ((l ++ ([(i : Int)])).set i ((l ++ ([(i : Int)])).getD (Int.toNat r2) 0 : Int))]) H rfl Sz3 (by omega) (by omega) ((l ++ ([(i : Int)])).getD (Int.toNat r2) 0 : Int) rfl rfl rfl rfl rfl ?_
      intro w36z H
      refine s_nil ⟨(H.pick [0, 1] (by decide) rfl), ?_⟩
      refine t_l rfl ?_
      refine s_val (x_ix (a := v20z) (b := I r2) (v := vat v20z 1 (Int.toNat r2)) rfl rfl (Sl.ix (α := Int) T26.und T26.size (ownSl (H.get (k := 2) rfl)) (by omega) (by omega))) ?_
      refine s_nil ⟨(H.pick [0, 1] (by decide) rfl), ?_⟩
      refine t_l rfl ?_
      refine t_ost (k := 2) (i := r2) (l := (l ++ ([(i : Int)])).set i ((l ++ ([(i : Int)])).getD (Int.toNat r2) 0 : Int)) (l' := ((l ++ ([(i : Int)])).set i ((l ++ ([(i : Int)])).getD (Int.toNat r2) 0 : Int)).set (Int.toNat r2) ((l ++ ([(i : Int)])).getD i 0 : Int)) (val := I ((l ++ ([(i : Int)])).getD i 0)) (L' := [cOwn (α := Int) 3 v17z ([(i : Int)]), cBlk b_s [v_s_bytes, I q1, I q2] 109, cOwn (α := Int) 3 v20z (((l ++ ([(i : Int)])).set i ((l ++ ([(i : Int)])).getD (Int.toNat r2) 0 : Int)).set (Int.toNat r2) ((l ++ ([(i : Int)])).getD i 0 : Int))]) H rfl Sz3 (by omega) (by omega) ((l ++ ([(i : Int)])).getD i 0 : Int) rfl rfl rfl rfl rfl ?_
      intro w37z H
      refine s_nil ⟨(H.pick [0, 1] (by decide) rfl), ?_⟩
      refine t_nil ?_
      refine W.region rfl ?_
      refine s_val (x_mv (v := I (i : Int)) rfl) ?_
      refine s_val (x_ari (a := (i : Int)) (b := 1) (r := (i : Int) + 1) rfl rfl rfl (by omega)) ?_
      refine s_val (x_as (v := I ((i : Int) + 1)) rfl) ?_
      refine s_nil ?_
      exact ⟨m7z, lt8z, q1, q2, i + 1, ((l ++ ([(i : Int)])).set i ((l ++ ([(i : Int)])).getD (Int.toNat r2) 0 : Int)).set (Int.toNat r2) ((l ++ ([(i : Int)])).getD i 0 : Int), v20z, _, upds_of _ _ ⟨rfl, rfl, rfl, rfl, trivial⟩, M.e_inl hM hN10z, (H.pick [2, 1] (by decide) rfl)⟩
     ·skip
      refine s_val (x_ld (p := vat v20z 1 (Int.toNat (i : Int))) (v := I ((l ++ ([(i : Int)])).getD i 0)) rfl (ld_sc Sc3 (At.mono (Int_at (ownSl (H.get (k := 2) rfl)) (i := (i : Int)) (by omega) (by omega)) (ownLe _ (H.get (k := 2) rfl))))) ?_
      refine s_nil ⟨(H.pick [0, 1] (by decide) rfl), ?_⟩
      refine t_l rfl ?_
      refine s_val (x_ld (p := vat v20z 1 (Int.toNat r2)) (v := I ((l ++ ([(i : Int)])).getD (Int.toNat r2) 0)) rfl (ld_sc Sc3 (At.mono (Int_at (ownSl (H.get (k := 2) rfl)) (i := r2) (by omega) (by omega)) (ownLe _ (H.get (k := 2) rfl))))) ?_
      refine s_nil ⟨(H.pick [0, 1] (by decide) rfl), ?_⟩
      refine t_l rfl ?_
      refine s_val (x_ix (a := v20z) (b := I (i : Int)) (v := vat v20z 1 (Int.toNat (i : Int))) rfl rfl (Sl.ix (α := Int) T26.und T26.size (ownSl (H.get (k := 2) rfl)) (by omega) (by omega))) ?_
      refine s_nil ⟨(H.pick [0, 1] (by decide) rfl), ?_⟩
      refine t_l rfl ?_
      refine t_ost (k := 2) (i := (i : Int)) (l := l ++ ([(i : Int)])) (l' := (l ++ ([(i : Int)])).set i ((l ++ ([(i : Int)])).getD (Int.toNat r2) 0 : Int)) (val := I ((l ++ ([(i : Int)])).getD (Int.toNat r2) 0)) (L' := [cOwn (α := Int) 3 v17z ([(i : Int)]), cBlk b_s [v_s_bytes, I q1, I q2] 109, cOwn (α := Int) 3 v20z ((l ++ ([(i : Int)])).set i ((l ++ ([(i : Int)])).getD (Int.toNat r2) 0 : Int))]) H rfl Sz3 (by omega) (by omega) ((l ++ ([(i : Int)])).getD (Int.toNat r2) 0 : Int) rfl rfl rfl rfl rfl ?_
      intro w38z H
      refine s_nil ⟨(H.pick [0, 1] (by decide) rfl), ?_⟩
      refine t_l rfl ?_
      refine s_val (x_ix (a := v20z) (b := I r2) (v := vat v20z 1 (Int.toNat r2)) rfl rfl (Sl.ix (α := Int) T26.und T26.size (ownSl (H.get (k := 2) rfl)) (by omega) (by omega))) ?_
      refine s_nil ⟨(H.pick [0, 1] (by decide) rfl), ?_⟩
      refine t_l rfl ?_
      refine t_ost (k := 2) (i := r2) (l := (l ++ ([(i : Int)])).set i ((l ++ ([(i : Int)])).getD (Int.toNat r2) 0 : Int)) (l' := ((l ++ ([(i : Int)])).set i ((l ++ ([(i : Int)])).getD (Int.toNat r2) 0 : Int)).set (Int.toNat r2) ((l ++ ([(i : Int)])).getD i 0 : Int)) (val := I ((l ++ ([(i : Int)])).getD i 0)) (L' := [cOwn (α := Int) 3 v17z ([(i : Int)]), cBlk b_s [v_s_bytes, I q1, I q2] 109, cOwn (α := Int) 3 v20z (((l ++ ([(i : Int)])).set i ((l ++ ([(i : Int)])).getD (Int.toNat r2) 0 : Int)).set (Int.toNat r2) ((l ++ ([(i : Int)])).getD i 0 : Int))]) H rfl Sz3 (by omega) (by omega) ((l ++ ([(i : Int)])).getD i 0 : Int) rfl rfl rfl rfl rfl ?_
      intro w39z H
      refine s_nil ⟨(H.pick [0, 1] (by decide) rfl), ?_⟩
      refine t_nil ?_
      refine W.region rfl ?_
      refine s_val (x_mv (v := I (i : Int)) rfl) ?_
      refine s_val (x_ari (a := (i : Int)) (b := 1) (r := (i : Int) + 1) rfl rfl rfl (by omega)) ?_
      refine s_val (x_as (v := I ((i : Int) + 1)) rfl) ?_
      refine s_nil ?_
      exact ⟨m7z, lt8z, q1, q2, i + 1, ((l ++ ([(i : Int)])).set i ((l ++ ([(i : Int)])).getD (Int.toNat r2) 0 : Int)).set (Int.toNat r2) ((l ++ ([(i : Int)])).getD i 0 : Int), v20z, _, upds_of _ _ ⟨rfl, rfl, rfl, rfl, trivial⟩, M.e_inl hM hN10z, (H.pick [2, 1] (by decide) rfl)⟩
    ·skip
     refine s_val (x_ld (p := vat v20z 1 (Int.toNat (i : Int))) (v := I ((l ++ ([(i : Int)])).getD i 0)) rfl (ld_sc Sc3 (At.mono (Int_at (ownSl (H.get (k := 2) rfl)) (i := (i : Int)) (by omega) (by omega)) (ownLe _ (H.get (k := 2) rfl))))) ?_
     refine s_nil ⟨(H.pick [0, 1] (by decide) rfl), ?_⟩
     refine t_l rfl ?_
     refine s_val (x_ix (a := v20z) (b := I r2) (v := vat v20z 1 (Int.toNat r2)) rfl rfl (Sl.ix (α := Int) T26.und T26.size (ownSl (H.get (k := 2) rfl)) (by omega) (by omega))) ?_
     refine s_nil ⟨(H.pick [0, 1] (by decide) rfl), ?_⟩
     refine t_l rfl ?_
     refine s_val (x_ld (p := vat v20z 1 (Int.toNat r2)) (v := I ((l ++ ([(i : Int)])).getD (Int.toNat r2) 0)) rfl (ld_sc Sc3 (At.mono (Int_at (ownSl (H.get (k := 2) rfl)) (i := r2) (by omega) (by omega)) (ownLe _ (H.get (k := 2) rfl))))) ?_
     refine s_nil ⟨(H.pick [0, 1] (by decide) rfl), ?_⟩
     refine t_l rfl ?_
     refine s_val (x_ix (a := v20z) (b := I (i : Int)) (v := vat v20z 1 (Int.toNat (i : Int))) rfl rfl (Sl.ix (α := Int) T26.und T26.size (ownSl (H.get (k := 2) rfl)) (by omega) (by omega))) ?_
     refine s_nil ⟨(H.pick [0, 1] (by decide) rfl), ?_⟩
     refine t_l rfl ?_
     refine t_ost (k := 2) (i := (i : Int)) (l := l ++ ([(i : Int)])) (l' := (l ++ ([(i : Int)])).set i ((l ++ ([(i : Int)])).getD (Int.toNat r2) 0 : Int)) (val := I ((l ++ ([(i : Int)])).getD (Int.toNat r2) 0)) (L' := [cOwn (α := Int) 3 v17z ([(i : Int)]), cBlk b_s [v_s_bytes, I q1, I q2] 109, cOwn (α := Int) 3 v20z ((l ++ ([(i : Int)])).set i ((l ++ ([(i : Int)])).getD (Int.toNat r2) 0 : Int))]) H rfl Sz3 (by omega) (by omega) ((l ++ ([(i : Int)])).getD (Int.toNat r2) 0 : Int) rfl rfl rfl rfl rfl ?_
     intro w40z H
     refine s_nil ⟨(H.pick [0, 1] (by decide) rfl), ?_⟩
     refine t_l rfl ?_
     refine s_val (x_ix (a := v20z) (b := I r2) (v := vat v20z 1 (Int.toNat r2)) rfl rfl (Sl.ix (α := Int) T26.und T26.size (ownSl (H.get (k := 2) rfl)) (by omega) (by omega))) ?_
     refine s_nil ⟨(H.pick [0, 1] (by decide) rfl), ?_⟩
     refine t_l rfl ?_
     refine t_ost (k := 2) (i := r2) (l := (l ++ ([(i : Int)])).set i ((l ++ ([(i : Int)])).getD (Int.toNat r2) 0 : Int)) (l' := ((l ++ ([(i : Int)])).set i ((l ++ ([(i : Int)])).getD (Int.toNat r2) 0 : Int)).set (Int.toNat r2) ((l ++ ([(i : Int)])).getD i 0 : Int)) (val := I ((l ++ ([(i : Int)])).getD i 0)) (L' := [cOwn (α := Int) 3 v17z ([(i : Int)]), cBlk b_s [v_s_bytes, I q1, I q2] 109, cOwn (α := Int) 3 v20z (((l ++ ([(i : Int)])).set i ((l ++ ([(i : Int)])).getD (Int.toNat r2) 0 : Int)).set (Int.toNat r2) ((l ++ ([(i : Int)])).getD i 0 : Int))]) H rfl Sz3 (by omega) (by omega) ((l ++ ([(i : Int)])).getD i 0 : Int) rfl rfl rfl rfl rfl ?_
     intro w41z H
     refine s_nil ⟨(H.pick [0, 1] (by decide) rfl), ?_⟩
     refine t_nil ?_
     refine W.region rfl ?_
     refine s_val (x_mv (v := I (i : Int)) rfl) ?_
     refine s_val (x_ari (a := (i : Int)) (b := 1) (r := (i : Int) + 1) rfl rfl rfl (by omega)) ?_
     refine s_val (x_as (v := I ((i : Int) + 1)) rfl) ?_
     refine s_nil ?_
     exact ⟨m7z, lt8z, q1, q2, i + 1, ((l ++ ([(i : Int)])).set i ((l ++ ([(i : Int)])).getD (Int.toNat r2) 0 : Int)).set (Int.toNat r2) ((l ++ ([(i : Int)])).getD i 0 : Int), v20z, _, upds_of _ _ ⟨rfl, rfl, rfl, rfl, trivial⟩, M.e_inl hM hN10z, (H.pick [2, 1] (by decide) rfl)⟩
  ·replace hM := M.e_f hM c11z
   simp only [decide_eq_true_eq, decide_eq_false_iff_not, beq_iff_eq, bne_iff_ne, beq_eq_false_iff_ne, bne_eq_false_iff_eq, ne_eq, Decidable.not_not] at c11z
   refine W.exit ?_
   have hX42z := M.e_inr hM hN10z
   subst hX42z
   replace hM := hk3z
   try dsimp only at hM
   refine W.seq ?_
   refine W.region rfl ?_
   refine s_val (x_mv (v := v_l) rfl) ?_
   refine s_val (x_as (v := v_l) rfl) ?_
   refine s_nil ?_
   refine W.ret ?_
   have hr_ := M.e_pure hM
   exact ⟨_, resE_tmp rfl, ⟨l, s2, s3, v_l, hr_, rfl, H⟩⟩

def m_slices_Index_level_Move_b0 (s : List Mv) (v : Mv) : Nat → M (Nat ⊕ (Int ⊕ Unit)) := fun s2 =>
  bif decide ((s2 : Int) < (s.length : Int)) then (
  M.grd (decide ((s2 : Int) < (s.length : Int))) <|
  bif decide (v = (s.getD s2 default)) then (
  M.pure (.inr (.inl (s2 : Int))))
  else (
  M.pure (.inl (s2 + 1))))
  else (
  M.pure (.inr (.inr ())))
def m_slices_Index_level_Move (s : List Mv) (v : Mv) : M Int :=
  M.bind (M.iter (m_slices_Index_level_Move_b0 s v) 0) fun x_ => match x_ with
  | (.inl s3) => (
  M.pure s3)
  | (.inr (_ : Unit)) => (
  M.pure (-1))
set_option maxRecDepth 100000 in
set_option maxHeartbeats 16000000 in
theorem slices_Index_level_Move_ok {R : List Chunk} {C_s : Cells} {v_s : Value} (s : List Mv) (v : Mv) (hC_s : Reads R C_s) (hs_s : Sl C_s v_s s) {r : Int} (hM : (m_slices_Index_level_Move s v).Ends r) (w : World) (H : St w w [] R) : Ret Try.prog 64 #[v_s, .agg #[I v.mark, I v.day]] w fun v w' => ∃ (y0 : Int), y0 = r ∧ v = I y0 ∧ St w w' [] R := by
 refine ret_of_W Try.func64 rfl rfl rfl ?_
 refine W.seq ?_
 refine W.region rfl ?_
 refine t_box (v := .agg #[I v.mark, I v.day]) (cs := [I v.mark, I v.day]) H rfl rfl ?_
 intro b_1 w1z H
 refine s_val (x_as (v := I 0) rfl) ?_
 refine s_nil ?_
 refine W.seq ?_
 refine W.seq ?_
 refine W.region rfl ?_
 refine s_val (x_mv (v := v_s) rfl) ?_
 have hl2z := (hs_s).len_le
 refine s_val (x_lenS T46.und rfl hs_s) ?_
 refine s_val (x_mv (v := I 0) rfl) ?_
 refine s_nil ?_
 refine W.block ?_
 obtain ⟨ex3z, hi4z, hk5z⟩ := M.e_bind hM
 obtain ⟨m0_, hi4z⟩ := M.e_iter hi4z
 refine W.loop (fun m σ W => ∃ (s2 : Nat) (ρ : Env), σ = upds ρ [(0, v_s), (3, .pointer (some ⟨b_1, 0, none⟩)), (7, I (s.length : Int)), (8, I (s2 : Int))] ∧ M.iterN (m_slices_Index_level_Move_b0 s v) m s2 = some ex3z ∧ St w W [cBlk b_1 [I v.mark, I v.day] 50] R) ?_ ?_
 ·exact ⟨_, 0, _, upds_of _ _ ⟨rfl, rfl, rfl, rfl, trivial⟩, hi4z, H⟩
 ·rintro m8z σ w6z ⟨s2, ρ, rfl, hI7z, H⟩
  obtain ⟨m9z, lt10z, x11z, hM, hN12z⟩ := M.e_iterN hI7z
  simp only [m_slices_Index_level_Move_b0] at hM
  clear hI7z
  refine W.seq ?_
  refine W.region rfl ?_
  refine s_val (x_cmp (kd := .i64) (a := (s2 : Int)) (b := (s.length : Int)) (r := decide ((s2 : Int) < (s.length : Int))) rfl rfl rfl) ?_
  refine s_nil ?_
  refine W.seq ?_
  refine W.cond (decide ((s2 : Int) < (s.length : Int))) rfl (fun c13z => ?_) (fun c13z => ?_)
  ·replace hM := M.e_t hM c13z
   simp only [decide_eq_true_eq, decide_eq_false_iff_not, beq_iff_eq, bne_iff_ne, beq_eq_false_iff_ne, bne_eq_false_iff_eq, ne_eq, Decidable.not_not] at c13z
   refine W.skip ?_
   refine W.seq ?_
   refine W.block ?_
   refine W.seq ?_
   refine W.region rfl ?_
   refine s_val (x_mv (v := I (s2 : Int)) rfl) ?_
   refine s_val (x_as (v := I (s2 : Int)) rfl) ?_
   refine s_nil ?_
   refine W.seq ?_
   refine W.draw (fun W => St w W [cBlk b_1 [I v.mark, I v.day] 50] R) [(0, true), (1, true), (2, true), (3, true), (4, true), (5, true)] mixed (by decide +kernel) rfl ?_
   intro w14z hx_
   replace H : St w w14z [cBlk b_1 [I v.mark, I v.day] 50] R := H.ext hx_
   clear hx_
   refine ⟨(H.pick [0] (by decide) rfl), ?_⟩
   refine d_q rfl (fun w' H => x_ld (p := .pointer (some ⟨b_1, 0, none⟩)) (v := .agg #[I v.mark, I v.day]) rfl (ldb_ag (ds := [I v.mark, I v.day]) Ag50 Sz50 (H.blk (k := 0) rfl) rfl rfl)) ?_
   refine d_q rfl (fun w' H => x_mv (v := v_s) rfl) ?_
   refine d_q rfl (fun w' H => x_mv (v := I (s2 : Int)) rfl) ?_
   obtain ⟨sd15z, hM⟩ := M.e_grd hM
   simp only [Bool.and_eq_true, decide_eq_true_eq] at sd15z
   refine d_q rfl (fun w' H => x_ix (a := v_s) (b := I (s2 : Int)) (v := vat v_s 2 (Int.toNat (s2 : Int))) rfl rfl (Sl.ix (α := Mv) T46.und T46.size hs_s (by omega) (by omega))) ?_
   refine d_q rfl (fun w' H => x_ld (p := vat v_s 2 (Int.toNat (s2 : Int))) (v := .agg #[I ((s.getD s2 default).mark), I ((s.getD s2 default).day)]) rfl (ld_ag Ag50 Sz50 (At.mono (Mv_atA hs_s (i := (s2 : Int)) (by omega) (by omega)) (hC_s.at H)))) ?_
   refine d_q rfl (fun w' H => x_eqS (eqT50 v (s.getD s2 default) _) gdT50 rfl rfl) ?_
   refine d_nil ?_
   refine W.cond (decide (v = (s.getD s2 default))) rfl (fun c16z => ?_) (fun c16z => ?_)
   ·replace hM := M.e_t hM c16z
    simp only [decide_eq_true_eq, decide_eq_false_iff_not, beq_iff_eq, bne_iff_ne, beq_eq_false_iff_ne, bne_eq_false_iff_eq, ne_eq, Decidable.not_not] at c16z
    refine W.seq ?_
    refine W.region rfl ?_
    refine s_val (x_mv (v := I (s2 : Int)) rfl) ?_
    refine s_val (x_as (v := I (s2 : Int)) rfl) ?_
    refine s_nil ?_
    refine W.ret ?_
    have hX17z := M.e_inr hM hN12z
    subst hX17z
    replace hM := hk5z
    try dsimp only at hM
    have hr_ := M.e_pure hM
    exact ⟨_, resE_tmp rfl, ⟨(s2 : Int), hr_, rfl, (H.pick [] (by decide) rfl)⟩⟩
   ·replace hM := M.e_f hM c16z
    simp only [decide_eq_true_eq, decide_eq_false_iff_not, beq_iff_eq, bne_iff_ne, beq_eq_false_iff_ne, bne_eq_false_iff_eq, ne_eq, Decidable.not_not] at c16z
    refine W.skip ?_
    refine W.region rfl ?_
    refine s_val (x_ari (a := (s2 : Int)) (b := 1) (r := (s2 : Int) + 1) rfl rfl rfl (by omega)) ?_
    refine s_val (x_mv (v := I ((s2 : Int) + 1)) rfl) ?_
    refine s_nil ?_
    exact ⟨m9z, lt10z, s2 + 1, _, upds_of _ _ ⟨rfl, rfl, rfl, rfl, trivial⟩, M.e_inl hM hN12z, H⟩
  ·replace hM := M.e_f hM c13z
   simp only [decide_eq_true_eq, decide_eq_false_iff_not, beq_iff_eq, bne_iff_ne, beq_eq_false_iff_ne, bne_eq_false_iff_eq, ne_eq, Decidable.not_not] at c13z
   refine W.exit ?_
   have hX18z := M.e_inr hM hN12z
   subst hX18z
   replace hM := hk5z
   try dsimp only at hM
   refine W.seq ?_
   refine W.region rfl ?_
   refine s_val (x_as (v := I (-1)) rfl) ?_
   refine s_nil ?_
   refine W.ret ?_
   have hr_ := M.e_pure hM
   exact ⟨_, resE_tmp rfl, ⟨(-1), hr_, rfl, (H.pick [] (by decide) rfl)⟩⟩

def m_slices_Contains_level_Move (s : List Mv) (v : Mv) : M Bool :=
  M.bind (m_slices_Index_level_Move s v) fun r2 =>
  M.pure (decide (0 ≤ r2))
set_option maxRecDepth 100000 in
set_option maxHeartbeats 16000000 in
theorem slices_Contains_level_Move_ok {R : List Chunk} {C_s : Cells} {v_s : Value} (s : List Mv) (v : Mv) (hC_s : Reads R C_s) (hs_s : Sl C_s v_s s) {r : Bool} (hM : (m_slices_Contains_level_Move s v).Ends r) (w : World) (H : St w w [] R) : Ret Try.prog 22 #[v_s, .agg #[I v.mark, I v.day]] w fun v w' => ∃ (y0 : Bool), y0 = r ∧ v = B y0 ∧ St w w' [] R := by
 refine ret_of_W Try.func22 rfl rfl rfl ?_
 refine W.seq ?_
 refine W.region rfl ?_
 refine t_box (v := .agg #[I v.mark, I v.day]) (cs := [I v.mark, I v.day]) H rfl rfl ?_
 intro b_1 w1z H
 refine s_val (x_as (v := B false) rfl) ?_
 refine s_nil ?_
 refine W.seq ?_
 refine W.region rfl ?_
 refine s_val (x_mv (v := v_s) rfl) ?_
 refine s_val (x_ld (p := .pointer (some ⟨b_1, 0, none⟩)) (v := .agg #[I v.mark, I v.day]) rfl (ldb_ag (ds := [I v.mark, I v.day]) Ag50 Sz50 (H.blk (k := 0) rfl) rfl rfl)) ?_
 obtain ⟨r3z, hx2z, hM⟩ := M.e_bind hM
 refine s_call cf64 [v_s, .agg #[I v.mark, I v.day]] rfl (slices_Index_level_Move_ok s v (hC_s.app _) hs_s hx2z _ (St.give (T := [cBlk b_1 [I v.mark, I v.day] 50]) H rfl)) ?_
 rintro vq w4z ⟨r2, hr5z, hvq, H2_⟩
 subst hr5z
 subst vq
 try dsimp only at hM
 replace H : St w w4z [cBlk b_1 [I v.mark, I v.day] 50] R := H.back H2_ rfl
 clear H2_
 refine s_val (x_cmp (kd := .i64) (a := r2) (b := 0) (r := decide (0 ≤ r2)) rfl rfl rfl) ?_
 refine s_val (x_as (v := B (decide (0 ≤ r2))) rfl) ?_
 refine s_nil ?_
 refine W.ret ?_
 have hr_ := M.e_pure hM
 exact ⟨_, resE_tmp rfl, ⟨(decide (0 ≤ r2)), hr_, rfl, (H.pick [] (by decide) rfl)⟩⟩

def m_nilometerlaw01_LevelTurned_b0 (wrong : List UInt8) (r3 : Int) : ((List Line) × Int × Int × Nat) → M (((List Line) × Int × Int × Nat) ⊕ ((List Line) × Int × Int × (List Line))) := fun (l, s, s2, s3) =>
  bif decide ((s3 : Int) < r3) then (
  M.bind (m_nilometerkit_Stream_Next wrong s s2 (l.length : Int)) fun (r4, q13, q23) =>
  M.grd (decide ((0 : Int) ≤ r4) && decide (r4 < (l.length : Int))) <|
  M.bind (m_nilometerkit_Stream_Within wrong q13 q23 (-60) 60) fun (r5, q14, q24) =>
  M.grd (decide ((-9223372036854775808 : Int) ≤ (((l.getD (Int.toNat r4) default).rise) + r5)) && decide ((((l.getD (Int.toNat r4) default).rise) + r5) ≤ (9223372036854775807 : Int))) <|
  M.grd (decide ((-9223372036854775808 : Int) ≤ ((s3 : Int) + 1)) && decide (((s3 : Int) + 1) ≤ (9223372036854775807 : Int))) <|
  M.pure (.inl (l.set (Int.toNat r4) ({ (l.getD (Int.toNat r4) default) with rise := ((l.getD (Int.toNat r4) default).rise) + r5 }), q14, q24, s3 + 1)))
  else (
  M.pure (.inr (l, s, s2, l)))
def m_nilometerlaw01_LevelTurned_j3 (l3 : List Line) (r7 : List Int) (s11 : Nat) (l4 : List Line) (q17 : Int) (q27 : Int) (s6 : Int) (s7 : Int) (s8 : Int) : M ((Int × Int × Nat × (List Line)) ⊕ ((List Line) × (List Line) × Int × Int)) :=
  M.grd (decide ((l4.length + ([(⟨(s6 : Int), (s7 : Int), ((l3.getD (Int.toNat (r7.getD s11 0)) default).day : Int), (s8 : Int), ((l3.getD (Int.toNat (r7.getD s11 0)) default).err : Int)⟩ : Line)]).length) * 40 ≤ 140737488355328)) <|
  M.pure (.inl (q17, q27, s11 + 1, l4 ++ ([(⟨(s6 : Int), (s7 : Int), ((l3.getD (Int.toNat (r7.getD s11 0)) default).day : Int), (s8 : Int), ((l3.getD (Int.toNat (r7.getD s11 0)) default).err : Int)⟩ : Line)])))
def m_nilometerlaw01_LevelTurned_b4 (names : List UInt8) (l3 : List Line) (r6 : List Int) (r7 : List Int) : (Int × Int × Nat × (List Line)) → M ((Int × Int × Nat × (List Line)) ⊕ ((List Line) × (List Line) × Int × Int)) := fun (s9, s10, s11, l4) =>
  bif decide ((s11 : Int) < (r7.length : Int)) then (
  M.grd (decide ((s11 : Int) < (r7.length : Int))) <|
  M.grd (decide ((0 : Int) ≤ (r7.getD s11 0)) && decide ((r7.getD s11 0) < (l3.length : Int))) <|
  M.grd (decide ((0 : Int) ≤ ((l3.getD (Int.toNat (r7.getD s11 0)) default).src)) && decide (((l3.getD (Int.toNat (r7.getD s11 0)) default).src) < (r6.length : Int))) <|
  M.grd (decide ((0 : Int) ≤ ((l3.getD (Int.toNat (r7.getD s11 0)) default).dst)) && decide (((l3.getD (Int.toNat (r7.getD s11 0)) default).dst) < (r6.length : Int))) <|
  M.bind (m_nilometerkit_Stream_Next names s9 s10 2) fun (r8, q17, q27) =>
  bif r8 == 0 then (
  M.grd (decide (-9223372036854775807 ≤ ((l3.getD (Int.toNat (r7.getD s11 0)) default).rise)) && decide (((l3.getD (Int.toNat (r7.getD s11 0)) default).rise) ≤ 9223372036854775807)) <|
  m_nilometerlaw01_LevelTurned_j3 l3 r7 s11 l4 q17 q27 (r6.getD (Int.toNat ((l3.getD (Int.toNat (r7.getD s11 0)) default).dst)) 0) (r6.getD (Int.toNat ((l3.getD (Int.toNat (r7.getD s11 0)) default).src)) 0) (-((l3.getD (Int.toNat (r7.getD s11 0)) default).rise)))
  else (
  m_nilometerlaw01_LevelTurned_j3 l3 r7 s11 l4 q17 q27 (r6.getD (Int.toNat ((l3.getD (Int.toNat (r7.getD s11 0)) default).src)) 0) (r6.getD (Int.toNat ((l3.getD (Int.toNat (r7.getD s11 0)) default).dst)) 0) ((l3.getD (Int.toNat (r7.getD s11 0)) default).rise)))
  else (
  M.pure (.inr (l4, l4, s9, s10)))
def m_nilometerlaw01_LevelTurned_j9 (s14 : Nat) (r002 : Int) (r012 : Int) (r15 : Int) (r003 : Int) (r013 : Int) (r16 : Int) : M (Nat ⊕ (Unit ⊕ Unit)) :=
  bif ((!(decide ((⟨(r002 : Int), (r012 : Int)⟩ : Span) = (⟨(r003 : Int), (r013 : Int)⟩ : Span)))) || (r15 != r16)) then (
  M.pure (.inr (.inl ())))
  else (
  M.grd (decide ((-9223372036854775808 : Int) ≤ ((s14 : Int) + 1)) && decide (((s14 : Int) + 1) ≤ (9223372036854775807 : Int))) <|
  M.pure (.inl (s14 + 1)))
def m_nilometerlaw01_LevelTurned_b10 (r00 : Int) (l3 : List Line) (r6 : List Int) (l6 : List Line) (s15 : Nat) : Nat → M (Nat ⊕ (Unit ⊕ Unit)) := fun s14 =>
  bif decide ((s14 : Int) < r00) then (
  M.bind (m_level_Between r00 l3 (s15 : Int) (s14 : Int)) fun (r002, r012, r15) =>
  M.grd (decide ((s15 : Int) < (r6.length : Int))) <|
  M.grd (decide ((s14 : Int) < (r6.length : Int))) <|
  M.bind (m_level_Between r00 l6 (r6.getD s15 0) (r6.getD s14 0)) fun (r003, r013, r16) =>
  m_nilometerlaw01_LevelTurned_j9 s14 r002 r012 r15 r003 r013 r16)
  else (
  M.pure (.inr (.inr ())))
def m_nilometerlaw01_LevelTurned_b11 (r00 : Int) (l3 : List Line) (r6 : List Int) (l6 : List Line) : Nat → M (Nat ⊕ (Unit ⊕ Unit)) := fun s15 =>
  bif decide ((s15 : Int) < r00) then (
  M.bind (M.iter (m_nilometerlaw01_LevelTurned_b10 r00 l3 r6 l6 s15) 0) fun x_ => match x_ with
  | (.inl (_ : Unit)) => (
  M.pure (.inr (.inl ())))
  | (.inr (_ : Unit)) => (
  M.grd (decide ((-9223372036854775808 : Int) ≤ ((s15 : Int) + 1)) && decide (((s15 : Int) + 1) ≤ (9223372036854775807 : Int))) <|
  M.pure (.inl (s15 + 1))))
  else (
  M.pure (.inr (.inr ())))
def m_nilometerlaw01_LevelTurned_b12 (r6 : List Int) (r0 : List Mv) (r02 : List Mv) : Nat → M (Nat ⊕ (Unit ⊕ Unit)) := fun s16 =>
  bif decide ((s16 : Int) < (r0.length : Int)) then (
  M.grd (decide ((s16 : Int) < (r0.length : Int))) <|
  M.grd ((!(!((decide (((r0.getD s16 default).mark) < 0)) || (decide ((r6.length : Int) ≤ ((r0.getD s16 default).mark))))) || (decide ((0 : Int) ≤ ((r0.getD s16 default).mark)) && decide (((r0.getD s16 default).mark) < (r6.length : Int))))) <|
  M.bind (M.opt (!((decide (((r0.getD s16 default).mark) < 0)) || (decide ((r6.length : Int) ≤ ((r0.getD s16 default).mark))))) (m_slices_Contains_level_Move r02 (⟨(r6.getD (Int.toNat ((r0.getD s16 default).mark)) 0 : Int), ((r0.getD s16 default).day : Int)⟩ : Mv)) false) fun r9 =>
  bif (((decide (((r0.getD s16 default).mark) < 0)) || (decide ((r6.length : Int) ≤ ((r0.getD s16 default).mark)))) || (!r9)) then (
  M.pure (.inr (.inl ())))
  else (
  M.pure (.inl (s16 + 1))))
  else (
  M.pure (.inr (.inr ())))
def m_nilometerlaw01_LevelTurned (numbers : List UInt8) (wrong : List UInt8) (names : List UInt8) : M Bool :=
  M.bind (m_nilometerkit_New numbers) fun (r1, r2) =>
  M.bind (m_nilometerlaw01_Made numbers r1 r2 8) fun (r00, r01, r12, q1, q2) =>
  M.bind (m_nilometerkit_New wrong) fun (r13, r22) =>
  M.bind (m_nilometerkit_New names) fun (r14, r23) =>
  M.bind (m_nilometerkit_Stream_Next wrong r13 r22 3) fun (r3, q12, q22) =>
  M.bind (M.iter (m_nilometerlaw01_LevelTurned_b0 wrong r3) (r01, q12, q22, 0)) fun (l2, s4, s5, l3) =>
  M.bind (m_nilometerkit_Mixed names r14 r23 r00) fun (r6, q15, q25) =>
  M.bind (m_nilometerkit_Mixed names q15 q25 (l3.length : Int)) fun (r7, q16, q26) =>
  M.bind (M.iter (m_nilometerlaw01_LevelTurned_b4 names l3 r6 r7) (q16, q26, 0, [])) fun (l5, l6, s12, s13) =>
  M.bind (M.iter (m_nilometerlaw01_LevelTurned_b11 r00 l3 r6 l6) 0) fun x_ => match x_ with
  | (.inl (_ : Unit)) => (
  M.pure false)
  | (.inr (_ : Unit)) => (
  M.bind (m_level_Moves r00 l3) fun (r0, r17) =>
  M.bind (m_level_Moves r00 l6) fun (r02, r18) =>
  bif ((r17 != r18) || ((r0.length : Int) != (r02.length : Int))) then (
  M.pure false)
  else (
  M.bind (M.iter (m_nilometerlaw01_LevelTurned_b12 r6 r0 r02) 0) fun x_ => match x_ with
  | (.inl (_ : Unit)) => (
  M.pure false)
  | (.inr (_ : Unit)) => (
  M.bind (m_nilometerlaw01_awake) fun r10 =>
  M.pure r10)))
set_option maxRecDepth 100000 in
set_option maxHeartbeats 16000000 in
theorem nilometerlaw01_LevelTurned_ok {R : List Chunk} {C_numbers : Cells} {v_numbers : Value} {C_wrong : Cells} {v_wrong : Value} {C_names : Cells} {v_names : Value} (numbers : List UInt8) (wrong : List UInt8) (names : List UInt8) (hC_numbers : Reads R C_numbers) (hs_numbers : Sl C_numbers v_numbers numbers) (hC_wrong : Reads R C_wrong) (hs_wrong : Sl C_wrong v_wrong wrong) (hC_names : Reads R C_names) (hs_names : Sl C_names v_names names) {r : Bool} (hM : (m_nilometerlaw01_LevelTurned numbers wrong names).Ends r) (w : World) (H : St w w [] R) : Ret Try.prog 5 #[v_numbers, v_wrong, v_names] w fun v w' => ∃ (y0 : Bool), y0 = r ∧ v = B y0 ∧ St w w' [] R := by
 refine ret_of_W Try.func5 rfl rfl rfl ?_
 refine W.seq ?_
 refine W.region rfl ?_
 refine s_val (x_as (v := B false) rfl) ?_
 refine s_nil ?_
 refine W.seq ?_
 refine W.region rfl ?_
 refine s_val (x_mv (v := v_numbers) rfl) ?_
 obtain ⟨r2z, hx1z, hM⟩ := M.e_bind hM
 refine s_call cf13 [v_numbers] rfl (nilometerkit_New_ok numbers (hC_numbers.app _) hs_numbers hx1z _ (St.give (T := []) H rfl)) ?_
 rintro vq w3z ⟨r1, r2, nb0_1, hr4z, hvq, H2_⟩
 subst hr4z
 subst vq
 try dsimp only at hM
 replace H : St w w3z [cBlk nb0_1 [v_numbers, I r1, I r2] 109] R := H.back H2_ rfl
 clear H2_
 obtain ⟨r6z, hx5z, hM⟩ := M.e_bind hM
 refine s_call cf12 [.pointer (some ⟨nb0_1, 0, none⟩), I 8] rfl (nilometerlaw01_Made_ok numbers r1 r2 8 (hC_numbers.app _) hs_numbers hx5z _ (St.give (T := []) H rfl)) ?_
 rintro vq w7z ⟨r00, r01, r12, q1, q2, u0_2, u1_3, hr8z, hvq, H2_⟩
 subst hr8z
 subst vq
 try dsimp only at hM
 replace H : St w w7z [cOwn (α := Line) 34 u0_2 r01, cOwn (α := Int) 3 u1_3 r12, cBlk nb0_1 [v_numbers, I q1, I q2] 109] R := H.back H2_ rfl
 clear H2_
 refine s_val (x_mv (v := .tuple #[.agg #[I r00, u0_2], u1_3]) rfl) ?_
 refine s_val (x_ext (vs := [.agg #[I r00, u0_2], u1_3]) (v := .agg #[I r00, u0_2]) rfl rfl) ?_
 refine s_val (x_ext (vs := [.agg #[I r00, u0_2], u1_3]) (v := u1_3) rfl rfl) ?_
 refine t_alloc (cs := [I 0, .slice none 0 0]) H Al25 rfl ?_
 intro b_4 w9z H
 refine t_st (k := 0) (b := b_4) (off := 0) (cs := [I 0, .slice none 0 0]) (vs := [I r00, u0_2]) (cs' := [I r00, u0_2]) (v := .agg #[I r00, u0_2]) (L' := [cBlk b_4 [I r00, u0_2] 25, cOwn (α := Line) 34 u0_2 r01, cOwn (α := Int) 3 u1_3 r12, cBlk nb0_1 [v_numbers, I q1, I q2] 109]) H rfl rfl rfl Sz25 rfl rfl rfl (by simp only [List.all_cons, List.all_nil, Bool.true_and, Bool.and_true, Sl.oc (ownSl (H.get (k := 1) rfl))]; try rfl) rfl rfl ?_
 intro w10z H
 refine s_val (x_as (v := u1_3) rfl) ?_
 refine s_nil ?_
 refine W.seq ?_
 refine W.region rfl ?_
 refine s_val (x_mv (v := v_wrong) rfl) ?_
 obtain ⟨r12z, hx11z, hM⟩ := M.e_bind hM
 refine s_call cf13 [v_wrong] rfl (nilometerkit_New_ok wrong (hC_wrong.app _) hs_wrong hx11z _ (St.give (T := [cBlk b_4 [I r00, u0_2] 25, cOwn (α := Line) 34 u0_2 r01, cOwn (α := Int) 3 u1_3 r12, cBlk nb0_1 [v_numbers, I q1, I q2] 109]) H rfl)) ?_
 rintro vq w13z ⟨r13, r22, nb0_5, hr14z, hvq, H2_⟩
 subst hr14z
 subst vq
 try dsimp only at hM
 replace H : St w w13z [cBlk nb0_5 [v_wrong, I r13, I r22] 109, cBlk b_4 [I r00, u0_2] 25, cOwn (α := Line) 34 u0_2 r01, cOwn (α := Int) 3 u1_3 r12, cBlk nb0_1 [v_numbers, I q1, I q2] 109] R := H.back H2_ rfl
 clear H2_
 refine s_val (x_mv (v := v_names) rfl) ?_
 obtain ⟨r16z, hx15z, hM⟩ := M.e_bind hM
 refine s_call cf13 [v_names] rfl (nilometerkit_New_ok names (hC_names.app _) hs_names hx15z _ (St.give (T := [cBlk nb0_5 [v_wrong, I r13, I r22] 109, cBlk b_4 [I r00, u0_2] 25, cOwn (α := Line) 34 u0_2 r01, cOwn (α := Int) 3 u1_3 r12, cBlk nb0_1 [v_numbers, I q1, I q2] 109]) H rfl)) ?_
 rintro vq w17z ⟨r14, r23, nb0_6, hr18z, hvq, H2_⟩
 subst hr18z
 subst vq
 try dsimp only at hM
 replace H : St w w17z [cBlk nb0_6 [v_names, I r14, I r23] 109, cBlk nb0_5 [v_wrong, I r13, I r22] 109, cBlk b_4 [I r00, u0_2] 25, cOwn (α := Line) 34 u0_2 r01, cOwn (α := Int) 3 u1_3 r12, cBlk nb0_1 [v_numbers, I q1, I q2] 109] R := H.back H2_ rfl
 clear H2_
 refine s_val (x_as (v := .pointer (some ⟨nb0_5, 0, none⟩)) rfl) ?_
 refine s_val (x_as (v := .pointer (some ⟨nb0_6, 0, none⟩)) rfl) ?_
 refine s_nil ?_
 refine W.seq ?_
 refine W.seq ?_
 refine W.region rfl ?_
 refine s_val (x_mv (v := .pointer (some ⟨nb0_5, 0, none⟩)) rfl) ?_
 obtain ⟨r20z, hx19z, hM⟩ := M.e_bind hM
 refine s_call cf14 [.pointer (some ⟨nb0_5, 0, none⟩), I 3] rfl (nilometerkit_Stream_Next_ok wrong r13 r22 3 (hC_wrong.app _) hs_wrong hx19z _ (St.give (L := [cBlk nb0_5 [v_wrong, I r13, I r22] 109, cBlk nb0_6 [v_names, I r14, I r23] 109, cBlk b_4 [I r00, u0_2] 25, cOwn (α := Line) 34 u0_2 r01, cOwn (α := Int) 3 u1_3 r12, cBlk nb0_1 [v_numbers, I q1, I q2] 109]) (A := [cBlk nb0_5 [v_wrong, I r13, I r22] 109]) (T := [cBlk nb0_6 [v_names, I r14, I r23] 109, cBlk b_4 [I r00, u0_2] 25, cOwn (α := Line) 34 u0_2 r01, cOwn (α := Int) 3 u1_3 r12, cBlk nb0_1 [v_numbers, I q1, I q2] 109]) (H.pick [1, 0, 2, 3, 4, 5] (by decide) rfl) rfl)) ?_
 rintro vq w21z ⟨r3, q12, q22, hr22z, hvq, H2_⟩
 subst hr22z
 subst vq
 try dsimp only at hM
 replace H : St w w21z [cBlk nb0_5 [v_wrong, I q12, I q22] 109, cBlk nb0_6 [v_names, I r14, I r23] 109, cBlk b_4 [I r00, u0_2] 25, cOwn (α := Line) 34 u0_2 r01, cOwn (α := Int) 3 u1_3 r12, cBlk nb0_1 [v_numbers, I q1, I q2] 109] R := H.pick [1, 0, 2, 3, 4, 5] (by decide) rfl |>.back H2_ rfl
 clear H2_
 refine s_val (x_mv (v := I 0) rfl) ?_
 refine s_nil ?_
 refine W.block ?_
 obtain ⟨ex23z, hi24z, hk25z⟩ := M.e_bind hM
 obtain ⟨m0_, hi24z⟩ := M.e_iter hi24z
 refine W.loop (fun m σ W => ∃ (l : List Line) (s : Int) (s2 : Int) (s3 : Nat) (v_l : Value) (ρ : Env), σ = upds ρ [(7, .pointer (some ⟨b_4, 0, none⟩)), (9, .pointer (some ⟨nb0_5, 0, none⟩)), (10, .pointer (some ⟨nb0_6, 0, none⟩)), (40, I r3), (41, I (s3 : Int))] ∧ M.iterN (m_nilometerlaw01_LevelTurned_b0 wrong r3) m (l, s, s2, s3) = some ex23z ∧ St w W [cBlk nb0_5 [v_wrong, I s, I s2] 109, cBlk nb0_6 [v_names, I r14, I r23] 109, cBlk b_4 [I r00, v_l] 25, cOwn (α := Line) 34 v_l l, cOwn (α := Int) 3 u1_3 r12, cBlk nb0_1 [v_numbers, I q1, I q2] 109] R) ?_ ?_
 ·exact ⟨_, r01, q12, q22, 0, u0_2, _, upds_of _ _ ⟨rfl, rfl, rfl, rfl, rfl, trivial⟩, hi24z, H⟩
 ·rintro m28z σ w26z ⟨l, s, s2, s3, v_l, ρ, rfl, hI27z, H⟩
  obtain ⟨m29z, lt30z, x31z, hM, hN32z⟩ := M.e_iterN hI27z
  simp only [m_nilometerlaw01_LevelTurned_b0] at hM
  clear hI27z
  refine W.seq ?_
  refine W.region rfl ?_
  refine s_val (x_cmp (kd := .i64) (a := (s3 : Int)) (b := r3) (r := decide ((s3 : Int) < r3)) rfl rfl rfl) ?_
  refine s_nil ?_
  refine W.seq ?_
  refine W.cond (decide ((s3 : Int) < r3)) rfl (fun c33z => ?_) (fun c33z => ?_)
  ·replace hM := M.e_t hM c33z
   simp only [decide_eq_true_eq, decide_eq_false_iff_not, beq_iff_eq, bne_iff_ne, beq_eq_false_iff_ne, bne_eq_false_iff_eq, ne_eq, Decidable.not_not] at c33z
   refine W.skip ?_
   refine W.seq ?_
   refine W.block ?_
   refine W.drawT (fun W => St w W [cBlk nb0_6 [v_names, I r14, I r23] 109, cBlk b_4 [I r00, v_l] 25, cOwn (α := Int) 3 u1_3 r12, cBlk nb0_1 [v_numbers, I q1, I q2] 109] R) (.q 0 (.q 1 (.q 2 (.q 3 (.q 4 (.q 10 (.l 5 (.l 6 (.l2 7 (.l2 8 (.l2 9 (.l 11 (.q 12 (.l 13 (.l 14 (.l 15 .nil))))) 11 (.l 9 (.q 12 (.l 13 (.l 14 (.l 15 .nil)))))) 11 (.l 8 (.l 9 (.q 12 (.l 13 (.l 14 (.l 15 .nil))))))) 11 (.l 7 (.l 8 (.l 9 (.q 12 (.l 13 (.l 14 (.l 15 .nil)))))))))))))))) mixed (by decide +kernel) rfl ?_
   intro w34z hx_
   replace H : St w w34z [cBlk nb0_5 [v_wrong, I s, I s2] 109, cBlk nb0_6 [v_names, I r14, I r23] 109, cBlk b_4 [I r00, v_l] 25, cOwn (α := Line) 34 v_l l, cOwn (α := Int) 3 u1_3 r12, cBlk nb0_1 [v_numbers, I q1, I q2] 109] R := H.ext hx_
   clear hx_
   refine ⟨(H.pick [1, 2, 4, 5] (by decide) rfl), ?_⟩
   refine t_q rfl (fun w' H => x_fa (a := .pointer (some ⟨b_4, 0, none⟩)) (v := .pointer (some ⟨b_4, 1, none⟩)) rfl (fa_blk (o := 0) Fd25_1 Sz23)) ?_
   refine t_q rfl (fun w' H => x_ld (p := .pointer (some ⟨b_4, 1, none⟩)) (v := v_l) rfl (ldb_sc Sc23 (H.blk (k := 1) rfl) rfl)) ?_
   refine t_q rfl (fun w' H => x_mv (v := .pointer (some ⟨nb0_5, 0, none⟩)) rfl) ?_
   refine t_q rfl (fun w' H => x_fa (a := .pointer (some ⟨b_4, 0, none⟩)) (v := .pointer (some ⟨b_4, 1, none⟩)) rfl (fa_blk (o := 0) Fd25_1 Sz23)) ?_
   refine t_q rfl (fun w' H => x_ld (p := .pointer (some ⟨b_4, 1, none⟩)) (v := v_l) rfl (ldb_sc Sc23 (H.blk (k := 1) rfl) rfl)) ?_
   refine t_q rfl (fun w' H => x_mv (v := .pointer (some ⟨nb0_5, 0, none⟩)) rfl) ?_
   refine t_l rfl ?_
   have hl35z := ((ownSl (H.get (k := 3) rfl))).len_le
   refine s_val (x_lenS T23.und rfl (ownSl (H.get (k := 3) rfl))) ?_
   have hvc_q36z := Sl.cells (ownSl (H.get (k := 3) rfl))
   have hvo_q36z := Sl.oc (ownSl (H.get (k := 3) rfl))
   refine s_nil ⟨(H.pick [1, 2, 4, 5] (by decide) rfl), ?_⟩
   refine t_l rfl ?_
   obtain ⟨r38z, hx37z, hM⟩ := M.e_bind hM
   refine s_call cf14 [.pointer (some ⟨nb0_5, 0, none⟩), I (l.length : Int)] rfl (nilometerkit_Stream_Next_ok wrong s s2 (l.length : Int) (hC_wrong.app _) hs_wrong hx37z _ (St.give (T := [cBlk nb0_6 [v_names, I r14, I r23] 109, cBlk b_4 [I r00, v_l] 25, cOwn (α := Line) 34 v_l l, cOwn (α := Int) 3 u1_3 r12, cBlk nb0_1 [v_numbers, I q1, I q2] 109]) H rfl)) ?_
   rintro vq w39z ⟨r4, q13, q23, hr40z, hvq, H2_⟩
   subst hr40z
   subst vq
   try dsimp only at hM
   replace H : St w w39z [cBlk nb0_5 [v_wrong, I q13, I q23] 109, cBlk nb0_6 [v_names, I r14, I r23] 109, cBlk b_4 [I r00, v_l] 25, cOwn (α := Line) 34 v_l l, cOwn (α := Int) 3 u1_3 r12, cBlk nb0_1 [v_numbers, I q1, I q2] 109] R := H.back H2_ rfl
   clear H2_
   refine s_nil ⟨(H.pick [1, 2, 4, 5] (by decide) rfl), ?_⟩
   obtain ⟨sd54z, hM⟩ := M.e_grd hM
   simp only [Bool.and_eq_true, decide_eq_true_eq] at sd54z
   refine t_l2 rfl rfl ?_ ?_
   ·skip
    refine s_val (x_ix (a := v_l) (b := I r4) (v := vat v_l 5 (Int.toNat r4)) rfl rfl (Sl.ix (α := Line) T23.und T23.size (ownSl (H.get (k := 3) rfl)) (by omega) (by omega))) ?_
    refine s_nil ⟨(H.pick [1, 2, 4, 5] (by decide) rfl), ?_⟩
    refine t_l2 rfl rfl ?_ ?_
    ·skip
     refine s_val (x_fa (a := vat v_l 5 (Int.toNat r4)) (v := fat (vat v_l 5 (Int.toNat r4)) 3) rfl (fa_pl Fd34_3 Sz3 (Sl.pl (i := r4) (ownSl (H.get (k := 3) rfl)) (by omega) (by omega)))) ?_
     refine s_nil ⟨(H.pick [1, 2, 4, 5] (by decide) rfl), ?_⟩
     refine t_l2 rfl rfl ?_ ?_
     ·skip
      refine s_val (x_ld (p := fat (vat v_l 5 (Int.toNat r4)) 3) (v := I ((l.getD (Int.toNat r4) default).rise)) rfl (ld_sc Sc3 (At.mono (Line_at3 (ownSl (H.get (k := 3) rfl)) (i := r4) (by omega) (by omega)) (ownLe _ (H.get (k := 3) rfl))))) ?_
      refine s_nil ⟨(H.pick [1, 2, 4, 5] (by decide) rfl), ?_⟩
      refine t_l rfl ?_
      obtain ⟨r70z, hx69z, hM⟩ := M.e_bind hM
      refine s_call cf19 [.pointer (some ⟨nb0_5, 0, none⟩), I (-60), I 60] rfl (nilometerkit_Stream_Within_ok wrong q13 q23 (-60) 60 (hC_wrong.app _) hs_wrong hx69z _ (St.give (T := [cBlk nb0_6 [v_names, I r14, I r23] 109, cBlk b_4 [I r00, v_l] 25, cOwn (α := Line) 34 v_l l, cOwn (α := Int) 3 u1_3 r12, cBlk nb0_1 [v_numbers, I q1, I q2] 109]) H rfl)) ?_
      rintro vq w71z ⟨r5, q14, q24, hr72z, hvq, H2_⟩
      subst hr72z
      subst vq
      try dsimp only at hM
      replace H : St w w71z [cBlk nb0_5 [v_wrong, I q14, I q24] 109, cBlk nb0_6 [v_names, I r14, I r23] 109, cBlk b_4 [I r00, v_l] 25, cOwn (α := Line) 34 v_l l, cOwn (α := Int) 3 u1_3 r12, cBlk nb0_1 [v_numbers, I q1, I q2] 109] R := H.back H2_ rfl
      clear H2_
      refine s_nil ⟨(H.pick [1, 2, 4, 5] (by decide) rfl), ?_⟩
      obtain ⟨sd73z, hM⟩ := M.e_grd hM
      simp only [Bool.and_eq_true, decide_eq_true_eq] at sd73z
      refine t_q rfl (fun w' H => x_ari (a := (l.getD (Int.toNat r4) default).rise) (b := r5) (r := ((l.getD (Int.toNat r4) default).rise) + r5) rfl rfl rfl (by omega)) ?_
      refine t_l rfl ?_
      refine s_val (x_ix (a := v_l) (b := I r4) (v := vat v_l 5 (Int.toNat r4)) rfl rfl (Sl.ix (α := Line) T23.und T23.size (ownSl (H.get (k := 3) rfl)) (by omega) (by omega))) ?_
      refine s_nil ⟨(H.pick [1, 2, 4, 5] (by decide) rfl), ?_⟩
      refine t_l rfl ?_
      refine s_val (x_fa (a := vat v_l 5 (Int.toNat r4)) (v := fat (vat v_l 5 (Int.toNat r4)) 3) rfl (fa_pl Fd34_3 Sz3 (Sl.pl (i := r4) (ownSl (H.get (k := 3) rfl)) (by omega) (by omega)))) ?_
      refine s_nil ⟨(H.pick [1, 2, 4, 5] (by decide) rfl), ?_⟩
      refine t_l rfl ?_
      refine t_fst (α := Line) (k := 3) (i := r4) (off := 3) (l := l) (l' := l.set (Int.toNat r4) ({ (l.getD (Int.toNat r4) default) with rise := ((l.getD (Int.toNat r4) default).rise) + r5 })) (val := I (((l.getD (Int.toNat r4) default).rise) + r5)) (L' := [cBlk nb0_5 [v_wrong, I q14, I q24] 109, cBlk nb0_6 [v_names, I r14, I r23] 109, cBlk b_4 [I r00, v_l] 25, cOwn (α := Line) 34 v_l (l.set (Int.toNat r4) ({ (l.getD (Int.toNat r4) default) with rise := ((l.getD (Int.toNat r4) default).rise) + r5 })), cOwn (α := Int) 3 u1_3 r12, cBlk nb0_1 [v_numbers, I q1, I q2] 109]) H rfl Sz3 (by omega) (by omega) (l.getD (Int.toNat r4) default) ({ (l.getD (Int.toNat r4) default) with rise := ((l.getD (Int.toNat r4) default).rise) + r5 }) (getD_some _ (by omega) _) rfl rfl [I (((l.getD (Int.toNat r4) default).rise) + r5)] rfl rfl rfl rfl rfl rfl rfl ?_
      intro w74z H
      have hls_q75z : (l.set (Int.toNat r4) ({ (l.getD (Int.toNat r4) default) with rise := ((l.getD (Int.toNat r4) default).rise) + r5 })).length = (l).length := List.length_set
      refine s_nil ⟨(H.pick [1, 2, 4, 5] (by decide) rfl), ?_⟩
      refine t_nil ?_
      refine W.region rfl ?_
      obtain ⟨sd76z, hM⟩ := M.e_grd hM
      simp only [Bool.and_eq_true, decide_eq_true_eq] at sd76z
      refine s_val (x_ari (a := (s3 : Int)) (b := 1) (r := (s3 : Int) + 1) rfl rfl rfl (by omega)) ?_
      refine s_val (x_mv (v := I ((s3 : Int) + 1)) rfl) ?_
      refine s_nil ?_
      exact ⟨m29z, lt30z, l.set (Int.toNat r4) ({ (l.getD (Int.toNat r4) default) with rise := ((l.getD (Int.toNat r4) default).rise) + r5 }), q14, q24, s3 + 1, v_l, _, upds_of _ _ ⟨rfl, rfl, rfl, rfl, rfl, trivial⟩, M.e_inl hM hN32z, H⟩
     ·skip
      obtain ⟨r78z, hx77z, hM⟩ := M.e_bind hM
      refine s_call cf19 [.pointer (some ⟨nb0_5, 0, none⟩), I (-60), I 60] rfl (nilometerkit_Stream_Within_ok wrong q13 q23 (-60) 60 (hC_wrong.app _) hs_wrong hx77z _ (St.give (T := [cBlk nb0_6 [v_names, I r14, I r23] 109, cBlk b_4 [I r00, v_l] 25, cOwn (α := Line) 34 v_l l, cOwn (α := Int) 3 u1_3 r12, cBlk nb0_1 [v_numbers, I q1, I q2] 109]) H rfl)) ?_
      rintro vq w79z ⟨r5, q14, q24, hr80z, hvq, H2_⟩
      subst hr80z
      subst vq
      try dsimp only at hM
      replace H : St w w79z [cBlk nb0_5 [v_wrong, I q14, I q24] 109, cBlk nb0_6 [v_names, I r14, I r23] 109, cBlk b_4 [I r00, v_l] 25, cOwn (α := Line) 34 v_l l, cOwn (α := Int) 3 u1_3 r12, cBlk nb0_1 [v_numbers, I q1, I q2] 109] R := H.back H2_ rfl
      clear H2_
      refine s_nil ⟨(H.pick [1, 2, 4, 5] (by decide) rfl), ?_⟩
      refine t_l rfl ?_
      refine s_val (x_ld (p := fat (vat v_l 5 (Int.toNat r4)) 3) (v := I ((l.getD (Int.toNat r4) default).rise)) rfl (ld_sc Sc3 (At.mono (Line_at3 (ownSl (H.get (k := 3) rfl)) (i := r4) (by omega) (by omega)) (ownLe _ (H.get (k := 3) rfl))))) ?_
      refine s_nil ⟨(H.pick [1, 2, 4, 5] (by decide) rfl), ?_⟩
      obtain ⟨sd81z, hM⟩ := M.e_grd hM
      simp only [Bool.and_eq_true, decide_eq_true_eq] at sd81z
      refine t_q rfl (fun w' H => x_ari (a := (l.getD (Int.toNat r4) default).rise) (b := r5) (r := ((l.getD (Int.toNat r4) default).rise) + r5) rfl rfl rfl (by omega)) ?_
      refine t_l rfl ?_
      refine s_val (x_ix (a := v_l) (b := I r4) (v := vat v_l 5 (Int.toNat r4)) rfl rfl (Sl.ix (α := Line) T23.und T23.size (ownSl (H.get (k := 3) rfl)) (by omega) (by omega))) ?_
      refine s_nil ⟨(H.pick [1, 2, 4, 5] (by decide) rfl), ?_⟩
      refine t_l rfl ?_
      refine s_val (x_fa (a := vat v_l 5 (Int.toNat r4)) (v := fat (vat v_l 5 (Int.toNat r4)) 3) rfl (fa_pl Fd34_3 Sz3 (Sl.pl (i := r4) (ownSl (H.get (k := 3) rfl)) (by omega) (by omega)))) ?_
      refine s_nil ⟨(H.pick [1, 2, 4, 5] (by decide) rfl), ?_⟩
      refine t_l rfl ?_
      refine t_fst (α := Line) (k := 3) (i := r4) (off := 3) (l := l) (l' := l.set (Int.toNat r4) ({ (l.getD (Int.toNat r4) default) with rise := ((l.getD (Int.toNat r4) default).rise) + r5 })) (val := I (((l.getD (Int.toNat r4) default).rise) + r5)) (L' := [cBlk nb0_5 [v_wrong, I q14, I q24] 109, cBlk nb0_6 [v_names, I r14, I r23] 109, cBlk b_4 [I r00, v_l] 25, cOwn (α := Line) 34 v_l (l.set (Int.toNat r4) ({ (l.getD (Int.toNat r4) default) with rise := ((l.getD (Int.toNat r4) default).rise) + r5 })), cOwn (α := Int) 3 u1_3 r12, cBlk nb0_1 [v_numbers, I q1, I q2] 109]) H rfl Sz3 (by omega) (by omega) (l.getD (Int.toNat r4) default) ({ (l.getD (Int.toNat r4) default) with rise := ((l.getD (Int.toNat r4) default).rise) + r5 }) (getD_some _ (by omega) _) rfl rfl [I (((l.getD (Int.toNat r4) default).rise) + r5)] rfl rfl rfl rfl rfl rfl rfl ?_
      intro w82z H
      have hls_q83z : (l.set (Int.toNat r4) ({ (l.getD (Int.toNat r4) default) with rise := ((l.getD (Int.toNat r4) default).rise) + r5 })).length = (l).length := List.length_set
      refine s_nil ⟨(H.pick [1, 2, 4, 5] (by decide) rfl), ?_⟩
      refine t_nil ?_
      refine W.region rfl ?_
      obtain ⟨sd84z, hM⟩ := M.e_grd hM
      simp only [Bool.and_eq_true, decide_eq_true_eq] at sd84z
      refine s_val (x_ari (a := (s3 : Int)) (b := 1) (r := (s3 : Int) + 1) rfl rfl rfl (by omega)) ?_
      refine s_val (x_mv (v := I ((s3 : Int) + 1)) rfl) ?_
      refine s_nil ?_
      exact ⟨m29z, lt30z, l.set (Int.toNat r4) ({ (l.getD (Int.toNat r4) default) with rise := ((l.getD (Int.toNat r4) default).rise) + r5 }), q14, q24, s3 + 1, v_l, _, upds_of _ _ ⟨rfl, rfl, rfl, rfl, rfl, trivial⟩, M.e_inl hM hN32z, H⟩
    ·skip
     obtain ⟨r86z, hx85z, hM⟩ := M.e_bind hM
     refine s_call cf19 [.pointer (some ⟨nb0_5, 0, none⟩), I (-60), I 60] rfl (nilometerkit_Stream_Within_ok wrong q13 q23 (-60) 60 (hC_wrong.app _) hs_wrong hx85z _ (St.give (T := [cBlk nb0_6 [v_names, I r14, I r23] 109, cBlk b_4 [I r00, v_l] 25, cOwn (α := Line) 34 v_l l, cOwn (α := Int) 3 u1_3 r12, cBlk nb0_1 [v_numbers, I q1, I q2] 109]) H rfl)) ?_
     rintro vq w87z ⟨r5, q14, q24, hr88z, hvq, H2_⟩
     subst hr88z
     subst vq
     try dsimp only at hM
     replace H : St w w87z [cBlk nb0_5 [v_wrong, I q14, I q24] 109, cBlk nb0_6 [v_names, I r14, I r23] 109, cBlk b_4 [I r00, v_l] 25, cOwn (α := Line) 34 v_l l, cOwn (α := Int) 3 u1_3 r12, cBlk nb0_1 [v_numbers, I q1, I q2] 109] R := H.back H2_ rfl
     clear H2_
     refine s_nil ⟨(H.pick [1, 2, 4, 5] (by decide) rfl), ?_⟩
     refine t_l rfl ?_
     refine s_val (x_fa (a := vat v_l 5 (Int.toNat r4)) (v := fat (vat v_l 5 (Int.toNat r4)) 3) rfl (fa_pl Fd34_3 Sz3 (Sl.pl (i := r4) (ownSl (H.get (k := 3) rfl)) (by omega) (by omega)))) ?_
     refine s_nil ⟨(H.pick [1, 2, 4, 5] (by decide) rfl), ?_⟩
     refine t_l rfl ?_
     refine s_val (x_ld (p := fat (vat v_l 5 (Int.toNat r4)) 3) (v := I ((l.getD (Int.toNat r4) default).rise)) rfl (ld_sc Sc3 (At.mono (Line_at3 (ownSl (H.get (k := 3) rfl)) (i := r4) (by omega) (by omega)) (ownLe _ (H.get (k := 3) rfl))))) ?_
     refine s_nil ⟨(H.pick [1, 2, 4, 5] (by decide) rfl), ?_⟩
     obtain ⟨sd89z, hM⟩ := M.e_grd hM
     simp only [Bool.and_eq_true, decide_eq_true_eq] at sd89z
     refine t_q rfl (fun w' H => x_ari (a := (l.getD (Int.toNat r4) default).rise) (b := r5) (r := ((l.getD (Int.toNat r4) default).rise) + r5) rfl rfl rfl (by omega)) ?_
     refine t_l rfl ?_
     refine s_val (x_ix (a := v_l) (b := I r4) (v := vat v_l 5 (Int.toNat r4)) rfl rfl (Sl.ix (α := Line) T23.und T23.size (ownSl (H.get (k := 3) rfl)) (by omega) (by omega))) ?_
     refine s_nil ⟨(H.pick [1, 2, 4, 5] (by decide) rfl), ?_⟩
     refine t_l rfl ?_
     refine s_val (x_fa (a := vat v_l 5 (Int.toNat r4)) (v := fat (vat v_l 5 (Int.toNat r4)) 3) rfl (fa_pl Fd34_3 Sz3 (Sl.pl (i := r4) (ownSl (H.get (k := 3) rfl)) (by omega) (by omega)))) ?_
     refine s_nil ⟨(H.pick [1, 2, 4, 5] (by decide) rfl), ?_⟩
     refine t_l rfl ?_
     refine t_fst (α := Line) (k := 3) (i := r4) (off := 3) (l := l) (l' := l.set (Int.toNat r4) ({ (l.getD (Int.toNat r4) default) with rise := ((l.getD (Int.toNat r4) default).rise) + r5 })) (val := I (((l.getD (Int.toNat r4) default).rise) + r5)) (L' := [cBlk nb0_5 [v_wrong, I q14, I q24] 109, cBlk nb0_6 [v_names, I r14, I r23] 109, cBlk b_4 [I r00, v_l] 25, cOwn (α := Line) 34 v_l (l.set (Int.toNat r4) ({ (l.getD (Int.toNat r4) default) with rise := ((l.getD (Int.toNat r4) default).rise) + r5 })), cOwn (α := Int) 3 u1_3 r12, cBlk nb0_1 [v_numbers, I q1, I q2] 109]) H rfl Sz3 (by omega) (by omega) (l.getD (Int.toNat r4) default) ({ (l.getD (Int.toNat r4) default) with rise := ((l.getD (Int.toNat r4) default).rise) + r5 }) (getD_some _ (by omega) _) rfl rfl [I (((l.getD (Int.toNat r4) default).rise) + r5)] rfl rfl rfl rfl rfl rfl rfl ?_
     intro w90z H
     have hls_q91z : (l.set (Int.toNat r4) ({ (l.getD (Int.toNat r4) default) with rise := ((l.getD (Int.toNat r4) default).rise) + r5 })).length = (l).length := List.length_set
     refine s_nil ⟨(H.pick [1, 2, 4, 5] (by decide) rfl), ?_⟩
     refine t_nil ?_
     refine W.region rfl ?_
     obtain ⟨sd92z, hM⟩ := M.e_grd hM
     simp only [Bool.and_eq_true, decide_eq_true_eq] at sd92z
     refine s_val (x_ari (a := (s3 : Int)) (b := 1) (r := (s3 : Int) + 1) rfl rfl rfl (by omega)) ?_
     refine s_val (x_mv (v := I ((s3 : Int) + 1)) rfl) ?_
     refine s_nil ?_
     exact ⟨m29z, lt30z, l.set (Int.toNat r4) ({ (l.getD (Int.toNat r4) default) with rise := ((l.getD (Int.toNat r4) default).rise) + r5 }), q14, q24, s3 + 1, v_l, _, upds_of _ _ ⟨rfl, rfl, rfl, rfl, rfl, trivial⟩, M.e_inl hM hN32z, H⟩
   ·skip
    obtain ⟨r94z, hx93z, hM⟩ := M.e_bind hM
    refine s_call cf19 [.pointer (some ⟨nb0_5, 0, none⟩), I (-60), I 60] rfl (nilometerkit_Stream_Within_ok wrong q13 q23 (-60) 60 (hC_wrong.app _) hs_wrong hx93z _ (St.give (T := [cBlk nb0_6 [v_names, I r14, I r23] 109, cBlk b_4 [I r00, v_l] 25, cOwn (α := Line) 34 v_l l, cOwn (α := Int) 3 u1_3 r12, cBlk nb0_1 [v_numbers, I q1, I q2] 109]) H rfl)) ?_
    rintro vq w95z ⟨r5, q14, q24, hr96z, hvq, H2_⟩
    subst hr96z
    subst vq
    try dsimp only at hM
    replace H : St w w95z [cBlk nb0_5 [v_wrong, I q14, I q24] 109, cBlk nb0_6 [v_names, I r14, I r23] 109, cBlk b_4 [I r00, v_l] 25, cOwn (α := Line) 34 v_l l, cOwn (α := Int) 3 u1_3 r12, cBlk nb0_1 [v_numbers, I q1, I q2] 109] R := H.back H2_ rfl
    clear H2_
    refine s_nil ⟨(H.pick [1, 2, 4, 5] (by decide) rfl), ?_⟩
    refine t_l rfl ?_
    refine s_val (x_ix (a := v_l) (b := I r4) (v := vat v_l 5 (Int.toNat r4)) rfl rfl (Sl.ix (α := Line) T23.und T23.size (ownSl (H.get (k := 3) rfl)) (by omega) (by omega))) ?_
    refine s_nil ⟨(H.pick [1, 2, 4, 5] (by decide) rfl), ?_⟩
    refine t_l rfl ?_
    refine s_val (x_fa (a := vat v_l 5 (Int.toNat r4)) (v := fat (vat v_l 5 (Int.toNat r4)) 3) rfl (fa_pl Fd34_3 Sz3 (Sl.pl (i := r4) (ownSl (H.get (k := 3) rfl)) (by omega) (by omega)))) ?_
    refine s_nil ⟨(H.pick [1, 2, 4, 5] (by decide) rfl), ?_⟩
    refine t_l rfl ?_
    refine s_val (x_ld (p := fat (vat v_l 5 (Int.toNat r4)) 3) (v := I ((l.getD (Int.toNat r4) default).rise)) rfl (ld_sc Sc3 (At.mono (Line_at3 (ownSl (H.get (k := 3) rfl)) (i := r4) (by omega) (by omega)) (ownLe _ (H.get (k := 3) rfl))))) ?_
    refine s_nil ⟨(H.pick [1, 2, 4, 5] (by decide) rfl), ?_⟩
    obtain ⟨sd97z, hM⟩ := M.e_grd hM
    simp only [Bool.and_eq_true, decide_eq_true_eq] at sd97z
    refine t_q rfl (fun w' H => x_ari (a := (l.getD (Int.toNat r4) default).rise) (b := r5) (r := ((l.getD (Int.toNat r4) default).rise) + r5) rfl rfl rfl (by omega)) ?_
    refine t_l rfl ?_
    refine s_val (x_ix (a := v_l) (b := I r4) (v := vat v_l 5 (Int.toNat r4)) rfl rfl (Sl.ix (α := Line) T23.und T23.size (ownSl (H.get (k := 3) rfl)) (by omega) (by omega))) ?_
    refine s_nil ⟨(H.pick [1, 2, 4, 5] (by decide) rfl), ?_⟩
    refine t_l rfl ?_
    refine s_val (x_fa (a := vat v_l 5 (Int.toNat r4)) (v := fat (vat v_l 5 (Int.toNat r4)) 3) rfl (fa_pl Fd34_3 Sz3 (Sl.pl (i := r4) (ownSl (H.get (k := 3) rfl)) (by omega) (by omega)))) ?_
    refine s_nil ⟨(H.pick [1, 2, 4, 5] (by decide) rfl), ?_⟩
    refine t_l rfl ?_
    refine t_fst (α := Line) (k := 3) (i := r4) (off := 3) (l := l) (l' := l.set (Int.toNat r4) ({ (l.getD (Int.toNat r4) default) with rise := ((l.getD (Int.toNat r4) default).rise) + r5 })) (val := I (((l.getD (Int.toNat r4) default).rise) + r5)) (L' := [cBlk nb0_5 [v_wrong, I q14, I q24] 109, cBlk nb0_6 [v_names, I r14, I r23] 109, cBlk b_4 [I r00, v_l] 25, cOwn (α := Line) 34 v_l (l.set (Int.toNat r4) ({ (l.getD (Int.toNat r4) default) with rise := ((l.getD (Int.toNat r4) default).rise) + r5 })), cOwn (α := Int) 3 u1_3 r12, cBlk nb0_1 [v_numbers, I q1, I q2] 109]) H rfl Sz3 (by omega) (by omega) (l.getD (Int.toNat r4) default) ({ (l.getD (Int.toNat r4) default) with rise := ((l.getD (Int.toNat r4) default).rise) + r5 }) (getD_some _ (by omega) _) rfl rfl [I (((l.getD (Int.toNat r4) default).rise) + r5)] rfl rfl rfl rfl rfl rfl rfl ?_
    intro w98z H
    have hls_q99z : (l.set (Int.toNat r4) ({ (l.getD (Int.toNat r4) default) with rise := ((l.getD (Int.toNat r4) default).rise) + r5 })).length = (l).length := List.length_set
    refine s_nil ⟨(H.pick [1, 2, 4, 5] (by decide) rfl), ?_⟩
    refine t_nil ?_
    refine W.region rfl ?_
    obtain ⟨sd100z, hM⟩ := M.e_grd hM
    simp only [Bool.and_eq_true, decide_eq_true_eq] at sd100z
    refine s_val (x_ari (a := (s3 : Int)) (b := 1) (r := (s3 : Int) + 1) rfl rfl rfl (by omega)) ?_
    refine s_val (x_mv (v := I ((s3 : Int) + 1)) rfl) ?_
    refine s_nil ?_
    exact ⟨m29z, lt30z, l.set (Int.toNat r4) ({ (l.getD (Int.toNat r4) default) with rise := ((l.getD (Int.toNat r4) default).rise) + r5 }), q14, q24, s3 + 1, v_l, _, upds_of _ _ ⟨rfl, rfl, rfl, rfl, rfl, trivial⟩, M.e_inl hM hN32z, H⟩
  ·replace hM := M.e_f hM c33z
   simp only [decide_eq_true_eq, decide_eq_false_iff_not, beq_iff_eq, bne_iff_ne, beq_eq_false_iff_ne, bne_eq_false_iff_eq, ne_eq, Decidable.not_not] at c33z
   refine W.exit ?_
   have hX101z := M.e_inr hM hN32z
   subst hX101z
   replace hM := hk25z
   try dsimp only at hM
   refine W.seq ?_
   refine W.region rfl ?_
   refine s_val (x_mv (v := .pointer (some ⟨nb0_6, 0, none⟩)) rfl) ?_
   refine s_val (x_fa (a := .pointer (some ⟨b_4, 0, none⟩)) (v := .pointer (some ⟨b_4, 0, none⟩)) rfl (fa_blk (o := 0) Fd25_0 Sz3)) ?_
   refine s_val (x_ld (p := .pointer (some ⟨b_4, 0, none⟩)) (v := I r00) rfl (ldb_sc Sc3 (H.blk (k := 2) rfl) rfl)) ?_
   obtain ⟨r103z, hx102z, hM⟩ := M.e_bind hM
   refine s_call cf20 [.pointer (some ⟨nb0_6, 0, none⟩), I r00] rfl (nilometerkit_Mixed_ok names r14 r23 r00 (hC_names.app _) hs_names hx102z _ (St.give (L := [cBlk nb0_6 [v_names, I r14, I r23] 109, cBlk nb0_5 [v_wrong, I s, I s2] 109, cBlk b_4 [I r00, v_l] 25, cOwn (α := Line) 34 v_l l, cOwn (α := Int) 3 u1_3 r12, cBlk nb0_1 [v_numbers, I q1, I q2] 109]) (A := [cBlk nb0_6 [v_names, I r14, I r23] 109]) (T := [cBlk nb0_5 [v_wrong, I s, I s2] 109, cBlk b_4 [I r00, v_l] 25, cOwn (α := Line) 34 v_l l, cOwn (α := Int) 3 u1_3 r12, cBlk nb0_1 [v_numbers, I q1, I q2] 109]) (H.pick [1, 0, 2, 3, 4, 5] (by decide) rfl) rfl)) ?_
   rintro vq w104z ⟨r6, q15, q25, u0_7, hr105z, hvq, H2_⟩
   subst hr105z
   subst vq
   try dsimp only at hM
   replace H : St w w104z [cOwn (α := Int) 3 u0_7 r6, cBlk nb0_6 [v_names, I q15, I q25] 109, cBlk nb0_5 [v_wrong, I s, I s2] 109, cBlk b_4 [I r00, v_l] 25, cOwn (α := Line) 34 v_l l, cOwn (α := Int) 3 u1_3 r12, cBlk nb0_1 [v_numbers, I q1, I q2] 109] R := H.pick [1, 0, 2, 3, 4, 5] (by decide) rfl |>.back H2_ rfl
   clear H2_
   refine s_val (x_as (v := u0_7) rfl) ?_
   refine s_nil ?_
   refine W.seq ?_
   refine W.region rfl ?_
   refine s_val (x_fa (a := .pointer (some ⟨b_4, 0, none⟩)) (v := .pointer (some ⟨b_4, 0, none⟩)) rfl (fa_blk (o := 0) Fd25_0 Sz3)) ?_
   refine s_val (x_ld (p := .pointer (some ⟨b_4, 0, none⟩)) (v := I r00) rfl (ldb_sc Sc3 (H.blk (k := 3) rfl) rfl)) ?_
   refine s_val (x_bld (ps := [(0, I r00)]) (zs := [I 0, .slice none 0 0]) (L' := [I r00, .slice none 0 0]) rfl Try.underlying25 Al25 rfl (Bd25 Try.underlying25) (.cons (cs := [I r00]) rfl rfl rfl rfl rfl <| .nil)) ?_
   refine t_alloc (cs := [I 0, .slice none 0 0]) H Al25 rfl ?_
   intro b_8 w106z H
   refine t_st (k := 0) (b := b_8) (off := 0) (cs := [I 0, .slice none 0 0]) (vs := [I r00, .slice none 0 0]) (cs' := [I r00, .slice none 0 0]) (v := .agg #[I r00, .slice none 0 0]) (L' := [cBlk b_8 [I r00, .slice none 0 0] 25, cOwn (α := Int) 3 u0_7 r6, cBlk nb0_6 [v_names, I q15, I q25] 109, cBlk nb0_5 [v_wrong, I s, I s2] 109, cBlk b_4 [I r00, v_l] 25, cOwn (α := Line) 34 v_l l, cOwn (α := Int) 3 u1_3 r12, cBlk nb0_1 [v_numbers, I q1, I q2] 109]) H rfl rfl rfl Sz25 rfl rfl rfl rfl rfl rfl ?_
   intro w107z H
   refine s_nil ?_
   refine W.seq ?_
   refine W.seq ?_
   refine W.region rfl ?_
   refine s_val (x_mv (v := .pointer (some ⟨nb0_6, 0, none⟩)) rfl) ?_
   refine s_val (x_fa (a := .pointer (some ⟨b_4, 0, none⟩)) (v := .pointer (some ⟨b_4, 1, none⟩)) rfl (fa_blk (o := 0) Fd25_1 Sz23)) ?_
   refine s_val (x_ld (p := .pointer (some ⟨b_4, 1, none⟩)) (v := v_l) rfl (ldb_sc Sc23 (H.blk (k := 4) rfl) rfl)) ?_
   have hl108z := ((ownSl (H.get (k := 5) rfl))).len_le
   refine s_val (x_lenS T23.und rfl (ownSl (H.get (k := 5) rfl))) ?_
   obtain ⟨r110z, hx109z, hM⟩ := M.e_bind hM
   refine s_call cf20 [.pointer (some ⟨nb0_6, 0, none⟩), I (l.length : Int)] rfl (nilometerkit_Mixed_ok names q15 q25 (l.length : Int) (hC_names.app _) hs_names hx109z _ (St.give (L := [cBlk nb0_6 [v_names, I q15, I q25] 109, cBlk b_8 [I r00, .slice none 0 0] 25, cOwn (α := Int) 3 u0_7 r6, cBlk nb0_5 [v_wrong, I s, I s2] 109, cBlk b_4 [I r00, v_l] 25, cOwn (α := Line) 34 v_l l, cOwn (α := Int) 3 u1_3 r12, cBlk nb0_1 [v_numbers, I q1, I q2] 109]) (A := [cBlk nb0_6 [v_names, I q15, I q25] 109]) (T := [cBlk b_8 [I r00, .slice none 0 0] 25, cOwn (α := Int) 3 u0_7 r6, cBlk nb0_5 [v_wrong, I s, I s2] 109, cBlk b_4 [I r00, v_l] 25, cOwn (α := Line) 34 v_l l, cOwn (α := Int) 3 u1_3 r12, cBlk nb0_1 [v_numbers, I q1, I q2] 109]) (H.pick [2, 0, 1, 3, 4, 5, 6, 7] (by decide) rfl) rfl)) ?_
   rintro vq w111z ⟨r7, q16, q26, u0_9, hr112z, hvq, H2_⟩
   subst hr112z
   subst vq
   try dsimp only at hM
   replace H : St w w111z [cOwn (α := Int) 3 u0_9 r7, cBlk nb0_6 [v_names, I q16, I q26] 109, cBlk b_8 [I r00, .slice none 0 0] 25, cOwn (α := Int) 3 u0_7 r6, cBlk nb0_5 [v_wrong, I s, I s2] 109, cBlk b_4 [I r00, v_l] 25, cOwn (α := Line) 34 v_l l, cOwn (α := Int) 3 u1_3 r12, cBlk nb0_1 [v_numbers, I q1, I q2] 109] R := H.pick [2, 0, 1, 3, 4, 5, 6, 7] (by decide) rfl |>.back H2_ rfl
   clear H2_
   have hl113z := ((ownSl (H.get (k := 0) rfl))).len_le
   refine s_val (x_lenS T26.und rfl (ownSl (H.get (k := 0) rfl))) ?_
   refine s_val (x_mv (v := I 0) rfl) ?_
   refine s_nil ?_
   refine W.block ?_
   replace H : St w w111z [cOwn (α := Line) 34 (.slice none 0 0) ([]), cOwn (α := Int) 3 u0_9 r7, cBlk nb0_6 [v_names, I q16, I q26] 109, cBlk b_8 [I r00, .slice none 0 0] 25, cOwn (α := Int) 3 u0_7 r6, cBlk nb0_5 [v_wrong, I s, I s2] 109, cBlk b_4 [I r00, v_l] 25, cOwn (α := Line) 34 v_l l, cOwn (α := Int) 3 u1_3 r12, cBlk nb0_1 [v_numbers, I q1, I q2] 109] R := H.nilOwn (α := Line) 34
   obtain ⟨ex114z, hi115z, hk116z⟩ := M.e_bind hM
   obtain ⟨m0_, hi115z⟩ := M.e_iter hi115z
   refine W.loop (fun m σ W => ∃ (s9 : Int) (s10 : Int) (s11 : Nat) (l4 : List Line) (v_l4 : Value) (ρ : Env), σ = upds ρ [(7, .pointer (some ⟨b_4, 0, none⟩)), (10, .pointer (some ⟨nb0_6, 0, none⟩)), (11, u0_7), (12, .pointer (some ⟨b_8, 0, none⟩)), (70, u0_9), (71, I (r7.length : Int)), (72, I (s11 : Int))] ∧ M.iterN (m_nilometerlaw01_LevelTurned_b4 names l r6 r7) m (s9, s10, s11, l4) = some ex114z ∧ St w W [cOwn (α := Line) 34 v_l4 l4, cOwn (α := Int) 3 u0_9 r7, cBlk nb0_6 [v_names, I s9, I s10] 109, cBlk b_8 [I r00, v_l4] 25, cOwn (α := Int) 3 u0_7 r6, cBlk nb0_5 [v_wrong, I s, I s2] 109, cBlk b_4 [I r00, v_l] 25, cOwn (α := Line) 34 v_l l, cOwn (α := Int) 3 u1_3 r12, cBlk nb0_1 [v_numbers, I q1, I q2] 109] R) ?_ ?_
   ·exact ⟨_, q16, q26, 0, [], (.slice none 0 0), _, upds_of _ _ ⟨rfl, rfl, rfl, rfl, rfl, rfl, rfl, trivial⟩, hi115z, H⟩
   ·rintro m119z σ w117z ⟨s9, s10, s11, l4, v_l4, ρ, rfl, hI118z, H⟩
    obtain ⟨m120z, lt121z, x122z, hM, hN123z⟩ := M.e_iterN hI118z
    simp only [m_nilometerlaw01_LevelTurned_b4] at hM
    clear hI118z
    refine W.seq ?_
    refine W.region rfl ?_
    refine s_val (x_cmp (kd := .i64) (a := (s11 : Int)) (b := (r7.length : Int)) (r := decide ((s11 : Int) < (r7.length : Int))) rfl rfl rfl) ?_
    refine s_nil ?_
    refine W.seq ?_
    refine W.cond (decide ((s11 : Int) < (r7.length : Int))) rfl (fun c124z => ?_) (fun c124z => ?_)
    ·replace hM := M.e_t hM c124z
     simp only [decide_eq_true_eq, decide_eq_false_iff_not, beq_iff_eq, bne_iff_ne, beq_eq_false_iff_ne, bne_eq_false_iff_eq, ne_eq, Decidable.not_not] at c124z
     refine W.skip ?_
     refine W.seq ?_
     refine W.block ?_
     refine W.seq ?_
     refine W.region rfl ?_
     obtain ⟨sd125z, hM⟩ := M.e_grd hM
     simp only [Bool.and_eq_true, decide_eq_true_eq] at sd125z
     refine s_val (x_ix (a := u0_9) (b := I (s11 : Int)) (v := vat u0_9 1 (Int.toNat (s11 : Int))) rfl rfl (Sl.ix (α := Int) T26.und T26.size (ownSl (H.get (k := 1) rfl)) (by omega) (by omega))) ?_
     refine s_val (x_ld (p := vat u0_9 1 (Int.toNat (s11 : Int))) (v := I (r7.getD s11 0)) rfl (ld_sc Sc3 (At.mono (Int_at (ownSl (H.get (k := 1) rfl)) (i := (s11 : Int)) (by omega) (by omega)) (ownLe _ (H.get (k := 1) rfl))))) ?_
     refine s_val (x_as (v := I (r7.getD s11 0)) rfl) ?_
     refine s_nil ?_
     refine W.seq ?_
     refine W.region rfl ?_
     refine s_val (x_fa (a := .pointer (some ⟨b_4, 0, none⟩)) (v := .pointer (some ⟨b_4, 1, none⟩)) rfl (fa_blk (o := 0) Fd25_1 Sz23)) ?_
     refine s_val (x_ld (p := .pointer (some ⟨b_4, 1, none⟩)) (v := v_l) rfl (ldb_sc Sc23 (H.blk (k := 6) rfl) rfl)) ?_
     refine s_val (x_mv (v := I (r7.getD s11 0)) rfl) ?_
     obtain ⟨sd126z, hM⟩ := M.e_grd hM
     simp only [Bool.and_eq_true, decide_eq_true_eq] at sd126z
     refine s_val (x_ix (a := v_l) (b := I (r7.getD s11 0)) (v := vat v_l 5 (Int.toNat (r7.getD s11 0))) rfl rfl (Sl.ix (α := Line) T23.und T23.size (ownSl (H.get (k := 7) rfl)) (by omega) (by omega))) ?_
     refine s_val (x_ld (p := vat v_l 5 (Int.toNat (r7.getD s11 0))) (v := .agg #[I ((l.getD (Int.toNat (r7.getD s11 0)) default).src), I ((l.getD (Int.toNat (r7.getD s11 0)) default).dst), I ((l.getD (Int.toNat (r7.getD s11 0)) default).day), I ((l.getD (Int.toNat (r7.getD s11 0)) default).rise), I ((l.getD (Int.toNat (r7.getD s11 0)) default).err)]) rfl (ld_ag Ag34 Sz34 (At.mono (Line_atA (ownSl (H.get (k := 7) rfl)) (i := r7.getD s11 0) (by omega) (by omega)) (ownLe _ (H.get (k := 7) rfl))))) ?_
     refine t_alloc (cs := [I 0, I 0, I 0, I 0, I 0]) H Al34 rfl ?_
     intro b_10 w127z H
     refine t_st (k := 0) (b := b_10) (off := 0) (cs := [I 0, I 0, I 0, I 0, I 0]) (vs := [I ((l.getD (Int.toNat (r7.getD s11 0)) default).src), I ((l.getD (Int.toNat (r7.getD s11 0)) default).dst), I ((l.getD (Int.toNat (r7.getD s11 0)) default).day), I ((l.getD (Int.toNat (r7.getD s11 0)) default).rise), I ((l.getD (Int.toNat (r7.getD s11 0)) default).err)]) (cs' := [I ((l.getD (Int.toNat (r7.getD s11 0)) default).src), I ((l.getD (Int.toNat (r7.getD s11 0)) default).dst), I ((l.getD (Int.toNat (r7.getD s11 0)) default).day), I ((l.getD (Int.toNat (r7.getD s11 0)) default).rise), I ((l.getD (Int.toNat (r7.getD s11 0)) default).err)]) (v := .agg #[I ((l.getD (Int.toNat (r7.getD s11 0)) default).src), I ((l.getD (Int.toNat (r7.getD s11 0)) default).dst), I ((l.getD (Int.toNat (r7.getD s11 0)) default).day), I ((l.getD (Int.toNat (r7.getD s11 0)) default).rise), I ((l.getD (Int.toNat (r7.getD s11 0)) default).err)]) (L' := [cBlk b_10 [I ((l.getD (Int.toNat (r7.getD s11 0)) default).src), I ((l.getD (Int.toNat (r7.getD s11 0)) default).dst), I ((l.getD (Int.toNat (r7.getD s11 0)) default).day), I ((l.getD (Int.toNat (r7.getD s11 0)) default).rise), I ((l.getD (Int.toNat (r7.getD s11 0)) default).err)] 34, cOwn (α := Line) 34 v_l4 l4, cOwn (α := Int) 3 u0_9 r7, cBlk nb0_6 [v_names, I s9, I s10] 109, cBlk b_8 [I r00, v_l4] 25, cOwn (α := Int) 3 u0_7 r6, cBlk nb0_5 [v_wrong, I s, I s2] 109, cBlk b_4 [I r00, v_l] 25, cOwn (α := Line) 34 v_l l, cOwn (α := Int) 3 u1_3 r12, cBlk nb0_1 [v_numbers, I q1, I q2] 109]) H rfl rfl rfl Sz34 rfl rfl rfl rfl rfl rfl ?_
     intro w128z H
     refine s_nil ?_
     refine W.seq ?_
     refine W.draw (fun W => St w W [cBlk b_10 [I ((l.getD (Int.toNat (r7.getD s11 0)) default).src), I ((l.getD (Int.toNat (r7.getD s11 0)) default).dst), I ((l.getD (Int.toNat (r7.getD s11 0)) default).day), I ((l.getD (Int.toNat (r7.getD s11 0)) default).rise), I ((l.getD (Int.toNat (r7.getD s11 0)) default).err)] 34, cOwn (α := Line) 34 v_l4 l4, cOwn (α := Int) 3 u0_9 r7, cBlk nb0_6 [v_names, I s9, I s10] 109, cBlk b_8 [I r00, v_l4] 25, cOwn (α := Int) 3 u0_7 r6, cBlk nb0_5 [v_wrong, I s, I s2] 109, cBlk b_4 [I r00, v_l] 25, cOwn (α := Line) 34 v_l l, cOwn (α := Int) 3 u1_3 r12, cBlk nb0_1 [v_numbers, I q1, I q2] 109] R) [(0, true), (1, true), (2, true), (3, true), (4, true), (5, true), (6, true), (7, true), (8, true), (9, true), (10, true), (11, true), (12, true), (13, true), (14, true), (15, true), (16, true), (17, false), (18, false)] mixed (by decide +kernel) rfl ?_
     intro w129z hx_
     replace H : St w w129z [cBlk b_10 [I ((l.getD (Int.toNat (r7.getD s11 0)) default).src), I ((l.getD (Int.toNat (r7.getD s11 0)) default).dst), I ((l.getD (Int.toNat (r7.getD s11 0)) default).day), I ((l.getD (Int.toNat (r7.getD s11 0)) default).rise), I ((l.getD (Int.toNat (r7.getD s11 0)) default).err)] 34, cOwn (α := Line) 34 v_l4 l4, cOwn (α := Int) 3 u0_9 r7, cBlk nb0_6 [v_names, I s9, I s10] 109, cBlk b_8 [I r00, v_l4] 25, cOwn (α := Int) 3 u0_7 r6, cBlk nb0_5 [v_wrong, I s, I s2] 109, cBlk b_4 [I r00, v_l] 25, cOwn (α := Line) 34 v_l l, cOwn (α := Int) 3 u1_3 r12, cBlk nb0_1 [v_numbers, I q1, I q2] 109] R := H.ext hx_
     clear hx_
     refine ⟨(H.pick [0, 1, 2, 3, 4, 5, 6, 7, 8, 9, 10] (by decide) rfl), ?_⟩
     refine d_q rfl (fun w' H => x_mv (v := u0_7) rfl) ?_
     refine d_q rfl (fun w' H => x_fa (a := .pointer (some ⟨b_10, 0, none⟩)) (v := .pointer (some ⟨b_10, 0, none⟩)) rfl (fa_blk (o := 0) Fd34_0 Sz3)) ?_
     refine d_q rfl (fun w' H => x_ld (p := .pointer (some ⟨b_10, 0, none⟩)) (v := I ((l.getD (Int.toNat (r7.getD s11 0)) default).src)) rfl (ldb_sc Sc3 (H.blk (k := 0) rfl) rfl)) ?_
     obtain ⟨sd130z, hM⟩ := M.e_grd hM
     simp only [Bool.and_eq_true, decide_eq_true_eq] at sd130z
     refine d_q rfl (fun w' H => x_ix (a := u0_7) (b := I ((l.getD (Int.toNat (r7.getD s11 0)) default).src)) (v := vat u0_7 1 (Int.toNat ((l.getD (Int.toNat (r7.getD s11 0)) default).src))) rfl rfl (Sl.ix (α := Int) T26.und T26.size (ownSl (H.get (k := 5) rfl)) (by omega) (by omega))) ?_
     refine d_q rfl (fun w' H => x_ld (p := vat u0_7 1 (Int.toNat ((l.getD (Int.toNat (r7.getD s11 0)) default).src))) (v := I (r6.getD (Int.toNat ((l.getD (Int.toNat (r7.getD s11 0)) default).src)) 0)) rfl (ld_sc Sc3 (At.mono (Int_at (ownSl (H.get (k := 5) rfl)) (i := (l.getD (Int.toNat (r7.getD s11 0)) default).src) (by omega) (by omega)) (ownLe _ (H.get (k := 5) rfl))))) ?_
     refine d_q rfl (fun w' H => x_mv (v := u0_7) rfl) ?_
     refine d_q rfl (fun w' H => x_fa (a := .pointer (some ⟨b_10, 0, none⟩)) (v := .pointer (some ⟨b_10, 1, none⟩)) rfl (fa_blk (o := 0) Fd34_1 Sz3)) ?_
     refine d_q rfl (fun w' H => x_ld (p := .pointer (some ⟨b_10, 1, none⟩)) (v := I ((l.getD (Int.toNat (r7.getD s11 0)) default).dst)) rfl (ldb_sc Sc3 (H.blk (k := 0) rfl) rfl)) ?_
     obtain ⟨sd131z, hM⟩ := M.e_grd hM
     simp only [Bool.and_eq_true, decide_eq_true_eq] at sd131z
     refine d_q rfl (fun w' H => x_ix (a := u0_7) (b := I ((l.getD (Int.toNat (r7.getD s11 0)) default).dst)) (v := vat u0_7 1 (Int.toNat ((l.getD (Int.toNat (r7.getD s11 0)) default).dst))) rfl rfl (Sl.ix (α := Int) T26.und T26.size (ownSl (H.get (k := 5) rfl)) (by omega) (by omega))) ?_
     refine d_q rfl (fun w' H => x_ld (p := vat u0_7 1 (Int.toNat ((l.getD (Int.toNat (r7.getD s11 0)) default).dst))) (v := I (r6.getD (Int.toNat ((l.getD (Int.toNat (r7.getD s11 0)) default).dst)) 0)) rfl (ld_sc Sc3 (At.mono (Int_at (ownSl (H.get (k := 5) rfl)) (i := (l.getD (Int.toNat (r7.getD s11 0)) default).dst) (by omega) (by omega)) (ownLe _ (H.get (k := 5) rfl))))) ?_
     refine d_q rfl (fun w' H => x_fa (a := .pointer (some ⟨b_10, 0, none⟩)) (v := .pointer (some ⟨b_10, 2, none⟩)) rfl (fa_blk (o := 0) Fd34_2 Sz3)) ?_
     refine d_q rfl (fun w' H => x_ld (p := .pointer (some ⟨b_10, 2, none⟩)) (v := I ((l.getD (Int.toNat (r7.getD s11 0)) default).day)) rfl (ldb_sc Sc3 (H.blk (k := 0) rfl) rfl)) ?_
     refine d_q rfl (fun w' H => x_fa (a := .pointer (some ⟨b_10, 0, none⟩)) (v := .pointer (some ⟨b_10, 3, none⟩)) rfl (fa_blk (o := 0) Fd34_3 Sz3)) ?_
     refine d_q rfl (fun w' H => x_ld (p := .pointer (some ⟨b_10, 3, none⟩)) (v := I ((l.getD (Int.toNat (r7.getD s11 0)) default).rise)) rfl (ldb_sc Sc3 (H.blk (k := 0) rfl) rfl)) ?_
     refine d_q rfl (fun w' H => x_fa (a := .pointer (some ⟨b_10, 0, none⟩)) (v := .pointer (some ⟨b_10, 4, none⟩)) rfl (fa_blk (o := 0) Fd34_4 Sz3)) ?_
     refine d_q rfl (fun w' H => x_ld (p := .pointer (some ⟨b_10, 4, none⟩)) (v := I ((l.getD (Int.toNat (r7.getD s11 0)) default).err)) rfl (ldb_sc Sc3 (H.blk (k := 0) rfl) rfl)) ?_
     refine d_q rfl (fun w' H => x_bld (ps := [(0, I (r6.getD (Int.toNat ((l.getD (Int.toNat (r7.getD s11 0)) default).src)) 0)), (1, I (r6.getD (Int.toNat ((l.getD (Int.toNat (r7.getD s11 0)) default).dst)) 0)), (2, I ((l.getD (Int.toNat (r7.getD s11 0)) default).day)), (3, I ((l.getD (Int.toNat (r7.getD s11 0)) default).rise)), (4, I ((l.getD (Int.toNat (r7.getD s11 0)) default).err))]) (zs := [I 0, I 0, I 0, I 0, I 0]) (L' := [I (r6.getD (Int.toNat ((l.getD (Int.toNat (r7.getD s11 0)) default).src)) 0), I (r6.getD (Int.toNat ((l.getD (Int.toNat (r7.getD s11 0)) default).dst)) 0), I ((l.getD (Int.toNat (r7.getD s11 0)) default).day), I ((l.getD (Int.toNat (r7.getD s11 0)) default).rise), I ((l.getD (Int.toNat (r7.getD s11 0)) default).err)]) rfl Try.underlying34 Al34 rfl (Bd34 Try.underlying34) (.cons (cs := [I (r6.getD (Int.toNat ((l.getD (Int.toNat (r7.getD s11 0)) default).src)) 0)]) rfl rfl rfl rfl rfl <| .cons (cs := [I (r6.getD (Int.toNat ((l.getD (Int.toNat (r7.getD s11 0)) default).dst)) 0)]) rfl rfl rfl rfl rfl <| .cons (cs := [I ((l.getD (Int.toNat (r7.getD s11 0)) default).day)]) rfl rfl rfl rfl rfl <| .cons (cs := [I ((l.getD (Int.toNat (r7.getD s11 0)) default).rise)]) rfl rfl rfl rfl rfl <| .cons (cs := [I ((l.getD (Int.toNat (r7.getD s11 0)) default).err)]) rfl rfl rfl rfl rfl <| .nil)) ?_
     refine d_l rfl ?_
     refine t_alloc (cs := [I 0, I 0, I 0, I 0, I 0]) H Al34 rfl ?_
     intro b_11 w132z H
     refine s_nil ⟨(H.pick [1, 2, 3, 4, 5, 6, 7, 8, 9, 10, 11] (by decide) rfl), ?_⟩
     refine d_l rfl ?_
     refine t_st (k := 0) (b := b_11) (off := 0) (cs := [I 0, I 0, I 0, I 0, I 0]) (vs := [I (r6.getD (Int.toNat ((l.getD (Int.toNat (r7.getD s11 0)) default).src)) 0), I (r6.getD (Int.toNat ((l.getD (Int.toNat (r7.getD s11 0)) default).dst)) 0), I ((l.getD (Int.toNat (r7.getD s11 0)) default).day), I ((l.getD (Int.toNat (r7.getD s11 0)) default).rise), I ((l.getD (Int.toNat (r7.getD s11 0)) default).err)]) (cs' := [I (r6.getD (Int.toNat ((l.getD (Int.toNat (r7.getD s11 0)) default).src)) 0), I (r6.getD (Int.toNat ((l.getD (Int.toNat (r7.getD s11 0)) default).dst)) 0), I ((l.getD (Int.toNat (r7.getD s11 0)) default).day), I ((l.getD (Int.toNat (r7.getD s11 0)) default).rise), I ((l.getD (Int.toNat (r7.getD s11 0)) default).err)]) (v := .agg #[I (r6.getD (Int.toNat ((l.getD (Int.toNat (r7.getD s11 0)) default).src)) 0), I (r6.getD (Int.toNat ((l.getD (Int.toNat (r7.getD s11 0)) default).dst)) 0), I ((l.getD (Int.toNat (r7.getD s11 0)) default).day), I ((l.getD (Int.toNat (r7.getD s11 0)) default).rise), I ((l.getD (Int.toNat (r7.getD s11 0)) default).err)]) (L' := [cBlk b_11 [I (r6.getD (Int.toNat ((l.getD (Int.toNat (r7.getD s11 0)) default).src)) 0), I (r6.getD (Int.toNat ((l.getD (Int.toNat (r7.getD s11 0)) default).dst)) 0), I ((l.getD (Int.toNat (r7.getD s11 0)) default).day), I ((l.getD (Int.toNat (r7.getD s11 0)) default).rise), I ((l.getD (Int.toNat (r7.getD s11 0)) default).err)] 34, cBlk b_10 [I ((l.getD (Int.toNat (r7.getD s11 0)) default).src), I ((l.getD (Int.toNat (r7.getD s11 0)) default).dst), I ((l.getD (Int.toNat (r7.getD s11 0)) default).day), I ((l.getD (Int.toNat (r7.getD s11 0)) default).rise), I ((l.getD (Int.toNat (r7.getD s11 0)) default).err)] 34, cOwn (α := Line) 34 v_l4 l4, cOwn (α := Int) 3 u0_9 r7, cBlk nb0_6 [v_names, I s9, I s10] 109, cBlk b_8 [I r00, v_l4] 25, cOwn (α := Int) 3 u0_7 r6, cBlk nb0_5 [v_wrong, I s, I s2] 109, cBlk b_4 [I r00, v_l] 25, cOwn (α := Line) 34 v_l l, cOwn (α := Int) 3 u1_3 r12, cBlk nb0_1 [v_numbers, I q1, I q2] 109]) H rfl rfl rfl Sz34 rfl rfl rfl rfl rfl rfl ?_
     intro w133z H
     refine s_nil ⟨(H.pick [1, 2, 3, 4, 5, 6, 7, 8, 9, 10, 11] (by decide) rfl), ?_⟩
     refine d_nil ?_
     refine W.seqJ (fun σ W => ∃ (q17 : Int) (q27 : Int) (s6 : Int) (s7 : Int) (s8 : Int) (ρ : Env), σ = upds ρ [(7, .pointer (some ⟨b_4, 0, none⟩)), (10, .pointer (some ⟨nb0_6, 0, none⟩)), (11, u0_7), (12, .pointer (some ⟨b_8, 0, none⟩)), (16, .pointer (some ⟨b_11, 0, none⟩)), (70, u0_9), (71, I (r7.length : Int)), (72, I (s11 : Int))] ∧ (m_nilometerlaw01_LevelTurned_j3 l r7 s11 l4 q17 q27 s6 s7 s8).Ends x122z ∧ St w W [cBlk nb0_6 [v_names, I q17, I q27] 109, cBlk b_11 [I s6, I s7, I ((l.getD (Int.toNat (r7.getD s11 0)) default).day), I s8, I ((l.getD (Int.toNat (r7.getD s11 0)) default).err)] 34, cBlk b_10 [I ((l.getD (Int.toNat (r7.getD s11 0)) default).src), I ((l.getD (Int.toNat (r7.getD s11 0)) default).dst), I ((l.getD (Int.toNat (r7.getD s11 0)) default).day), I ((l.getD (Int.toNat (r7.getD s11 0)) default).rise), I ((l.getD (Int.toNat (r7.getD s11 0)) default).err)] 34, cOwn (α := Line) 34 v_l4 l4, cOwn (α := Int) 3 u0_9 r7, cBlk b_8 [I r00, v_l4] 25, cOwn (α := Int) 3 u0_7 r6, cBlk nb0_5 [v_wrong, I s, I s2] 109, cBlk b_4 [I r00, v_l] 25, cOwn (α := Line) 34 v_l l, cOwn (α := Int) 3 u1_3 r12, cBlk nb0_1 [v_numbers, I q1, I q2] 109] R) ?_ ?_
     ·skip
      refine W.seq ?_
      refine W.region rfl ?_
      refine s_val (x_mv (v := .pointer (some ⟨nb0_6, 0, none⟩)) rfl) ?_
      obtain ⟨r135z, hx134z, hM⟩ := M.e_bind hM
      refine s_call cf14 [.pointer (some ⟨nb0_6, 0, none⟩), I 2] rfl (nilometerkit_Stream_Next_ok names s9 s10 2 (hC_names.app _) hs_names hx134z _ (St.give (L := [cBlk nb0_6 [v_names, I s9, I s10] 109, cBlk b_11 [I (r6.getD (Int.toNat ((l.getD (Int.toNat (r7.getD s11 0)) default).src)) 0), I (r6.getD (Int.toNat ((l.getD (Int.toNat (r7.getD s11 0)) default).dst)) 0), I ((l.getD (Int.toNat (r7.getD s11 0)) default).day), I ((l.getD (Int.toNat (r7.getD s11 0)) default).rise), I ((l.getD (Int.toNat (r7.getD s11 0)) default).err)] 34, cBlk b_10 [I ((l.getD (Int.toNat (r7.getD s11 0)) default).src), I ((l.getD (Int.toNat (r7.getD s11 0)) default).dst), I ((l.getD (Int.toNat (r7.getD s11 0)) default).day), I ((l.getD (Int.toNat (r7.getD s11 0)) default).rise), I ((l.getD (Int.toNat (r7.getD s11 0)) default).err)] 34, cOwn (α := Line) 34 v_l4 l4, cOwn (α := Int) 3 u0_9 r7, cBlk b_8 [I r00, v_l4] 25, cOwn (α := Int) 3 u0_7 r6, cBlk nb0_5 [v_wrong, I s, I s2] 109, cBlk b_4 [I r00, v_l] 25, cOwn (α := Line) 34 v_l l, cOwn (α := Int) 3 u1_3 r12, cBlk nb0_1 [v_numbers, I q1, I q2] 109]) (A := [cBlk nb0_6 [v_names, I s9, I s10] 109]) (T := [cBlk b_11 [I (r6.getD (Int.toNat ((l.getD (Int.toNat (r7.getD s11 0)) default).src)) 0), I (r6.getD (Int.toNat ((l.getD (Int.toNat (r7.getD s11 0)) default).dst)) 0), I ((l.getD (Int.toNat (r7.getD s11 0)) default).day), I ((l.getD (Int.toNat (r7.getD s11 0)) default).rise), I ((l.getD (Int.toNat (r7.getD s11 0)) default).err)] 34, cBlk b_10 [I ((l.getD (Int.toNat (r7.getD s11 0)) default).src), I ((l.getD (Int.toNat (r7.getD s11 0)) default).dst), I ((l.getD (Int.toNat (r7.getD s11 0)) default).day), I ((l.getD (Int.toNat (r7.getD s11 0)) default).rise), I ((l.getD (Int.toNat (r7.getD s11 0)) default).err)] 34, cOwn (α := Line) 34 v_l4 l4, cOwn (α := Int) 3 u0_9 r7, cBlk b_8 [I r00, v_l4] 25, cOwn (α := Int) 3 u0_7 r6, cBlk nb0_5 [v_wrong, I s, I s2] 109, cBlk b_4 [I r00, v_l] 25, cOwn (α := Line) 34 v_l l, cOwn (α := Int) 3 u1_3 r12, cBlk nb0_1 [v_numbers, I q1, I q2] 109]) (H.pick [4, 0, 1, 2, 3, 5, 6, 7, 8, 9, 10, 11] (by decide) rfl) rfl)) ?_
      rintro vq w136z ⟨r8, q17, q27, hr137z, hvq, H2_⟩
      subst hr137z
      subst vq
      try dsimp only at hM
      replace H : St w w136z [cBlk nb0_6 [v_names, I q17, I q27] 109, cBlk b_11 [I (r6.getD (Int.toNat ((l.getD (Int.toNat (r7.getD s11 0)) default).src)) 0), I (r6.getD (Int.toNat ((l.getD (Int.toNat (r7.getD s11 0)) default).dst)) 0), I ((l.getD (Int.toNat (r7.getD s11 0)) default).day), I ((l.getD (Int.toNat (r7.getD s11 0)) default).rise), I ((l.getD (Int.toNat (r7.getD s11 0)) default).err)] 34, cBlk b_10 [I ((l.getD (Int.toNat (r7.getD s11 0)) default).src), I ((l.getD (Int.toNat (r7.getD s11 0)) default).dst), I ((l.getD (Int.toNat (r7.getD s11 0)) default).day), I ((l.getD (Int.toNat (r7.getD s11 0)) default).rise), I ((l.getD (Int.toNat (r7.getD s11 0)) default).err)] 34, cOwn (α := Line) 34 v_l4 l4, cOwn (α := Int) 3 u0_9 r7, cBlk b_8 [I r00, v_l4] 25, cOwn (α := Int) 3 u0_7 r6, cBlk nb0_5 [v_wrong, I s, I s2] 109, cBlk b_4 [I r00, v_l] 25, cOwn (α := Line) 34 v_l l, cOwn (α := Int) 3 u1_3 r12, cBlk nb0_1 [v_numbers, I q1, I q2] 109] R := H.pick [4, 0, 1, 2, 3, 5, 6, 7, 8, 9, 10, 11] (by decide) rfl |>.back H2_ rfl
      clear H2_
      refine s_val (x_cmp (kd := .i64) (a := r8) (b := 0) (r := r8 == 0) rfl rfl rfl) ?_
      refine s_nil ?_
      refine W.cond (r8 == 0) rfl (fun c138z => ?_) (fun c138z => ?_)
      ·replace hM := M.e_t hM c138z
       simp only [decide_eq_true_eq, decide_eq_false_iff_not, beq_iff_eq, bne_iff_ne, beq_eq_false_iff_ne, bne_eq_false_iff_eq, ne_eq, Decidable.not_not] at c138z
       refine W.region rfl ?_
       refine s_val (x_fa (a := .pointer (some ⟨b_11, 0, none⟩)) (v := .pointer (some ⟨b_11, 1, none⟩)) rfl (fa_blk (o := 0) Fd34_1 Sz3)) ?_
       refine s_val (x_ld (p := .pointer (some ⟨b_11, 1, none⟩)) (v := I (r6.getD (Int.toNat ((l.getD (Int.toNat (r7.getD s11 0)) default).dst)) 0)) rfl (ldb_sc Sc3 (H.blk (k := 1) rfl) rfl)) ?_
       refine s_val (x_fa (a := .pointer (some ⟨b_11, 0, none⟩)) (v := .pointer (some ⟨b_11, 0, none⟩)) rfl (fa_blk (o := 0) Fd34_0 Sz3)) ?_
       refine s_val (x_ld (p := .pointer (some ⟨b_11, 0, none⟩)) (v := I (r6.getD (Int.toNat ((l.getD (Int.toNat (r7.getD s11 0)) default).src)) 0)) rfl (ldb_sc Sc3 (H.blk (k := 1) rfl) rfl)) ?_
       refine s_val (x_fa (a := .pointer (some ⟨b_11, 0, none⟩)) (v := .pointer (some ⟨b_11, 3, none⟩)) rfl (fa_blk (o := 0) Fd34_3 Sz3)) ?_
       refine s_val (x_ld (p := .pointer (some ⟨b_11, 3, none⟩)) (v := I ((l.getD (Int.toNat (r7.getD s11 0)) default).rise)) rfl (ldb_sc Sc3 (H.blk (k := 1) rfl) rfl)) ?_
       obtain ⟨sd139z, hM⟩ := M.e_grd hM
       simp only [Bool.and_eq_true, decide_eq_true_eq] at sd139z
       refine s_val (x_neg (a := (l.getD (Int.toNat (r7.getD s11 0)) default).rise) rfl (by omega)) ?_
       refine s_val (x_fa (a := .pointer (some ⟨b_11, 0, none⟩)) (v := .pointer (some ⟨b_11, 0, none⟩)) rfl (fa_blk (o := 0) Fd34_0 Sz3)) ?_
       refine t_st (k := 1) (b := b_11) (off := 0) (cs := [I (r6.getD (Int.toNat ((l.getD (Int.toNat (r7.getD s11 0)) default).src)) 0), I (r6.getD (Int.toNat ((l.getD (Int.toNat (r7.getD s11 0)) default).dst)) 0), I ((l.getD (Int.toNat (r7.getD s11 0)) default).day), I ((l.getD (Int.toNat (r7.getD s11 0)) default).rise), I ((l.getD (Int.toNat (r7.getD s11 0)) default).err)]) (vs := [I (r6.getD (Int.toNat ((l.getD (Int.toNat (r7.getD s11 0)) default).dst)) 0)]) (cs' := [I (r6.getD (Int.toNat ((l.getD (Int.toNat (r7.getD s11 0)) default).dst)) 0), I (r6.getD (Int.toNat ((l.getD (Int.toNat (r7.getD s11 0)) default).dst)) 0), I ((l.getD (Int.toNat (r7.getD s11 0)) default).day), I ((l.getD (Int.toNat (r7.getD s11 0)) default).rise), I ((l.getD (Int.toNat (r7.getD s11 0)) default).err)]) (v := I (r6.getD (Int.toNat ((l.getD (Int.toNat (r7.getD s11 0)) default).dst)) 0)) (L' := [cBlk nb0_6 [v_names, I q17, I q27] 109, cBlk b_11 [I (r6.getD (Int.toNat ((l.getD (Int.toNat (r7.getD s11 0)) default).dst)) 0), I (r6.getD (Int.toNat ((l.getD (Int.toNat (r7.getD s11 0)) default).dst)) 0), I ((l.getD (Int.toNat (r7.getD s11 0)) default).day), I ((l.getD (Int.toNat (r7.getD s11 0)) default).rise), I ((l.getD (Int.toNat (r7.getD s11 0)) default).err)] 34, cBlk b_10 [I ((l.getD (Int.toNat (r7.getD s11 0)) default).src), I ((l.getD (Int.toNat (r7.getD s11 0)) default).dst), I ((l.getD (Int.toNat (r7.getD s11 0)) default).day), I ((l.getD (Int.toNat (r7.getD s11 0)) default).rise), I ((l.getD (Int.toNat (r7.getD s11 0)) default).err)] 34, cOwn (α := Line) 34 v_l4 l4, cOwn (α := Int) 3 u0_9 r7, cBlk b_8 [I r00, v_l4] 25, cOwn (α := Int) 3 u0_7 r6, cBlk nb0_5 [v_wrong, I s, I s2] 109, cBlk b_4 [I r00, v_l] 25, cOwn (α := Line) 34 v_l l, cOwn (α := Int) 3 u1_3 r12, cBlk nb0_1 [v_numbers, I q1, I q2] 109]) H rfl rfl rfl Sz3 rfl rfl rfl rfl rfl rfl ?_
       intro w140z H
       refine s_val (x_fa (a := .pointer (some ⟨b_11, 0, none⟩)) (v := .pointer (some ⟨b_11, 1, none⟩)) rfl (fa_blk (o := 0) Fd34_1 Sz3)) ?_
       refine t_st (k := 1) (b := b_11) (off := 1) (cs := [I (r6.getD (Int.toNat ((l.getD (Int.toNat (r7.getD s11 0)) default).dst)) 0), I (r6.getD (Int.toNat ((l.getD (Int.toNat (r7.getD s11 0)) default).dst)) 0), I ((l.getD (Int.toNat (r7.getD s11 0)) default).day), I ((l.getD (Int.toNat (r7.getD s11 0)) default).rise), I ((l.getD (Int.toNat (r7.getD s11 0)) default).err)]) (vs := [I (r6.getD (Int.toNat ((l.getD (Int.toNat (r7.getD s11 0)) default).src)) 0)]) (cs' := [I (r6.getD (Int.toNat ((l.getD (Int.toNat (r7.getD s11 0)) default).dst)) 0), I (r6.getD (Int.toNat ((l.getD (Int.toNat (r7.getD s11 0)) default).src)) 0), I ((l.getD (Int.toNat (r7.getD s11 0)) default).day), I ((l.getD (Int.toNat (r7.getD s11 0)) default).rise), I ((l.getD (Int.toNat (r7.getD s11 0)) default).err)]) (v := I (r6.getD (Int.toNat ((l.getD (Int.toNat (r7.getD s11 0)) default).src)) 0)) (L' := [cBlk nb0_6 [v_names, I q17, I q27] 109, cBlk b_11 [I (r6.getD (Int.toNat ((l.getD (Int.toNat (r7.getD s11 0)) default).dst)) 0), I (r6.getD (Int.toNat ((l.getD (Int.toNat (r7.getD s11 0)) default).src)) 0), I ((l.getD (Int.toNat (r7.getD s11 0)) default).day), I ((l.getD (Int.toNat (r7.getD s11 0)) default).rise), I ((l.getD (Int.toNat (r7.getD s11 0)) default).err)] 34, cBlk b_10 [I ((l.getD (Int.toNat (r7.getD s11 0)) default).src), I ((l.getD (Int.toNat (r7.getD s11 0)) default).dst), I ((l.getD (Int.toNat (r7.getD s11 0)) default).day), I ((l.getD (Int.toNat (r7.getD s11 0)) default).rise), I ((l.getD (Int.toNat (r7.getD s11 0)) default).err)] 34, cOwn (α := Line) 34 v_l4 l4, cOwn (α := Int) 3 u0_9 r7, cBlk b_8 [I r00, v_l4] 25, cOwn (α := Int) 3 u0_7 r6, cBlk nb0_5 [v_wrong, I s, I s2] 109, cBlk b_4 [I r00, v_l] 25, cOwn (α := Line) 34 v_l l, cOwn (α := Int) 3 u1_3 r12, cBlk nb0_1 [v_numbers, I q1, I q2] 109]) H rfl rfl rfl Sz3 rfl rfl rfl rfl rfl rfl ?_
       intro w141z H
       refine s_val (x_fa (a := .pointer (some ⟨b_11, 0, none⟩)) (v := .pointer (some ⟨b_11, 3, none⟩)) rfl (fa_blk (o := 0) Fd34_3 Sz3)) ?_
       refine t_st (k := 1) (b := b_11) (off := 3) (cs := [I (r6.getD (Int.toNat ((l.getD (Int.toNat (r7.getD s11 0)) default).dst)) 0), I (r6.getD (Int.toNat ((l.getD (Int.toNat (r7.getD s11 0)) default).src)) 0), I ((l.getD (Int.toNat (r7.getD s11 0)) default).day), I ((l.getD (Int.toNat (r7.getD s11 0)) default).rise), I ((l.getD (Int.toNat (r7.getD s11 0)) default).err)]) (vs := [I (-((l.getD (Int.toNat (r7.getD s11 0)) default).rise))]) (cs' := [I (r6.getD (Int.toNat ((l.getD (Int.toNat (r7.getD s11 0)) default).dst)) 0), I (r6.getD (Int.toNat ((l.getD (Int.toNat (r7.getD s11 0)) default).src)) 0), I ((l.getD (Int.toNat (r7.getD s11 0)) default).day), I (-((l.getD (Int.toNat (r7.getD s11 0)) default).rise)), I ((l.getD (Int.toNat (r7.getD s11 0)) default).err)]) (v := I (-((l.getD (Int.toNat (r7.getD s11 0)) default).rise))) (L' := [cBlk nb0_6 [v_names, I q17, I q27] 109, cBlk b_11 [I (r6.getD (Int.toNat ((l.getD (Int.toNat (r7.getD s11 0)) default).dst)) 0), I (r6.getD (Int.toNat ((l.getD (Int.toNat (r7.getD s11 0)) default).src)) 0), I ((l.getD (Int.toNat (r7.getD s11 0)) default).day), I (-((l.getD (Int.toNat (r7.getD s11 0)) default).rise)), I ((l.getD (Int.toNat (r7.getD s11 0)) default).err)] 34, cBlk b_10 [I ((l.getD (Int.toNat (r7.getD s11 0)) default).src), I ((l.getD (Int.toNat (r7.getD s11 0)) default).dst), I ((l.getD (Int.toNat (r7.getD s11 0)) default).day), I ((l.getD (Int.toNat (r7.getD s11 0)) default).rise), I ((l.getD (Int.toNat (r7.getD s11 0)) default).err)] 34, cOwn (α := Line) 34 v_l4 l4, cOwn (α := Int) 3 u0_9 r7, cBlk b_8 [I r00, v_l4] 25, cOwn (α := Int) 3 u0_7 r6, cBlk nb0_5 [v_wrong, I s, I s2] 109, cBlk b_4 [I r00, v_l] 25, cOwn (α := Line) 34 v_l l, cOwn (α := Int) 3 u1_3 r12, cBlk nb0_1 [v_numbers, I q1, I q2] 109]) H rfl rfl rfl Sz3 rfl rfl rfl rfl rfl rfl ?_
       intro w142z H
       refine s_nil ?_
       exact ⟨q17, q27, r6.getD (Int.toNat ((l.getD (Int.toNat (r7.getD s11 0)) default).dst)) 0, r6.getD (Int.toNat ((l.getD (Int.toNat (r7.getD s11 0)) default).src)) 0, -((l.getD (Int.toNat (r7.getD s11 0)) default).rise), _, upds_of _ _ ⟨rfl, rfl, rfl, rfl, rfl, rfl, rfl, rfl, trivial⟩, hM, H⟩
      ·replace hM := M.e_f hM c138z
       simp only [decide_eq_true_eq, decide_eq_false_iff_not, beq_iff_eq, bne_iff_ne, beq_eq_false_iff_ne, bne_eq_false_iff_eq, ne_eq, Decidable.not_not] at c138z
       refine W.skip ?_
       exact ⟨q17, q27, r6.getD (Int.toNat ((l.getD (Int.toNat (r7.getD s11 0)) default).src)) 0, r6.getD (Int.toNat ((l.getD (Int.toNat (r7.getD s11 0)) default).dst)) 0, (l.getD (Int.toNat (r7.getD s11 0)) default).rise, _, upds_of _ _ ⟨rfl, rfl, rfl, rfl, rfl, rfl, rfl, rfl, trivial⟩, hM, H⟩
     ·rintro _ w143z ⟨q17, q27, s6, s7, s8, ρ, rfl, hM, H⟩
      unfold m_nilometerlaw01_LevelTurned_j3 at hM
      refine W.region rfl ?_
      refine s_val (x_fa (a := .pointer (some ⟨b_8, 0, none⟩)) (v := .pointer (some ⟨b_8, 1, none⟩)) rfl (fa_blk (o := 0) Fd25_1 Sz23)) ?_
      refine s_val (x_ld (p := .pointer (some ⟨b_8, 1, none⟩)) (v := v_l4) rfl (ldb_sc Sc23 (H.blk (k := 5) rfl) rfl)) ?_
      refine s_val (x_ld (p := .pointer (some ⟨b_11, 0, none⟩)) (v := .agg #[I s6, I s7, I ((l.getD (Int.toNat (r7.getD s11 0)) default).day), I s8, I ((l.getD (Int.toNat (r7.getD s11 0)) default).err)]) rfl (ldb_ag (ds := [I s6, I s7, I ((l.getD (Int.toNat (r7.getD s11 0)) default).day), I s8, I ((l.getD (Int.toNat (r7.getD s11 0)) default).err)]) Ag34 Sz34 (H.blk (k := 1) rfl) rfl rfl)) ?_
      refine t_bs (α := Line) T23 [.agg #[I s6, I s7, I ((l.getD (Int.toNat (r7.getD s11 0)) default).day), I s8, I ((l.getD (Int.toNat (r7.getD s11 0)) default).err)]] [(⟨(s6 : Int), (s7 : Int), ((l.getD (Int.toNat (r7.getD s11 0)) default).day : Int), (s8 : Int), ((l.getD (Int.toNat (r7.getD s11 0)) default).err : Int)⟩ : Line)] H rfl (.cons rfl (Flat.rep_enc _ (⟨(s6 : Int), (s7 : Int), ((l.getD (Int.toNat (r7.getD s11 0)) default).day : Int), (s8 : Int), ((l.getD (Int.toNat (r7.getD s11 0)) default).err : Int)⟩ : Line)) <| .nil) rfl rfl rfl ?_
      intro v144z w145z H
      obtain ⟨sd146z, hM⟩ := M.e_grd hM
      simp only [Bool.and_eq_true, decide_eq_true_eq] at sd146z
      refine t_app (α := Line) (k := 4) (l := l4) (l2 := [(⟨(s6 : Int), (s7 : Int), ((l.getD (Int.toNat (r7.getD s11 0)) default).day : Int), (s8 : Int), ((l.getD (Int.toNat (r7.getD s11 0)) default).err : Int)⟩ : Line)]) (l' := l4 ++ ([(⟨(s6 : Int), (s7 : Int), ((l.getD (Int.toNat (r7.getD s11 0)) default).day : Int), (s8 : Int), ((l.getD (Int.toNat (r7.getD s11 0)) default).err : Int)⟩ : Line)])) (vy := v144z) T23 rfl H rfl rfl rfl (ownSl (H.get (k := 0) rfl)) (ownLe _ (H.get (k := 0) rfl)) (rfl) (by first | omega | (simp only [List.length_nil] at *; omega)) ?_
      intro v147z w148z H
      replace H : St w w148z [cOwn (α := Line) 34 v144z ([(⟨(s6 : Int), (s7 : Int), ((l.getD (Int.toNat (r7.getD s11 0)) default).day : Int), (s8 : Int), ((l.getD (Int.toNat (r7.getD s11 0)) default).err : Int)⟩ : Line)]), cBlk nb0_6 [v_names, I q17, I q27] 109, cBlk b_11 [I s6, I s7, I ((l.getD (Int.toNat (r7.getD s11 0)) default).day), I s8, I ((l.getD (Int.toNat (r7.getD s11 0)) default).err)] 34, cBlk b_10 [I ((l.getD (Int.toNat (r7.getD s11 0)) default).src), I ((l.getD (Int.toNat (r7.getD s11 0)) default).dst), I ((l.getD (Int.toNat (r7.getD s11 0)) default).day), I ((l.getD (Int.toNat (r7.getD s11 0)) default).rise), I ((l.getD (Int.toNat (r7.getD s11 0)) default).err)] 34, cOwn (α := Line) 34 v147z (l4 ++ ([(⟨(s6 : Int), (s7 : Int), ((l.getD (Int.toNat (r7.getD s11 0)) default).day : Int), (s8 : Int), ((l.getD (Int.toNat (r7.getD s11 0)) default).err : Int)⟩ : Line)])), cOwn (α := Int) 3 u0_9 r7, cBlk b_8 [I r00, v_l4] 25, cOwn (α := Int) 3 u0_7 r6, cBlk nb0_5 [v_wrong, I s, I s2] 109, cBlk b_4 [I r00, v_l] 25, cOwn (α := Line) 34 v_l l, cOwn (α := Int) 3 u1_3 r12, cBlk nb0_1 [v_numbers, I q1, I q2] 109] R := H
      refine s_val (x_fa (a := .pointer (some ⟨b_8, 0, none⟩)) (v := .pointer (some ⟨b_8, 1, none⟩)) rfl (fa_blk (o := 0) Fd25_1 Sz23)) ?_
      refine t_st (k := 6) (b := b_8) (off := 1) (cs := [I r00, v_l4]) (vs := [v147z]) (cs' := [I r00, v147z]) (v := v147z) (L' := [cOwn (α := Line) 34 v144z ([(⟨(s6 : Int), (s7 : Int), ((l.getD (Int.toNat (r7.getD s11 0)) default).day : Int), (s8 : Int), ((l.getD (Int.toNat (r7.getD s11 0)) default).err : Int)⟩ : Line)]), cBlk nb0_6 [v_names, I q17, I q27] 109, cBlk b_11 [I s6, I s7, I ((l.getD (Int.toNat (r7.getD s11 0)) default).day), I s8, I ((l.getD (Int.toNat (r7.getD s11 0)) default).err)] 34, cBlk b_10 [I ((l.getD (Int.toNat (r7.getD s11 0)) default).src), I ((l.getD (Int.toNat (r7.getD s11 0)) default).dst), I ((l.getD (Int.toNat (r7.getD s11 0)) default).day), I ((l.getD (Int.toNat (r7.getD s11 0)) default).rise), I ((l.getD (Int.toNat (r7.getD s11 0)) default).err)] 34, cOwn (α := Line) 34 v147z (l4 ++ ([(⟨(s6 : Int), (s7 : Int), ((l.getD (Int.toNat (r7.getD s11 0)) default).day : Int), (s8 : Int), ((l.getD (Int.toNat (r7.getD s11 0)) default).err : Int)⟩ : Line)])), cOwn (α := Int) 3 u0_9 r7, cBlk b_8 [I r00, v147z] 25, cOwn (α := Int) 3 u0_7 r6, cBlk nb0_5 [v_wrong, I s, I s2] 109, cBlk b_4 [I r00, v_l] 25, cOwn (α := Line) 34 v_l l, cOwn (α := Int) 3 u1_3 r12, cBlk nb0_1 [v_numbers, I q1, I q2] 109]) H rfl rfl rfl Sz23 (Sl.cells (ownSl (H.get (k := 4) rfl))) rfl rfl (by simp only [List.all_cons, List.all_nil, Bool.true_and, Bool.and_true, Sl.oc (ownSl (H.get (k := 4) rfl))]; try rfl) rfl rfl ?_
      intro w149z H
      refine s_nil ?_
      refine W.region rfl ?_
      refine s_val (x_ari (a := (s11 : Int)) (b := 1) (r := (s11 : Int) + 1) rfl rfl rfl (by omega)) ?_
      refine s_val (x_mv (v := I ((s11 : Int) + 1)) rfl) ?_
      refine s_nil ?_
      exact ⟨m120z, lt121z, q17, q27, s11 + 1, l4 ++ ([(⟨(s6 : Int), (s7 : Int), ((l.getD (Int.toNat (r7.getD s11 0)) default).day : Int), (s8 : Int), ((l.getD (Int.toNat (r7.getD s11 0)) default).err : Int)⟩ : Line)]), v147z, _, upds_of _ _ ⟨rfl, rfl, rfl, rfl, rfl, rfl, rfl, trivial⟩, M.e_inl hM hN123z, (H.pick [4, 5, 1, 6, 7, 8, 9, 10, 11, 12] (by decide) rfl)⟩
    ·replace hM := M.e_f hM c124z
     simp only [decide_eq_true_eq, decide_eq_false_iff_not, beq_iff_eq, bne_iff_ne, beq_eq_false_iff_ne, bne_eq_false_iff_eq, ne_eq, Decidable.not_not] at c124z
     refine W.exit ?_
     have hX150z := M.e_inr hM hN123z
     subst hX150z
     replace hM := hk116z
     try dsimp only at hM
     refine W.seq ?_
     refine W.seq ?_
     refine W.region rfl ?_
     refine s_val (x_fa (a := .pointer (some ⟨b_4, 0, none⟩)) (v := .pointer (some ⟨b_4, 0, none⟩)) rfl (fa_blk (o := 0) Fd25_0 Sz3)) ?_
     refine s_val (x_ld (p := .pointer (some ⟨b_4, 0, none⟩)) (v := I r00) rfl (ldb_sc Sc3 (H.blk (k := 6) rfl) rfl)) ?_
     refine s_val (x_mv (v := I 0) rfl) ?_
     refine s_nil ?_
     refine W.block ?_
     obtain ⟨ex151z, hi152z, hk153z⟩ := M.e_bind hM
     obtain ⟨m0_, hi152z⟩ := M.e_iter hi152z
     refine W.loop (fun m σ W => ∃ (s15 : Nat) (ρ : Env), σ = upds ρ [(7, .pointer (some ⟨b_4, 0, none⟩)), (11, u0_7), (12, .pointer (some ⟨b_8, 0, none⟩)), (119, I r00), (120, I (s15 : Int))] ∧ M.iterN (m_nilometerlaw01_LevelTurned_b11 r00 l r6 l4) m s15 = some ex151z ∧ St w W [cOwn (α := Line) 34 v_l4 l4, cOwn (α := Int) 3 u0_9 r7, cBlk nb0_6 [v_names, I s9, I s10] 109, cBlk b_8 [I r00, v_l4] 25, cOwn (α := Int) 3 u0_7 r6, cBlk nb0_5 [v_wrong, I s, I s2] 109, cBlk b_4 [I r00, v_l] 25, cOwn (α := Line) 34 v_l l, cOwn (α := Int) 3 u1_3 r12, cBlk nb0_1 [v_numbers, I q1, I q2] 109] R) ?_ ?_
     ·exact ⟨_, 0, _, upds_of _ _ ⟨rfl, rfl, rfl, rfl, rfl, trivial⟩, hi152z, H⟩
     ·rintro m156z σ w154z ⟨s15, ρ, rfl, hI155z, H⟩
      obtain ⟨m157z, lt158z, x159z, hM, hN160z⟩ := M.e_iterN hI155z
      simp only [m_nilometerlaw01_LevelTurned_b11] at hM
      clear hI155z
      refine W.seq ?_
      refine W.region rfl ?_
      refine s_val (x_cmp (kd := .i64) (a := (s15 : Int)) (b := r00) (r := decide ((s15 : Int) < r00)) rfl rfl rfl) ?_
      refine s_nil ?_
      refine W.seq ?_
      refine W.cond (decide ((s15 : Int) < r00)) rfl (fun c161z => ?_) (fun c161z => ?_)
      ·replace hM := M.e_t hM c161z
       simp only [decide_eq_true_eq, decide_eq_false_iff_not, beq_iff_eq, bne_iff_ne, beq_eq_false_iff_ne, bne_eq_false_iff_eq, ne_eq, Decidable.not_not] at c161z
       refine W.skip ?_
       refine W.seq ?_
       refine W.block ?_
       refine W.seq ?_
       refine W.region rfl ?_
       refine s_val (x_mv (v := I (s15 : Int)) rfl) ?_
       refine s_val (x_as (v := I (s15 : Int)) rfl) ?_
       refine s_nil ?_
       refine W.seq ?_
       refine W.region rfl ?_
       refine s_val (x_fa (a := .pointer (some ⟨b_4, 0, none⟩)) (v := .pointer (some ⟨b_4, 0, none⟩)) rfl (fa_blk (o := 0) Fd25_0 Sz3)) ?_
       refine s_val (x_ld (p := .pointer (some ⟨b_4, 0, none⟩)) (v := I r00) rfl (ldb_sc Sc3 (H.blk (k := 6) rfl) rfl)) ?_
       refine s_val (x_mv (v := I 0) rfl) ?_
       refine s_nil ?_
       refine W.block ?_
       obtain ⟨ex162z, hi163z, hk164z⟩ := M.e_bind hM
       obtain ⟨m0_, hi163z⟩ := M.e_iter hi163z
       refine W.loop (fun m σ W => ∃ (s14 : Nat) (ρ : Env), σ = upds ρ [(7, .pointer (some ⟨b_4, 0, none⟩)), (11, u0_7), (12, .pointer (some ⟨b_8, 0, none⟩)), (17, I (s15 : Int)), (119, I r00), (120, I (s15 : Int)), (124, I r00), (125, I (s14 : Int))] ∧ M.iterN (m_nilometerlaw01_LevelTurned_b10 r00 l r6 l4 s15) m s14 = some ex162z ∧ St w W [cOwn (α := Line) 34 v_l4 l4, cOwn (α := Int) 3 u0_9 r7, cBlk nb0_6 [v_names, I s9, I s10] 109, cBlk b_8 [I r00, v_l4] 25, cOwn (α := Int) 3 u0_7 r6, cBlk nb0_5 [v_wrong, I s, I s2] 109, cBlk b_4 [I r00, v_l] 25, cOwn (α := Line) 34 v_l l, cOwn (α := Int) 3 u1_3 r12, cBlk nb0_1 [v_numbers, I q1, I q2] 109] R) ?_ ?_
       ·exact ⟨_, 0, _, upds_of _ _ ⟨rfl, rfl, rfl, rfl, rfl, rfl, rfl, rfl, trivial⟩, hi163z, H⟩
       ·rintro m167z σ w165z ⟨s14, ρ, rfl, hI166z, H⟩
        obtain ⟨m168z, lt169z, x170z, hM, hN171z⟩ := M.e_iterN hI166z
        simp only [m_nilometerlaw01_LevelTurned_b10] at hM
        clear hI166z
        refine W.seq ?_
        refine W.region rfl ?_
        refine s_val (x_cmp (kd := .i64) (a := (s14 : Int)) (b := r00) (r := decide ((s14 : Int) < r00)) rfl rfl rfl) ?_
        refine s_nil ?_
        refine W.seq ?_
        refine W.cond (decide ((s14 : Int) < r00)) rfl (fun c172z => ?_) (fun c172z => ?_)
        ·replace hM := M.e_t hM c172z
         simp only [decide_eq_true_eq, decide_eq_false_iff_not, beq_iff_eq, bne_iff_ne, beq_eq_false_iff_ne, bne_eq_false_iff_eq, ne_eq, Decidable.not_not] at c172z
         refine W.skip ?_
         refine W.seq ?_
         refine W.block ?_
         refine W.seq ?_
         refine W.region rfl ?_
         refine s_val (x_mv (v := I (s14 : Int)) rfl) ?_
         refine s_val (x_as (v := I (s14 : Int)) rfl) ?_
         refine s_nil ?_
         refine W.seq ?_
         refine W.region rfl ?_
         refine s_val (x_ld (p := .pointer (some ⟨b_4, 0, none⟩)) (v := .agg #[I r00, v_l]) rfl (ldb_ag (ds := [I r00, v_l]) Ag25 Sz25 (H.blk (k := 6) rfl) rfl rfl)) ?_
         refine s_val (x_mv (v := I (s15 : Int)) rfl) ?_
         refine s_val (x_mv (v := I (s14 : Int)) rfl) ?_
         obtain ⟨r174z, hx173z, hM⟩ := M.e_bind hM
         refine s_call cf17 [.agg #[I r00, v_l], I (s15 : Int), I (s14 : Int)] rfl (level_Between_ok r00 l (s15 : Int) (s14 : Int) (Reads.of (k := 7) rfl ownLe) (ownSl (H.get (k := 7) rfl)) hx173z _ (St.give (T := [cOwn (α := Line) 34 v_l4 l4, cOwn (α := Int) 3 u0_9 r7, cBlk nb0_6 [v_names, I s9, I s10] 109, cBlk b_8 [I r00, v_l4] 25, cOwn (α := Int) 3 u0_7 r6, cBlk nb0_5 [v_wrong, I s, I s2] 109, cBlk b_4 [I r00, v_l] 25, cOwn (α := Line) 34 v_l l, cOwn (α := Int) 3 u1_3 r12, cBlk nb0_1 [v_numbers, I q1, I q2] 109]) H rfl)) ?_
         rintro vq w175z ⟨r002, r012, r15, hr176z, hvq, H2_⟩
         subst hr176z
         subst vq
         try dsimp only at hM
         replace H : St w w175z [cOwn (α := Line) 34 v_l4 l4, cOwn (α := Int) 3 u0_9 r7, cBlk nb0_6 [v_names, I s9, I s10] 109, cBlk b_8 [I r00, v_l4] 25, cOwn (α := Int) 3 u0_7 r6, cBlk nb0_5 [v_wrong, I s, I s2] 109, cBlk b_4 [I r00, v_l] 25, cOwn (α := Line) 34 v_l l, cOwn (α := Int) 3 u1_3 r12, cBlk nb0_1 [v_numbers, I q1, I q2] 109] R := H.back H2_ rfl
         clear H2_
         refine s_val (x_mv (v := .tuple #[.agg #[I r002, I r012], I r15]) rfl) ?_
         refine s_val (x_ext (vs := [.agg #[I r002, I r012], I r15]) (v := .agg #[I r002, I r012]) rfl rfl) ?_
         refine s_val (x_ext (vs := [.agg #[I r002, I r012], I r15]) (v := I r15) rfl rfl) ?_
         refine t_alloc (cs := [I 0, I 0]) H Al37 rfl ?_
         intro b_15 w177z H
         refine t_st (k := 0) (b := b_15) (off := 0) (cs := [I 0, I 0]) (vs := [I r002, I r012]) (cs' := [I r002, I r012]) (v := .agg #[I r002, I r012]) (L' := [cBlk b_15 [I r002, I r012] 37, cOwn (α := Line) 34 v_l4 l4, cOwn (α := Int) 3 u0_9 r7, cBlk nb0_6 [v_names, I s9, I s10] 109, cBlk b_8 [I r00, v_l4] 25, cOwn (α := Int) 3 u0_7 r6, cBlk nb0_5 [v_wrong, I s, I s2] 109, cBlk b_4 [I r00, v_l] 25, cOwn (α := Line) 34 v_l l, cOwn (α := Int) 3 u1_3 r12, cBlk nb0_1 [v_numbers, I q1, I q2] 109]) H rfl rfl rfl Sz37 rfl rfl rfl rfl rfl rfl ?_
         intro w178z H
         refine s_val (x_as (v := I r15) rfl) ?_
         refine s_nil ?_
         refine W.seqJ (fun σ W => ∃ (b_16 : Nat) (r16 : Int) (r003 : Int) (r013 : Int) (ρ : Env), σ = upds ρ [(7, .pointer (some ⟨b_4, 0, none⟩)), (11, u0_7), (12, .pointer (some ⟨b_8, 0, none⟩)), (17, I (s15 : Int)), (19, .pointer (some ⟨b_15, 0, none⟩)), (20, I r15), (21, .pointer (some ⟨b_16, 0, none⟩)), (22, I r16), (119, I r00), (120, I (s15 : Int)), (124, I r00), (125, I (s14 : Int))] ∧ (m_nilometerlaw01_LevelTurned_j9 s14 r002 r012 r15 r003 r013 r16).Ends x170z ∧ St w W [cBlk b_16 [I r003, I r013] 37, cBlk b_15 [I r002, I r012] 37, cOwn (α := Line) 34 v_l4 l4, cOwn (α := Int) 3 u0_9 r7, cBlk nb0_6 [v_names, I s9, I s10] 109, cBlk b_8 [I r00, v_l4] 25, cOwn (α := Int) 3 u0_7 r6, cBlk nb0_5 [v_wrong, I s, I s2] 109, cBlk b_4 [I r00, v_l] 25, cOwn (α := Line) 34 v_l l, cOwn (α := Int) 3 u1_3 r12, cBlk nb0_1 [v_numbers, I q1, I q2] 109] R) ?_ ?_
         ·skip
          refine W.drawT (fun W => St w W [cBlk b_15 [I r002, I r012] 37, cOwn (α := Line) 34 v_l4 l4, cOwn (α := Int) 3 u0_9 r7, cBlk nb0_6 [v_names, I s9, I s10] 109, cBlk b_8 [I r00, v_l4] 25, cOwn (α := Int) 3 u0_7 r6, cBlk nb0_5 [v_wrong, I s, I s2] 109, cBlk b_4 [I r00, v_l] 25, cOwn (α := Line) 34 v_l l, cOwn (α := Int) 3 u1_3 r12, cBlk nb0_1 [v_numbers, I q1, I q2] 109] R) (.q 0 (.q 1 (.q 2 (.q 3 (.q 4 (.q 5 (.q 6 (.q 7 (.q 8 (.l2 9 (.q 10 (.q 11 (.q 12 (.l 13 (.l 14 (.q 15 .nil)))))) 13 (.l 9 (.q 10 (.q 11 (.q 12 (.l 14 (.q 15 .nil)))))))))))))))) mixed (by decide +kernel) rfl ?_
          intro w179z hx_
          replace H : St w w179z [cBlk b_15 [I r002, I r012] 37, cOwn (α := Line) 34 v_l4 l4, cOwn (α := Int) 3 u0_9 r7, cBlk nb0_6 [v_names, I s9, I s10] 109, cBlk b_8 [I r00, v_l4] 25, cOwn (α := Int) 3 u0_7 r6, cBlk nb0_5 [v_wrong, I s, I s2] 109, cBlk b_4 [I r00, v_l] 25, cOwn (α := Line) 34 v_l l, cOwn (α := Int) 3 u1_3 r12, cBlk nb0_1 [v_numbers, I q1, I q2] 109] R := H.ext hx_
          clear hx_
          refine ⟨(H.pick [0, 1, 2, 3, 4, 5, 6, 7, 8, 9, 10] (by decide) rfl), ?_⟩
          refine t_q rfl (fun w' H => x_ld (p := .pointer (some ⟨b_8, 0, none⟩)) (v := .agg #[I r00, v_l4]) rfl (ldb_ag (ds := [I r00, v_l4]) Ag25 Sz25 (H.blk (k := 4) rfl) rfl rfl)) ?_
          refine t_q rfl (fun w' H => x_mv (v := u0_7) rfl) ?_
          refine t_q rfl (fun w' H => x_mv (v := I (s15 : Int)) rfl) ?_
          obtain ⟨sd180z, hM⟩ := M.e_grd hM
          simp only [Bool.and_eq_true, decide_eq_true_eq] at sd180z
          refine t_q rfl (fun w' H => x_ix (a := u0_7) (b := I (s15 : Int)) (v := vat u0_7 1 (Int.toNat (s15 : Int))) rfl rfl (Sl.ix (α := Int) T26.und T26.size (ownSl (H.get (k := 5) rfl)) (by omega) (by omega))) ?_
          refine t_q rfl (fun w' H => x_ld (p := vat u0_7 1 (Int.toNat (s15 : Int))) (v := I (r6.getD s15 0)) rfl (ld_sc Sc3 (At.mono (Int_at (ownSl (H.get (k := 5) rfl)) (i := (s15 : Int)) (by omega) (by omega)) (ownLe _ (H.get (k := 5) rfl))))) ?_
          refine t_q rfl (fun w' H => x_mv (v := u0_7) rfl) ?_
          refine t_q rfl (fun w' H => x_mv (v := I (s14 : Int)) rfl) ?_
          obtain ⟨sd181z, hM⟩ := M.e_grd hM
          simp only [Bool.and_eq_true, decide_eq_true_eq] at sd181z
          refine t_q rfl (fun w' H => x_ix (a := u0_7) (b := I (s14 : Int)) (v := vat u0_7 1 (Int.toNat (s14 : Int))) rfl rfl (Sl.ix (α := Int) T26.und T26.size (ownSl (H.get (k := 5) rfl)) (by omega) (by omega))) ?_
          refine t_q rfl (fun w' H => x_ld (p := vat u0_7 1 (Int.toNat (s14 : Int))) (v := I (r6.getD s14 0)) rfl (ld_sc Sc3 (At.mono (Int_at (ownSl (H.get (k := 5) rfl)) (i := (s14 : Int)) (by omega) (by omega)) (ownLe _ (H.get (k := 5) rfl))))) ?_
          refine t_l2 rfl rfl ?_ ?_
          ·skip
           obtain ⟨r194z, hx193z, hM⟩ := M.e_bind hM
           refine s_call cf17 [.agg #[I r00, v_l4], I (r6.getD s15 0), I (r6.getD s14 0)] rfl (level_Between_ok r00 l4 (r6.getD s15 0) (r6.getD s14 0) (Reads.of (k := 1) rfl ownLe) (ownSl (H.get (k := 1) rfl)) hx193z _ (St.give (T := [cBlk b_15 [I r002, I r012] 37, cOwn (α := Line) 34 v_l4 l4, cOwn (α := Int) 3 u0_9 r7, cBlk nb0_6 [v_names, I s9, I s10] 109, cBlk b_8 [I r00, v_l4] 25, cOwn (α := Int) 3 u0_7 r6, cBlk nb0_5 [v_wrong, I s, I s2] 109, cBlk b_4 [I r00, v_l] 25, cOwn (α := Line) 34 v_l l, cOwn (α := Int) 3 u1_3 r12, cBlk nb0_1 [v_numbers, I q1, I q2] 109]) H rfl)) ?_
           rintro vq w195z ⟨r003, r013, r16, hr196z, hvq, H2_⟩
           subst hr196z
           subst vq
           try dsimp only at hM
           replace H : St w w195z [cBlk b_15 [I r002, I r012] 37, cOwn (α := Line) 34 v_l4 l4, cOwn (α := Int) 3 u0_9 r7, cBlk nb0_6 [v_names, I s9, I s10] 109, cBlk b_8 [I r00, v_l4] 25, cOwn (α := Int) 3 u0_7 r6, cBlk nb0_5 [v_wrong, I s, I s2] 109, cBlk b_4 [I r00, v_l] 25, cOwn (α := Line) 34 v_l l, cOwn (α := Int) 3 u1_3 r12, cBlk nb0_1 [v_numbers, I q1, I q2] 109] R := H.back H2_ rfl
           clear H2_
           refine s_nil ⟨(H.pick [0, 1, 2, 3, 4, 5, 6, 7, 8, 9, 10] (by decide) rfl), ?_⟩
           refine t_q rfl (fun w' H => x_mv (v := .tuple #[.agg #[I r003, I r013], I r16]) rfl) ?_
           refine t_q rfl (fun w' H => x_ext (vs := [.agg #[I r003, I r013], I r16]) (v := .agg #[I r003, I r013]) rfl rfl) ?_
           refine t_q rfl (fun w' H => x_ext (vs := [.agg #[I r003, I r013], I r16]) (v := I r16) rfl rfl) ?_
           refine t_l rfl ?_
           refine t_alloc (cs := [I 0, I 0]) H Al37 rfl ?_
           intro b_16 w197z H
           refine s_nil ⟨(H.pick [1, 2, 3, 4, 5, 6, 7, 8, 9, 10, 11] (by decide) rfl), ?_⟩
           refine t_l rfl ?_
           refine t_st (k := 0) (b := b_16) (off := 0) (cs := [I 0, I 0]) (vs := [I r003, I r013]) (cs' := [I r003, I r013]) (v := .agg #[I r003, I r013]) (L' := [cBlk b_16 [I r003, I r013] 37, cBlk b_15 [I r002, I r012] 37, cOwn (α := Line) 34 v_l4 l4, cOwn (α := Int) 3 u0_9 r7, cBlk nb0_6 [v_names, I s9, I s10] 109, cBlk b_8 [I r00, v_l4] 25, cOwn (α := Int) 3 u0_7 r6, cBlk nb0_5 [v_wrong, I s, I s2] 109, cBlk b_4 [I r00, v_l] 25, cOwn (α := Line) 34 v_l l, cOwn (α := Int) 3 u1_3 r12, cBlk nb0_1 [v_numbers, I q1, I q2] 109]) H rfl rfl rfl Sz37 rfl rfl rfl rfl rfl rfl ?_
           intro w198z H
           refine s_nil ⟨(H.pick [1, 2, 3, 4, 5, 6, 7, 8, 9, 10, 11] (by decide) rfl), ?_⟩
           refine t_q rfl (fun w' H => x_as (v := I r16) rfl) ?_
           refine t_nil ?_
           exact ⟨b_16, r16, r003, r013, _, upds_of _ _ ⟨rfl, rfl, rfl, rfl, rfl, rfl, rfl, rfl, rfl, rfl, rfl, rfl, trivial⟩, hM, H⟩
          ·skip
           refine t_alloc (cs := [I 0, I 0]) H Al37 rfl ?_
           intro b_16 w199z H
           refine s_nil ⟨(H.pick [1, 2, 3, 4, 5, 6, 7, 8, 9, 10, 11] (by decide) rfl), ?_⟩
           refine t_l rfl ?_
           obtain ⟨r201z, hx200z, hM⟩ := M.e_bind hM
           refine s_call cf17 [.agg #[I r00, v_l4], I (r6.getD s15 0), I (r6.getD s14 0)] rfl (level_Between_ok r00 l4 (r6.getD s15 0) (r6.getD s14 0) (Reads.of (k := 2) rfl ownLe) (ownSl (H.get (k := 2) rfl)) hx200z _ (St.give (T := [cBlk b_16 [I 0, I 0] 37, cBlk b_15 [I r002, I r012] 37, cOwn (α := Line) 34 v_l4 l4, cOwn (α := Int) 3 u0_9 r7, cBlk nb0_6 [v_names, I s9, I s10] 109, cBlk b_8 [I r00, v_l4] 25, cOwn (α := Int) 3 u0_7 r6, cBlk nb0_5 [v_wrong, I s, I s2] 109, cBlk b_4 [I r00, v_l] 25, cOwn (α := Line) 34 v_l l, cOwn (α := Int) 3 u1_3 r12, cBlk nb0_1 [v_numbers, I q1, I q2] 109]) H rfl)) ?_
           rintro vq w202z ⟨r003, r013, r16, hr203z, hvq, H2_⟩
           subst hr203z
           subst vq
           try dsimp only at hM
           replace H : St w w202z [cBlk b_16 [I 0, I 0] 37, cBlk b_15 [I r002, I r012] 37, cOwn (α := Line) 34 v_l4 l4, cOwn (α := Int) 3 u0_9 r7, cBlk nb0_6 [v_names, I s9, I s10] 109, cBlk b_8 [I r00, v_l4] 25, cOwn (α := Int) 3 u0_7 r6, cBlk nb0_5 [v_wrong, I s, I s2] 109, cBlk b_4 [I r00, v_l] 25, cOwn (α := Line) 34 v_l l, cOwn (α := Int) 3 u1_3 r12, cBlk nb0_1 [v_numbers, I q1, I q2] 109] R := H.back H2_ rfl
           clear H2_
           refine s_nil ⟨(H.pick [1, 2, 3, 4, 5, 6, 7, 8, 9, 10, 11] (by decide) rfl), ?_⟩
           refine t_q rfl (fun w' H => x_mv (v := .tuple #[.agg #[I r003, I r013], I r16]) rfl) ?_
           refine t_q rfl (fun w' H => x_ext (vs := [.agg #[I r003, I r013], I r16]) (v := .agg #[I r003, I r013]) rfl rfl) ?_
           refine t_q rfl (fun w' H => x_ext (vs := [.agg #[I r003, I r013], I r16]) (v := I r16) rfl rfl) ?_
           refine t_l rfl ?_
           refine t_st (k := 0) (b := b_16) (off := 0) (cs := [I 0, I 0]) (vs := [I r003, I r013]) (cs' := [I r003, I r013]) (v := .agg #[I r003, I r013]) (L' := [cBlk b_16 [I r003, I r013] 37, cBlk b_15 [I r002, I r012] 37, cOwn (α := Line) 34 v_l4 l4, cOwn (α := Int) 3 u0_9 r7, cBlk nb0_6 [v_names, I s9, I s10] 109, cBlk b_8 [I r00, v_l4] 25, cOwn (α := Int) 3 u0_7 r6, cBlk nb0_5 [v_wrong, I s, I s2] 109, cBlk b_4 [I r00, v_l] 25, cOwn (α := Line) 34 v_l l, cOwn (α := Int) 3 u1_3 r12, cBlk nb0_1 [v_numbers, I q1, I q2] 109]) H rfl rfl rfl Sz37 rfl rfl rfl rfl rfl rfl ?_
           intro w204z H
           refine s_nil ⟨(H.pick [1, 2, 3, 4, 5, 6, 7, 8, 9, 10, 11] (by decide) rfl), ?_⟩
           refine t_q rfl (fun w' H => x_as (v := I r16) rfl) ?_
           refine t_nil ?_
           exact ⟨b_16, r16, r003, r013, _, upds_of _ _ ⟨rfl, rfl, rfl, rfl, rfl, rfl, rfl, rfl, rfl, rfl, rfl, rfl, trivial⟩, hM, H⟩
         ·rintro _ w205z ⟨b_16, r16, r003, r013, ρ, rfl, hM, H⟩
          unfold m_nilometerlaw01_LevelTurned_j9 at hM
          refine W.seq ?_
          refine W.region rfl ?_
          refine s_val (x_ld (p := .pointer (some ⟨b_15, 0, none⟩)) (v := .agg #[I r002, I r012]) rfl (ldb_ag (ds := [I r002, I r012]) Ag37 Sz37 (H.blk (k := 1) rfl) rfl rfl)) ?_
          refine s_val (x_ld (p := .pointer (some ⟨b_16, 0, none⟩)) (v := .agg #[I r003, I r013]) rfl (ldb_ag (ds := [I r003, I r013]) Ag37 Sz37 (H.blk (k := 0) rfl) rfl rfl)) ?_
          refine s_val (x_neS (eqT37 (⟨(r002 : Int), (r012 : Int)⟩ : Span) (⟨(r003 : Int), (r013 : Int)⟩ : Span) _) gdT37 rfl rfl) ?_
          refine s_val (x_mv (v := B (!(decide ((⟨(r002 : Int), (r012 : Int)⟩ : Span) = (⟨(r003 : Int), (r013 : Int)⟩ : Span))))) rfl) ?_
          refine g_val (!(!(decide ((⟨(r002 : Int), (r012 : Int)⟩ : Span) = (⟨(r003 : Int), (r013 : Int)⟩ : Span))))) (gy_f rfl) (fun hg => x_mv (v := I r15) rfl) ?_
          refine g_val (!(!(decide ((⟨(r002 : Int), (r012 : Int)⟩ : Span) = (⟨(r003 : Int), (r013 : Int)⟩ : Span))))) (gy_f rfl) (fun hg => x_mv (v := I r16) rfl) ?_
          refine g_val (!(!(decide ((⟨(r002 : Int), (r012 : Int)⟩ : Span) = (⟨(r003 : Int), (r013 : Int)⟩ : Span))))) (gy_f rfl) (fun hg => x_cmp (kd := .i64) (a := r15) (b := r16) (r := r15 != r16) (gd_of (c := !(!(decide ((⟨(r002 : Int), (r012 : Int)⟩ : Span) = (⟨(r003 : Int), (r013 : Int)⟩ : Span))))) hg (I r15)) (gd_of (c := !(!(decide ((⟨(r002 : Int), (r012 : Int)⟩ : Span) = (⟨(r003 : Int), (r013 : Int)⟩ : Span))))) hg (I r16)) rfl) ?_
          refine s_val (x_por (b := !(decide ((⟨(r002 : Int), (r012 : Int)⟩ : Span) = (⟨(r003 : Int), (r013 : Int)⟩ : Span)))) (r := r15 != r16) rfl rfl (fun hb => gd_of (c := !(!(decide ((⟨(r002 : Int), (r012 : Int)⟩ : Span) = (⟨(r003 : Int), (r013 : Int)⟩ : Span))))) (by first | exact hb | (rw [hb]; rfl) | simp_all) (B (r15 != r16)))) ?_
          refine s_nil ?_
          refine W.cond ((!(decide ((⟨(r002 : Int), (r012 : Int)⟩ : Span) = (⟨(r003 : Int), (r013 : Int)⟩ : Span)))) || (r15 != r16)) rfl (fun c206z => ?_) (fun c206z => ?_)
          ·replace hM := M.e_t hM c206z
           refine W.seq ?_
           refine W.region rfl ?_
           refine s_val (x_as (v := B false) rfl) ?_
           refine s_nil ?_
           refine W.ret ?_
           have hX207z := M.e_inr hM hN171z
           subst hX207z
           replace hM := hk164z
           try dsimp only at hM
           have hX208z := M.e_inr hM hN160z
           subst hX208z
           replace hM := hk153z
           try dsimp only at hM
           have hr_ := M.e_pure hM
           exact ⟨_, resE_tmp rfl, ⟨false, hr_, rfl, (H.pick [] (by decide) rfl)⟩⟩
          ·replace hM := M.e_f hM c206z
           refine W.skip ?_
           refine W.region rfl ?_
           obtain ⟨sd209z, hM⟩ := M.e_grd hM
           simp only [Bool.and_eq_true, decide_eq_true_eq] at sd209z
           refine s_val (x_ari (a := (s14 : Int)) (b := 1) (r := (s14 : Int) + 1) rfl rfl rfl (by omega)) ?_
           refine s_val (x_mv (v := I ((s14 : Int) + 1)) rfl) ?_
           refine s_nil ?_
           exact ⟨m168z, lt169z, s14 + 1, _, upds_of _ _ ⟨rfl, rfl, rfl, rfl, rfl, rfl, rfl, rfl, trivial⟩, M.e_inl hM hN171z, (H.pick [2, 3, 4, 5, 6, 7, 8, 9, 10, 11] (by decide) rfl)⟩
        ·replace hM := M.e_f hM c172z
         simp only [decide_eq_true_eq, decide_eq_false_iff_not, beq_iff_eq, bne_iff_ne, beq_eq_false_iff_ne, bne_eq_false_iff_eq, ne_eq, Decidable.not_not] at c172z
         refine W.exit ?_
         have hX210z := M.e_inr hM hN171z
         subst hX210z
         replace hM := hk164z
         try dsimp only at hM
         refine W.region rfl ?_
         obtain ⟨sd211z, hM⟩ := M.e_grd hM
         simp only [Bool.and_eq_true, decide_eq_true_eq] at sd211z
         refine s_val (x_ari (a := (s15 : Int)) (b := 1) (r := (s15 : Int) + 1) rfl rfl rfl (by omega)) ?_
         refine s_val (x_mv (v := I ((s15 : Int) + 1)) rfl) ?_
         refine s_nil ?_
         exact ⟨m157z, lt158z, s15 + 1, _, upds_of _ _ ⟨rfl, rfl, rfl, rfl, rfl, trivial⟩, M.e_inl hM hN160z, H⟩
      ·replace hM := M.e_f hM c161z
       simp only [decide_eq_true_eq, decide_eq_false_iff_not, beq_iff_eq, bne_iff_ne, beq_eq_false_iff_ne, bne_eq_false_iff_eq, ne_eq, Decidable.not_not] at c161z
       refine W.exit ?_
       have hX212z := M.e_inr hM hN160z
       subst hX212z
       replace hM := hk153z
       try dsimp only at hM
       refine W.seq ?_
       refine W.region rfl ?_
       refine s_val (x_ld (p := .pointer (some ⟨b_4, 0, none⟩)) (v := .agg #[I r00, v_l]) rfl (ldb_ag (ds := [I r00, v_l]) Ag25 Sz25 (H.blk (k := 6) rfl) rfl rfl)) ?_
       obtain ⟨r214z, hx213z, hM⟩ := M.e_bind hM
       refine s_call cf21 [.agg #[I r00, v_l]] rfl (level_Moves_ok r00 l (Reads.of (k := 7) rfl ownLe) (ownSl (H.get (k := 7) rfl)) hx213z _ (St.give (T := [cOwn (α := Line) 34 v_l4 l4, cOwn (α := Int) 3 u0_9 r7, cBlk nb0_6 [v_names, I s9, I s10] 109, cBlk b_8 [I r00, v_l4] 25, cOwn (α := Int) 3 u0_7 r6, cBlk nb0_5 [v_wrong, I s, I s2] 109, cBlk b_4 [I r00, v_l] 25, cOwn (α := Line) 34 v_l l, cOwn (α := Int) 3 u1_3 r12, cBlk nb0_1 [v_numbers, I q1, I q2] 109]) H rfl)) ?_
       rintro vq w215z ⟨r0, r17, u0_17, hr216z, hvq, H2_⟩
       subst hr216z
       subst vq
       try dsimp only at hM
       replace H : St w w215z [cOwn (α := Mv) 50 u0_17 r0, cOwn (α := Line) 34 v_l4 l4, cOwn (α := Int) 3 u0_9 r7, cBlk nb0_6 [v_names, I s9, I s10] 109, cBlk b_8 [I r00, v_l4] 25, cOwn (α := Int) 3 u0_7 r6, cBlk nb0_5 [v_wrong, I s, I s2] 109, cBlk b_4 [I r00, v_l] 25, cOwn (α := Line) 34 v_l l, cOwn (α := Int) 3 u1_3 r12, cBlk nb0_1 [v_numbers, I q1, I q2] 109] R := H.back H2_ rfl
       clear H2_
       refine s_val (x_mv (v := .tuple #[u0_17, I r17]) rfl) ?_
       refine s_val (x_ext (vs := [u0_17, I r17]) (v := u0_17) rfl rfl) ?_
       refine s_val (x_ext (vs := [u0_17, I r17]) (v := I r17) rfl rfl) ?_
       refine s_val (x_as (v := u0_17) rfl) ?_
       refine s_val (x_as (v := I r17) rfl) ?_
       refine s_nil ?_
       refine W.seq ?_
       refine W.region rfl ?_
       refine s_val (x_ld (p := .pointer (some ⟨b_8, 0, none⟩)) (v := .agg #[I r00, v_l4]) rfl (ldb_ag (ds := [I r00, v_l4]) Ag25 Sz25 (H.blk (k := 4) rfl) rfl rfl)) ?_
       obtain ⟨r218z, hx217z, hM⟩ := M.e_bind hM
       refine s_call cf21 [.agg #[I r00, v_l4]] rfl (level_Moves_ok r00 l4 (Reads.of (k := 1) rfl ownLe) (ownSl (H.get (k := 1) rfl)) hx217z _ (St.give (T := [cOwn (α := Mv) 50 u0_17 r0, cOwn (α := Line) 34 v_l4 l4, cOwn (α := Int) 3 u0_9 r7, cBlk nb0_6 [v_names, I s9, I s10] 109, cBlk b_8 [I r00, v_l4] 25, cOwn (α := Int) 3 u0_7 r6, cBlk nb0_5 [v_wrong, I s, I s2] 109, cBlk b_4 [I r00, v_l] 25, cOwn (α := Line) 34 v_l l, cOwn (α := Int) 3 u1_3 r12, cBlk nb0_1 [v_numbers, I q1, I q2] 109]) H rfl)) ?_
       rintro vq w219z ⟨r02, r18, u0_18, hr220z, hvq, H2_⟩
       subst hr220z
       subst vq
       try dsimp only at hM
       replace H : St w w219z [cOwn (α := Mv) 50 u0_18 r02, cOwn (α := Mv) 50 u0_17 r0, cOwn (α := Line) 34 v_l4 l4, cOwn (α := Int) 3 u0_9 r7, cBlk nb0_6 [v_names, I s9, I s10] 109, cBlk b_8 [I r00, v_l4] 25, cOwn (α := Int) 3 u0_7 r6, cBlk nb0_5 [v_wrong, I s, I s2] 109, cBlk b_4 [I r00, v_l] 25, cOwn (α := Line) 34 v_l l, cOwn (α := Int) 3 u1_3 r12, cBlk nb0_1 [v_numbers, I q1, I q2] 109] R := H.back H2_ rfl
       clear H2_
       refine s_val (x_mv (v := .tuple #[u0_18, I r18]) rfl) ?_
       refine s_val (x_ext (vs := [u0_18, I r18]) (v := u0_18) rfl rfl) ?_
       refine s_val (x_ext (vs := [u0_18, I r18]) (v := I r18) rfl rfl) ?_
       refine s_val (x_as (v := u0_18) rfl) ?_
       refine s_val (x_as (v := I r18) rfl) ?_
       refine s_nil ?_
       refine W.seq ?_
       refine W.seq ?_
       refine W.region rfl ?_
       refine s_val (x_mv (v := I r17) rfl) ?_
       refine s_val (x_mv (v := I r18) rfl) ?_
       refine s_val (x_cmp (kd := .i64) (a := r17) (b := r18) (r := r17 != r18) rfl rfl rfl) ?_
       refine s_val (x_mv (v := B (r17 != r18)) rfl) ?_
       refine g_val (!(r17 != r18)) (gy_f rfl) (fun hg => x_mv (v := u0_17) rfl) ?_
       refine g_val (!(r17 != r18)) (gy_f rfl) (fun hg => x_lenS T46.und (gd_of (c := !(r17 != r18)) hg (u0_17)) (ownSl (H.get (k := 1) rfl))) ?_
       refine g_val (!(r17 != r18)) (gy_f rfl) (fun hg => x_mv (v := u0_18) rfl) ?_
       refine g_val (!(r17 != r18)) (gy_f rfl) (fun hg => x_lenS T46.und (gd_of (c := !(r17 != r18)) hg (u0_18)) (ownSl (H.get (k := 0) rfl))) ?_
       refine g_val (!(r17 != r18)) (gy_f rfl) (fun hg => x_cmp (kd := .i64) (a := (r0.length : Int)) (b := (r02.length : Int)) (r := (r0.length : Int) != (r02.length : Int)) (gd_of (c := !(r17 != r18)) hg (I (r0.length : Int))) (gd_of (c := !(r17 != r18)) hg (I (r02.length : Int))) rfl) ?_
       refine s_val (x_por (b := r17 != r18) (r := (r0.length : Int) != (r02.length : Int)) rfl rfl (fun hb => gd_of (c := !(r17 != r18)) (by first | exact hb | (rw [hb]; rfl) | simp_all) (B ((r0.length : Int) != (r02.length : Int))))) ?_
       refine s_nil ?_
       refine W.cond ((r17 != r18) || ((r0.length : Int) != (r02.length : Int))) rfl (fun c223z => ?_) (fun c223z => ?_)
       ·replace hM := M.e_t hM c223z
        refine W.seq ?_
        refine W.region rfl ?_
        refine s_val (x_as (v := B false) rfl) ?_
        refine s_nil ?_
        refine W.ret ?_
        have hr_ := M.e_pure hM
        exact ⟨_, resE_tmp rfl, ⟨false, hr_, rfl, (H.pick [] (by decide) rfl)⟩⟩
       ·replace hM := M.e_f hM c223z
        refine W.skip ?_
        refine W.seq ?_
        refine W.seq ?_
        refine W.region rfl ?_
        refine s_val (x_mv (v := u0_17) rfl) ?_
        have hl224z := ((ownSl (H.get (k := 1) rfl))).len_le
        refine s_val (x_lenS T46.und rfl (ownSl (H.get (k := 1) rfl))) ?_
        refine s_val (x_mv (v := I 0) rfl) ?_
        refine s_nil ?_
        refine W.block ?_
        obtain ⟨ex225z, hi226z, hk227z⟩ := M.e_bind hM
        obtain ⟨m0_, hi226z⟩ := M.e_iter hi226z
        refine W.loop (fun m σ W => ∃ (s16 : Nat) (ρ : Env), σ = upds ρ [(11, u0_7), (25, u0_18), (178, u0_17), (179, I (r0.length : Int)), (180, I (s16 : Int))] ∧ M.iterN (m_nilometerlaw01_LevelTurned_b12 r6 r0 r02) m s16 = some ex225z ∧ St w W [cOwn (α := Mv) 50 u0_18 r02, cOwn (α := Mv) 50 u0_17 r0, cOwn (α := Line) 34 v_l4 l4, cOwn (α := Int) 3 u0_9 r7, cBlk nb0_6 [v_names, I s9, I s10] 109, cBlk b_8 [I r00, v_l4] 25, cOwn (α := Int) 3 u0_7 r6, cBlk nb0_5 [v_wrong, I s, I s2] 109, cBlk b_4 [I r00, v_l] 25, cOwn (α := Line) 34 v_l l, cOwn (α := Int) 3 u1_3 r12, cBlk nb0_1 [v_numbers, I q1, I q2] 109] R) ?_ ?_
        ·exact ⟨_, 0, _, upds_of _ _ ⟨rfl, rfl, rfl, rfl, rfl, trivial⟩, hi226z, H⟩
        ·rintro m230z σ w228z ⟨s16, ρ, rfl, hI229z, H⟩
         obtain ⟨m231z, lt232z, x233z, hM, hN234z⟩ := M.e_iterN hI229z
         simp only [m_nilometerlaw01_LevelTurned_b12] at hM
         clear hI229z
         refine W.seq ?_
         refine W.region rfl ?_
         refine s_val (x_cmp (kd := .i64) (a := (s16 : Int)) (b := (r0.length : Int)) (r := decide ((s16 : Int) < (r0.length : Int))) rfl rfl rfl) ?_
         refine s_nil ?_
         refine W.seq ?_
         refine W.cond (decide ((s16 : Int) < (r0.length : Int))) rfl (fun c235z => ?_) (fun c235z => ?_)
         ·replace hM := M.e_t hM c235z
          simp only [decide_eq_true_eq, decide_eq_false_iff_not, beq_iff_eq, bne_iff_ne, beq_eq_false_iff_ne, bne_eq_false_iff_eq, ne_eq, Decidable.not_not] at c235z
          refine W.skip ?_
          refine W.seq ?_
          refine W.block ?_
          refine W.seq ?_
          refine W.region rfl ?_
          obtain ⟨sd236z, hM⟩ := M.e_grd hM
          simp only [Bool.and_eq_true, decide_eq_true_eq] at sd236z
          refine s_val (x_ix (a := u0_17) (b := I (s16 : Int)) (v := vat u0_17 2 (Int.toNat (s16 : Int))) rfl rfl (Sl.ix (α := Mv) T46.und T46.size (ownSl (H.get (k := 1) rfl)) (by omega) (by omega))) ?_
          refine s_val (x_ld (p := vat u0_17 2 (Int.toNat (s16 : Int))) (v := .agg #[I ((r0.getD s16 default).mark), I ((r0.getD s16 default).day)]) rfl (ld_ag Ag50 Sz50 (At.mono (Mv_atA (ownSl (H.get (k := 1) rfl)) (i := (s16 : Int)) (by omega) (by omega)) (ownLe _ (H.get (k := 1) rfl))))) ?_
          refine t_alloc (cs := [I 0, I 0]) H Al50 rfl ?_
          intro b_19 w237z H
          refine t_st (k := 0) (b := b_19) (off := 0) (cs := [I 0, I 0]) (vs := [I ((r0.getD s16 default).mark), I ((r0.getD s16 default).day)]) (cs' := [I ((r0.getD s16 default).mark), I ((r0.getD s16 default).day)]) (v := .agg #[I ((r0.getD s16 default).mark), I ((r0.getD s16 default).day)]) (L' := [cBlk b_19 [I ((r0.getD s16 default).mark), I ((r0.getD s16 default).day)] 50, cOwn (α := Mv) 50 u0_18 r02, cOwn (α := Mv) 50 u0_17 r0, cOwn (α := Line) 34 v_l4 l4, cOwn (α := Int) 3 u0_9 r7, cBlk nb0_6 [v_names, I s9, I s10] 109, cBlk b_8 [I r00, v_l4] 25, cOwn (α := Int) 3 u0_7 r6, cBlk nb0_5 [v_wrong, I s, I s2] 109, cBlk b_4 [I r00, v_l] 25, cOwn (α := Line) 34 v_l l, cOwn (α := Int) 3 u1_3 r12, cBlk nb0_1 [v_numbers, I q1, I q2] 109]) H rfl rfl rfl Sz50 rfl rfl rfl rfl rfl rfl ?_
          intro w238z H
          refine s_nil ?_
          refine W.seq ?_
          refine W.draw (fun W => St w W [cBlk b_19 [I ((r0.getD s16 default).mark), I ((r0.getD s16 default).day)] 50, cOwn (α := Mv) 50 u0_18 r02, cOwn (α := Mv) 50 u0_17 r0, cOwn (α := Line) 34 v_l4 l4, cOwn (α := Int) 3 u0_9 r7, cBlk nb0_6 [v_names, I s9, I s10] 109, cBlk b_8 [I r00, v_l4] 25, cOwn (α := Int) 3 u0_7 r6, cBlk nb0_5 [v_wrong, I s, I s2] 109, cBlk b_4 [I r00, v_l] 25, cOwn (α := Line) 34 v_l l, cOwn (α := Int) 3 u1_3 r12, cBlk nb0_1 [v_numbers, I q1, I q2] 109] R) [(0, true), (1, true), (2, true), (3, true), (4, true), (5, true), (6, true), (7, true), (8, true), (9, true), (10, true), (11, true), (12, true), (13, true), (14, true), (15, true), (16, true), (17, true), (18, true), (19, true), (20, false), (21, true), (22, true)] mixed (by decide +kernel) rfl ?_
          intro w239z hx_
          replace H : St w w239z [cBlk b_19 [I ((r0.getD s16 default).mark), I ((r0.getD s16 default).day)] 50, cOwn (α := Mv) 50 u0_18 r02, cOwn (α := Mv) 50 u0_17 r0, cOwn (α := Line) 34 v_l4 l4, cOwn (α := Int) 3 u0_9 r7, cBlk nb0_6 [v_names, I s9, I s10] 109, cBlk b_8 [I r00, v_l4] 25, cOwn (α := Int) 3 u0_7 r6, cBlk nb0_5 [v_wrong, I s, I s2] 109, cBlk b_4 [I r00, v_l] 25, cOwn (α := Line) 34 v_l l, cOwn (α := Int) 3 u1_3 r12, cBlk nb0_1 [v_numbers, I q1, I q2] 109] R := H.ext hx_
          clear hx_
          refine ⟨(H.pick [0, 1, 2, 3, 4, 5, 6, 7, 8, 9, 10, 11, 12] (by decide) rfl), ?_⟩
          refine d_q rfl (fun w' H => x_fa (a := .pointer (some ⟨b_19, 0, none⟩)) (v := .pointer (some ⟨b_19, 0, none⟩)) rfl (fa_blk (o := 0) Fd50_0 Sz3)) ?_
          refine d_q rfl (fun w' H => x_ld (p := .pointer (some ⟨b_19, 0, none⟩)) (v := I ((r0.getD s16 default).mark)) rfl (ldb_sc Sc3 (H.blk (k := 0) rfl) rfl)) ?_
          refine d_q rfl (fun w' H => x_cmp (kd := .i64) (a := (r0.getD s16 default).mark) (b := 0) (r := decide (((r0.getD s16 default).mark) < 0)) rfl rfl rfl) ?_
          refine d_q rfl (fun w' H => x_mv (v := B (decide (((r0.getD s16 default).mark) < 0))) rfl) ?_
          refine d_qg (!(decide (((r0.getD s16 default).mark) < 0))) rfl (gy_f rfl) (fun hg => (fun w' H => x_fa (a := .pointer (some ⟨b_19, 0, none⟩)) (v := .pointer (some ⟨b_19, 0, none⟩)) rfl (fa_blk (o := 0) Fd50_0 Sz3))) ?_
          refine d_qg (!(decide (((r0.getD s16 default).mark) < 0))) rfl (gy_f rfl) (fun hg => (fun w' H => x_ld (p := .pointer (some ⟨b_19, 0, none⟩)) (v := I ((r0.getD s16 default).mark)) (gd_of (c := !(decide (((r0.getD s16 default).mark) < 0))) hg (.pointer (some ⟨b_19, 0, none⟩))) (ldb_sc Sc3 (H.blk (k := 0) rfl) rfl))) ?_
          refine d_qg (!(decide (((r0.getD s16 default).mark) < 0))) rfl (gy_f rfl) (fun hg => (fun w' H => x_mv (v := u0_7) rfl)) ?_
          refine d_qg (!(decide (((r0.getD s16 default).mark) < 0))) rfl (gy_f rfl) (fun hg => (fun w' H => x_lenS T26.und (gd_of (c := !(decide (((r0.getD s16 default).mark) < 0))) hg (u0_7)) (ownSl (H.get (k := 7) rfl)))) ?_
          refine d_qg (!(decide (((r0.getD s16 default).mark) < 0))) rfl (gy_f rfl) (fun hg => (fun w' H => x_cmp (kd := .i64) (a := (r0.getD s16 default).mark) (b := (r6.length : Int)) (r := decide ((r6.length : Int) ≤ ((r0.getD s16 default).mark))) (gd_of (c := !(decide (((r0.getD s16 default).mark) < 0))) hg (I ((r0.getD s16 default).mark))) (gd_of (c := !(decide (((r0.getD s16 default).mark) < 0))) hg (I (r6.length : Int))) rfl)) ?_
          refine d_q rfl (fun w' H => x_por (b := decide (((r0.getD s16 default).mark) < 0)) (r := decide ((r6.length : Int) ≤ ((r0.getD s16 default).mark))) rfl rfl (fun hb => gd_of (c := !(decide (((r0.getD s16 default).mark) < 0))) (by first | exact hb | (rw [hb]; rfl) | simp_all) (B (decide ((r6.length : Int) ≤ ((r0.getD s16 default).mark)))))) ?_
          refine d_q rfl (fun w' H => x_mv (v := B ((decide (((r0.getD s16 default).mark) < 0)) || (decide ((r6.length : Int) ≤ ((r0.getD s16 default).mark))))) rfl) ?_
          refine d_qg (!((decide (((r0.getD s16 default).mark) < 0)) || (decide ((r6.length : Int) ≤ ((r0.getD s16 default).mark))))) rfl (gy_f rfl) (fun hg => (fun w' H => x_mv (v := u0_18) rfl)) ?_
          refine d_qg (!((decide (((r0.getD s16 default).mark) < 0)) || (decide ((r6.length : Int) ≤ ((r0.getD s16 default).mark))))) rfl (gy_f rfl) (fun hg => (fun w' H => x_mv (v := u0_7) rfl)) ?_
          refine d_qg (!((decide (((r0.getD s16 default).mark) < 0)) || (decide ((r6.length : Int) ≤ ((r0.getD s16 default).mark))))) rfl (gy_f rfl) (fun hg => (fun w' H => x_fa (a := .pointer (some ⟨b_19, 0, none⟩)) (v := .pointer (some ⟨b_19, 0, none⟩)) rfl (fa_blk (o := 0) Fd50_0 Sz3))) ?_
          refine d_qg (!((decide (((r0.getD s16 default).mark) < 0)) || (decide ((r6.length : Int) ≤ ((r0.getD s16 default).mark))))) rfl (gy_f rfl) (fun hg => (fun w' H => x_ld (p := .pointer (some ⟨b_19, 0, none⟩)) (v := I ((r0.getD s16 default).mark)) (gd_of (c := !((decide (((r0.getD s16 default).mark) < 0)) || (decide ((r6.length : Int) ≤ ((r0.getD s16 default).mark))))) hg (.pointer (some ⟨b_19, 0, none⟩))) (ldb_sc Sc3 (H.blk (k := 0) rfl) rfl))) ?_
          obtain ⟨sd241z, hM⟩ := M.e_grd hM
          replace sd241z := M.imp_of sd241z
          simp only [Bool.and_eq_true, decide_eq_true_eq] at sd241z
          refine d_qg (!((decide (((r0.getD s16 default).mark) < 0)) || (decide ((r6.length : Int) ≤ ((r0.getD s16 default).mark))))) rfl (gy_f rfl) (fun hg => (fun w' H => x_ix (a := u0_7) (b := I ((r0.getD s16 default).mark)) (v := vat u0_7 1 (Int.toNat ((r0.getD s16 default).mark))) (gd_of (c := !((decide (((r0.getD s16 default).mark) < 0)) || (decide ((r6.length : Int) ≤ ((r0.getD s16 default).mark))))) hg (u0_7)) (gd_of (c := !((decide (((r0.getD s16 default).mark) < 0)) || (decide ((r6.length : Int) ≤ ((r0.getD s16 default).mark))))) hg (I ((r0.getD s16 default).mark))) (Sl.ix (α := Int) T26.und T26.size (ownSl (H.get (k := 7) rfl)) (by have h1_ := sd241z.resolve_left (by rw [hg]; decide); first | exact h1_ | exact h1_.1 | exact h1_.2 | omega | (have hx_ := hg; simp at hx_; omega)) (by have h1_ := sd241z.resolve_left (by rw [hg]; decide); first | exact h1_ | exact h1_.1 | exact h1_.2 | omega | (have hx_ := hg; simp at hx_; omega))))) ?_
          refine d_qg (!((decide (((r0.getD s16 default).mark) < 0)) || (decide ((r6.length : Int) ≤ ((r0.getD s16 default).mark))))) rfl (gy_f rfl) (fun hg => (fun w' H => x_ld (p := vat u0_7 1 (Int.toNat ((r0.getD s16 default).mark))) (v := I (r6.getD (Int.toNat ((r0.getD s16 default).mark)) 0)) (gd_of (c := !((decide (((r0.getD s16 default).mark) < 0)) || (decide ((r6.length : Int) ≤ ((r0.getD s16 default).mark))))) hg (vat u0_7 1 (Int.toNat ((r0.getD s16 default).mark)))) (ld_sc Sc3 (At.mono (Int_at (ownSl (H.get (k := 7) rfl)) (i := (r0.getD s16 default).mark) (by have h1_ := sd241z.resolve_left (by rw [hg]; decide); first | exact h1_ | exact h1_.1 | exact h1_.2 | omega | (have hx_ := hg; simp at hx_; omega)) (by have h1_ := sd241z.resolve_left (by rw [hg]; decide); first | exact h1_ | exact h1_.1 | exact h1_.2 | omega | (have hx_ := hg; simp at hx_; omega))) (ownLe _ (H.get (k := 7) rfl)))))) ?_
          refine d_qg (!((decide (((r0.getD s16 default).mark) < 0)) || (decide ((r6.length : Int) ≤ ((r0.getD s16 default).mark))))) rfl (gy_f rfl) (fun hg => (fun w' H => x_fa (a := .pointer (some ⟨b_19, 0, none⟩)) (v := .pointer (some ⟨b_19, 1, none⟩)) rfl (fa_blk (o := 0) Fd50_1 Sz3))) ?_
          refine d_qg (!((decide (((r0.getD s16 default).mark) < 0)) || (decide ((r6.length : Int) ≤ ((r0.getD s16 default).mark))))) rfl (gy_f rfl) (fun hg => (fun w' H => x_ld (p := .pointer (some ⟨b_19, 1, none⟩)) (v := I ((r0.getD s16 default).day)) (gd_of (c := !((decide (((r0.getD s16 default).mark) < 0)) || (decide ((r6.length : Int) ≤ ((r0.getD s16 default).mark))))) hg (.pointer (some ⟨b_19, 1, none⟩))) (ldb_sc Sc3 (H.blk (k := 0) rfl) rfl))) ?_
          refine d_qg (!((decide (((r0.getD s16 default).mark) < 0)) || (decide ((r6.length : Int) ≤ ((r0.getD s16 default).mark))))) rfl (gy_f rfl) (fun hg => (fun w' H => x_bld (ps := [(0, I (r6.getD (Int.toNat ((r0.getD s16 default).mark)) 0)), (1, I ((r0.getD s16 default).day))]) (zs := [I 0, I 0]) (L' := [I (r6.getD (Int.toNat ((r0.getD s16 default).mark)) 0), I ((r0.getD s16 default).day)]) (by exact prs2 (gd_of (c := !((decide (((r0.getD s16 default).mark) < 0)) || (decide ((r6.length : Int) ≤ ((r0.getD s16 default).mark))))) hg (I (r6.getD (Int.toNat ((r0.getD s16 default).mark)) 0))) (gd_of (c := !((decide (((r0.getD s16 default).mark) < 0)) || (decide ((r6.length : Int) ≤ ((r0.getD s16 default).mark))))) hg (I ((r0.getD s16 default).day)))) Try.underlying50 Al50 rfl (Bd50 Try.underlying50) (.cons (cs := [I (r6.getD (Int.toNat ((r0.getD s16 default).mark)) 0)]) rfl rfl rfl rfl rfl <| .cons (cs := [I ((r0.getD s16 default).day)]) rfl rfl rfl rfl rfl <| .nil))) ?_
          refine d_l rfl ?_
          obtain ⟨r9, hx242z, hM⟩ := M.e_bind hM
          refine t_gcall (!((decide (((r0.getD s16 default).mark) < 0)) || (decide ((r6.length : Int) ≤ ((r0.getD s16 default).mark))))) (gy_f rfl) cf22 (B r9) (fun _ => [u0_18, .agg #[I (r6.getD (Int.toNat ((r0.getD s16 default).mark)) 0), I ((r0.getD s16 default).day)]]) (fun hg => lst2 (gd_of (c := !((decide (((r0.getD s16 default).mark) < 0)) || (decide ((r6.length : Int) ≤ ((r0.getD s16 default).mark))))) hg (u0_18)) (gd_of (c := !((decide (((r0.getD s16 default).mark) < 0)) || (decide ((r6.length : Int) ≤ ((r0.getD s16 default).mark))))) hg (.agg #[I (r6.getD (Int.toNat ((r0.getD s16 default).mark)) 0), I ((r0.getD s16 default).day)]))) H (fun hg => (slices_Contains_level_Move_ok r02 (⟨(r6.getD (Int.toNat ((r0.getD s16 default).mark)) 0 : Int), ((r0.getD s16 default).day : Int)⟩ : Mv) (Reads.of (k := 1) rfl ownLe) (ownSl (H.get (k := 1) rfl)) (M.e_opt hx242z hg) _ (H.give (A := []) rfl)).mono fun v_ w_ ⟨y_, hr_, hv_, H_⟩ => by subst hr_; exact ⟨hv_, H.via H_⟩) ?_
          intro w243z H
          refine s_nil ⟨(H.pick [0, 1, 2, 3, 4, 5, 6, 7, 8, 9, 10, 11, 12] (by decide) rfl), ?_⟩
          refine d_qg (!((decide (((r0.getD s16 default).mark) < 0)) || (decide ((r6.length : Int) ≤ ((r0.getD s16 default).mark))))) rfl (gy_f rfl) (fun hg => (fun w' H => x_not (b := r9) (gd_of (c := !((decide (((r0.getD s16 default).mark) < 0)) || (decide ((r6.length : Int) ≤ ((r0.getD s16 default).mark))))) hg (B r9)))) ?_
          refine d_q rfl (fun w' H => x_por (b := ((decide (((r0.getD s16 default).mark) < 0)) || (decide ((r6.length : Int) ≤ ((r0.getD s16 default).mark))))) (r := !r9) rfl rfl (fun hb => gd_of (c := !((decide (((r0.getD s16 default).mark) < 0)) || (decide ((r6.length : Int) ≤ ((r0.getD s16 default).mark))))) (by first | exact hb | (rw [hb]; rfl) | simp_all) (B (!r9)))) ?_
          refine d_nil ?_
          refine W.cond (((decide (((r0.getD s16 default).mark) < 0)) || (decide ((r6.length : Int) ≤ ((r0.getD s16 default).mark)))) || (!r9)) rfl (fun c244z => ?_) (fun c244z => ?_)
          ·replace hM := M.e_t hM c244z
           refine W.seq ?_
           refine W.region rfl ?_
           refine s_val (x_as (v := B false) rfl) ?_
           refine s_nil ?_
           refine W.ret ?_
           have hX245z := M.e_inr hM hN234z
           subst hX245z
           replace hM := hk227z
           try dsimp only at hM
           have hr_ := M.e_pure hM
           exact ⟨_, resE_tmp rfl, ⟨false, hr_, rfl, (H.pick [] (by decide) rfl)⟩⟩
          ·replace hM := M.e_f hM c244z
           refine W.skip ?_
           refine W.region rfl ?_
           refine s_val (x_ari (a := (s16 : Int)) (b := 1) (r := (s16 : Int) + 1) rfl rfl rfl (by omega)) ?_
           refine s_val (x_mv (v := I ((s16 : Int) + 1)) rfl) ?_
           refine s_nil ?_
           exact ⟨m231z, lt232z, s16 + 1, _, upds_of _ _ ⟨rfl, rfl, rfl, rfl, rfl, trivial⟩, M.e_inl hM hN234z, (H.pick [1, 2, 3, 4, 5, 6, 7, 8, 9, 10, 11, 12] (by decide) rfl)⟩
         ·replace hM := M.e_f hM c235z
          simp only [decide_eq_true_eq, decide_eq_false_iff_not, beq_iff_eq, bne_iff_ne, beq_eq_false_iff_ne, bne_eq_false_iff_eq, ne_eq, Decidable.not_not] at c235z
          refine W.exit ?_
          have hX246z := M.e_inr hM hN234z
          subst hX246z
          replace hM := hk227z
          try dsimp only at hM
          refine W.seq ?_
          refine W.region rfl ?_
          obtain ⟨r248z, hx247z, hM⟩ := M.e_bind hM
          refine s_call cf18 [] rfl (nilometerlaw01_awake_ok hx247z _ (St.give (T := [cOwn (α := Mv) 50 u0_18 r02, cOwn (α := Mv) 50 u0_17 r0, cOwn (α := Line) 34 v_l4 l4, cOwn (α := Int) 3 u0_9 r7, cBlk nb0_6 [v_names, I s9, I s10] 109, cBlk b_8 [I r00, v_l4] 25, cOwn (α := Int) 3 u0_7 r6, cBlk nb0_5 [v_wrong, I s, I s2] 109, cBlk b_4 [I r00, v_l] 25, cOwn (α := Line) 34 v_l l, cOwn (α := Int) 3 u1_3 r12, cBlk nb0_1 [v_numbers, I q1, I q2] 109]) H rfl)) ?_
          rintro vq w249z ⟨r10, hr250z, hvq, H2_⟩
          subst hr250z
          subst vq
          try dsimp only at hM
          replace H : St w w249z [cOwn (α := Mv) 50 u0_18 r02, cOwn (α := Mv) 50 u0_17 r0, cOwn (α := Line) 34 v_l4 l4, cOwn (α := Int) 3 u0_9 r7, cBlk nb0_6 [v_names, I s9, I s10] 109, cBlk b_8 [I r00, v_l4] 25, cOwn (α := Int) 3 u0_7 r6, cBlk nb0_5 [v_wrong, I s, I s2] 109, cBlk b_4 [I r00, v_l] 25, cOwn (α := Line) 34 v_l l, cOwn (α := Int) 3 u1_3 r12, cBlk nb0_1 [v_numbers, I q1, I q2] 109] R := H.back H2_ rfl
          clear H2_
          refine s_val (x_as (v := B r10) rfl) ?_
          refine s_nil ?_
          refine W.ret ?_
          have hr_ := M.e_pure hM
          exact ⟨_, resE_tmp rfl, ⟨r10, hr_, rfl, (H.pick [] (by decide) rfl)⟩⟩

end Go.Proofs.Ytclhljenjphofaa
namespace Go.Nm
namespace M
variable {α β σ ρ : Type}
def Out (m : M α) (Q : α → Prop) : Prop := ∃ r, m.Ends r ∧ Q r
theorem o_of {m : M α} {a : α} {Q : α → Prop} (h : m.Ends a) (q : Q a) : m.Out Q := ⟨a, h, q⟩
theorem o_pure {a : α} {Q : α → Prop} (h : Q a) : (pure a).Out Q := ⟨a, i_pure, h⟩
theorem o_mono {m : M α} {P Q : α → Prop} (h : m.Out P) (k : ∀ a, P a → Q a) : m.Out Q := by
  obtain ⟨a, h1, h2⟩ := h
  exact ⟨a, h1, k a h2⟩
theorem o_bind {m : M α} {k : α → M β} {P : α → Prop} {Q : β → Prop} (h : m.Out P) (h' : ∀ a, P a → (k a).Out Q) : (bind m k).Out Q := by
  obtain ⟨a, h1, h2⟩ := h
  obtain ⟨b, h3, h4⟩ := h' a h2
  exact ⟨b, i_bind h1 h3, h4⟩
theorem o_bindE {m : M α} {k : α → M β} {a : α} {Q : β → Prop} (h : m.Ends a) (h' : (k a).Out Q) : (bind m k).Out Q := o_bind (o_of (Q := fun x => x = a) h rfl) (fun _ e => by subst e; exact h')
theorem o_grd {b : Bool} {k : M α} {Q : α → Prop} (hb : b = true) (h : k.Out Q) : (grd b k).Out Q := by subst hb; exact h
theorem o_grdD {p : Prop} [Decidable p] {k : M α} {Q : α → Prop} (hp : p) (h : k.Out Q) : (grd (decide p) k).Out Q := o_grd (decide_eq_true hp) h
theorem o_if {b : Bool} {x y : M α} {Q : α → Prop} (h : b = true → x.Out Q) (h' : b = false → y.Out Q) : (bif b then x else y).Out Q := by
  cases b with
  | true => exact h rfl
  | false => exact h' rfl
theorem o_t {b : Bool} {x y : M α} {Q : α → Prop} (hb : b = true) (h : x.Out Q) : (bif b then x else y).Out Q := by subst hb; exact h
theorem o_f {b : Bool} {x y : M α} {Q : α → Prop} (hb : b = false) (h : y.Out Q) : (bif b then x else y).Out Q := by subst hb; exact h
/-- What a round leaves. -/
def Rd (J : Nat → σ → Prop) (Q : ρ → Prop) (m : Nat) : σ ⊕ ρ → Prop
  | .inl s => ∃ m', m' < m ∧ J m' s
  | .inr r => Q r
theorem o_iter {body : σ → M (σ ⊕ ρ)} {Q : ρ → Prop} (J : Nat → σ → Prop) (round : ∀ m s, J m s → (body s).Out (Rd J Q m)) : ∀ (m : Nat) (s : σ), J m s → (iter body s).Out Q := by
  intro m
  induction m using Nat.strongRecOn with
  | _ m ih =>
    intro s hs
    obtain ⟨x, h1, h2⟩ := round m s hs
    cases x with
    | inl s' =>
      obtain ⟨m', hlt, hj⟩ := h2
      obtain ⟨r, h3, h4⟩ := ih m' hlt s' hj
      exact ⟨r, i_next h1 h3, h4⟩
    | inr r => exact ⟨r, i_stop h1, h2⟩
/-- A loop that counts from 0 to n. -/
theorem o_for {body : σ → M (σ ⊕ ρ)} {Q : ρ → Prop} (n : Nat) (J : Nat → σ → Prop) (round : ∀ i s, i < n → J i s → (body s).Out (fun x => match x with | .inl s' => J (i + 1) s' | .inr r => Q r))
    (last : ∀ s, J n s → (body s).Out (fun x => match x with | .inl _ => False | .inr r => Q r)) {s : σ} (h : J 0 s) : (iter body s).Out Q := by
  refine o_iter (fun m s => ∃ i, i ≤ n ∧ m = n - i ∧ J i s) ?_ n s ⟨0, Nat.zero_le _, rfl, h⟩
  rintro m s ⟨i, hi, rfl, hj⟩
  by_cases e : i < n
  · refine o_mono (round i s e hj) ?_
    intro x hx
    cases x with
    | inl s' => exact ⟨n - (i + 1), by omega, i + 1, e, rfl, hx⟩
    | inr r => exact hx
  · obtain rfl : i = n := by omega
    refine o_mono (last s hj) ?_
    intro x hx
    cases x with
    | inl s' => exact hx.elim
    | inr r => exact hx
end M
theorem M.i_f {α : Type} {b : Bool} {x y : M α} {r : α} (hb : b = false) (h : y.Ends r) : (bif b then x else y).Ends r := by subst hb; exact h
theorem M.i_t {α : Type} {b : Bool} {x y : M α} {r : α} (hb : b = true) (h : x.Ends r) : (bif b then x else y).Ends r := by subst hb; exact h
theorem take_succ_D {α : Type} (l : List α) (i : Nat) (h : i < l.length) (d : α) : l.take i ++ [l.getD i d] = l.take (i + 1) := by
  rw [List.take_succ_eq_append_getElem h]
  simp [List.getD, h]
theorem gset {α : Type} (l : List α) (i j : Nat) (x d : α) (h : i < l.length) : (l.set i x).getD j d = if j = i then x else l.getD j d := by
  simp only [List.getD_eq_getElem?_getD, List.getElem?_set]
  by_cases e : i = j
  · subst e; simp [h]
  · rw [if_neg e, if_neg (fun h => e h.symm)]
theorem getD_el {α : Type} (l : List α) {k : Nat} (h : k < l.length) (d : α) : l.getD k d = l[k] := by rw [List.getD_eq_getElem?_getD, List.getElem?_eq_getElem h, Option.getD_some]
theorem gOr2 {c : Bool} {p q : Prop} [Decidable p] [Decidable q] (hp : p) (hq : q) : (!c || (decide p && decide q)) = true := by rw [decide_eq_true hp, decide_eq_true hq]; cases c <;> rfl
theorem gA2 {p q : Prop} [Decidable p] [Decidable q] (hp : p) (hq : q) : (decide p && decide q) = true := by rw [decide_eq_true hp, decide_eq_true hq]; rfl
theorem nodup_bound : ∀ (n : Nat) (l : List Int), l.Nodup → (∀ x ∈ l, 0 ≤ x ∧ x < n) → l.length ≤ n
  | 0, l, _, hb => by
    cases l with
    | nil => exact Nat.le_refl _
    | cons x l => have := hb x (by simp); omega
  | n + 1, l, hn, hb => by
    by_cases hm : (n : Int) ∈ l
    · have h1 : (l.erase (n : Int)).length = l.length - 1 := List.length_erase_of_mem hm
      have h2 := nodup_bound n (l.erase (n : Int)) (hn.erase _) (fun x hx => by
        have hx' := (List.Nodup.mem_erase_iff hn).1 hx
        have := hb x hx'.2
        have := hx'.1
        omega)
      have := List.length_pos_of_mem hm
      omega
    · have := nodup_bound n l hn (fun x hx => by
        have := hb x hx
        have : x ≠ n := fun e => hm (e ▸ hx)
        omega)
      omega
theorem mem_getD {α : Type} {l : List α} {x : α} (h : x ∈ l) (d : α) : ∃ i, i < l.length ∧ l.getD i d = x := by
  obtain ⟨i, hi, e⟩ := List.getElem_of_mem h
  exact ⟨i, hi, by rw [getD_el l hi d]; exact e⟩
end Go.Nm
namespace Go.Nm
/-- A leg leads from a mark to another one, and can rise so much. -/
def Ed (ls : List Line) (a b c : Int) : Prop := ∃ l, l ∈ ls ∧ ((l.src = a ∧ l.dst = b ∧ c = l.err + l.rise) ∨ (l.dst = a ∧ l.src = b ∧ c = l.err - l.rise))
/-- Heights agree with all lines. -/
def Feas (ls : List Line) (h : Int → Int) : Prop := ∀ l, l ∈ ls → l.rise - l.err ≤ h l.dst - h l.src ∧ h l.dst - h l.src ≤ l.rise + l.err
inductive Wk (ls : List Line) (a : Int) : List Int → Int → Prop
  | one : Wk ls a [a] 0
  | snoc {m b : Int} {vs : List Int} {c e : Int} (w : Wk ls a (m :: vs) c) (he : Ed ls m b e) : Wk ls a (b :: m :: vs) (c + e)
variable {ls : List Line} {h : Int → Int} {a b c : Int}
theorem Feas.ed (hF : Feas ls h) (e : Ed ls a b c) : h b - h a ≤ c := by
  obtain ⟨l, hl, ⟨rfl, rfl, rfl⟩ | ⟨rfl, rfl, rfl⟩⟩ := e
  · have := hF l hl; omega
  · have := hF l hl; omega
theorem feas_of (hE : ∀ a b c, Ed ls a b c → h b - h a ≤ c) : Feas ls h := fun l hl => by
  have h1 := hE l.src l.dst _ ⟨l, hl, .inl ⟨rfl, rfl, rfl⟩⟩
  have h2 := hE l.dst l.src _ ⟨l, hl, .inr ⟨rfl, rfl, rfl⟩⟩
  omega
theorem Ed.rev (e : Ed ls a b c) : ∃ c', Ed ls b a c' := by
  obtain ⟨l, hl, ⟨rfl, rfl, rfl⟩ | ⟨rfl, rfl, rfl⟩⟩ := e
  · exact ⟨_, l, hl, .inr ⟨rfl, rfl, rfl⟩⟩
  · exact ⟨_, l, hl, .inl ⟨rfl, rfl, rfl⟩⟩
theorem Ed.sub {ks : List Line} (e : Ed ls a b c) (hs : ∀ l, l ∈ ls → l ∈ ks) : Ed ks a b c := by
  obtain ⟨l, hl, h⟩ := e
  exact ⟨l, hs l hl, h⟩
theorem Wk.sub {ks : List Line} {vs : List Int} (w : Wk ls a vs c) (hs : ∀ l, l ∈ ls → l ∈ ks) : Wk ks a vs c := by
  induction w with
  | one => exact .one
  | snoc _ he ih => exact .snoc ih (he.sub hs)
theorem Wk.feas (hF : Feas ls h) {vs : List Int} (w : Wk ls a vs c) : ∀ b, vs.head? = some b → h b - h a ≤ c := by
  induction w with
  | one => intro b hb; simp at hb; subst hb; omega
  | snoc _ he ih =>
    intro b hb
    simp at hb
    subst hb
    have h1 := ih _ rfl
    have h2 := hF.ed he
    omega
theorem Wk.le (hF : Feas ls h) {vs : List Int} (w : Wk ls a (b :: vs) c) : h b - h a ≤ c := w.feas hF b rfl
theorem Wk.ne {c : Int} (w : Wk ls a [] c) : False := by cases w
theorem Wk.last {vs : List Int} (w : Wk ls a vs c) : vs.getLast? = some a := by
  induction w with
  | one => rfl
  | snoc _ _ ih => rw [List.getLast?_cons_cons]; exact ih
/-- The end of a walk, put behind another one. -/
theorem Wk.cut : ∀ (xs : List Int) {v : Int} {ys : List Int} {c : Int}, Wk ls a (xs ++ v :: ys) c → ∃ c1, Wk ls a (v :: ys) c1 ∧ ∀ (a' : Int) (zs : List Int) (c2 : Int), Wk ls a' (v :: zs) c2 → Wk ls a' (xs ++ v :: zs) (c2 + (c - c1))
  | [], v, ys, c, w => ⟨c, w, fun a' zs c2 w2 => by rw [show c2 + (c - c) = c2 by omega]; exact w2⟩
  | [x], v, ys, c, w => by
    cases w with
    | snoc w he =>
      refine ⟨_, w, fun a' zs c2 w2 => ?_⟩
      rename_i c0 e
      rw [show c2 + (c0 + e - c0) = c2 + e by omega]
      exact .snoc w2 he
  | x :: y :: xs, v, ys, c, w => by
    cases w with
    | snoc w he =>
      rename_i c0 e
      obtain ⟨c1, h1, h2⟩ := Wk.cut (y :: xs) w
      refine ⟨c1, h1, fun a' zs c2 w2 => ?_⟩
      have := h2 a' zs c2 w2
      rw [show c2 + (c0 + e - c1) = c2 + (c0 - c1) + e by omega]
      exact .snoc this he
theorem Wk.app {m : Int} {vs ws : List Int} {c d : Int} (w : Wk ls a (m :: vs) c) (w' : Wk ls m (b :: ws) d) : ∃ us, Wk ls a (b :: us) (c + d) := by
  generalize hl : b :: ws = l at w'
  induction w' generalizing b ws with
  | one => cases hl; exact ⟨vs, by rw [Int.add_zero]; exact w⟩
  | snoc w2 he ih =>
    cases hl
    obtain ⟨us, hu⟩ := ih rfl
    exact ⟨_, by rw [← Int.add_assoc]; exact .snoc hu he⟩
theorem Wk.edge (e : Ed ls a b c) : Wk ls a [b, a] c := by
  have := Wk.snoc (.one (ls := ls) (a := a)) e
  rwa [Int.zero_add] at this
/-- Who can go can go back. -/
theorem Wk.back {vs : List Int} (w : Wk ls a vs c) : ∀ b, vs.head? = some b → ∃ us d, Wk ls b (a :: us) d := by
  induction w with
  | one => intro b hb; simp at hb; subst hb; exact ⟨[], 0, .one⟩
  | snoc _ he ih =>
    intro b hb
    simp at hb
    subst hb
    obtain ⟨c', hr⟩ := he.rev
    obtain ⟨us, d, hw⟩ := ih _ rfl
    obtain ⟨vs, hv⟩ := (Wk.edge hr).app hw
    exact ⟨vs, _, hv⟩
theorem not_nodup : ∀ (l : List Int), ¬ l.Nodup → ∃ xs v ys zs, l = xs ++ v :: (ys ++ v :: zs)
  | [], h => absurd List.nodup_nil h
  | x :: l, h => by
    by_cases hx : x ∈ l
    · obtain ⟨ys, zs, rfl⟩ := List.append_of_mem hx
      exact ⟨[], x, ys, zs, rfl⟩
    · obtain ⟨xs, v, ys, zs, e⟩ := not_nodup l (fun hn => h (List.nodup_cons.2 ⟨hx, hn⟩))
      exact ⟨x :: xs, v, ys, zs, by rw [e]; rfl⟩
/-- A walk without a mark twice can rise no more, if some heights agree. -/
theorem Wk.short (hF : Feas ls h) : ∀ (k : Nat) {vs : List Int} {b c : Int}, vs.length ≤ k → Wk ls a (b :: vs) c → ∃ vs' c', Wk ls a (b :: vs') c' ∧ c' ≤ c ∧ (b :: vs').Nodup
  | 0, vs, b, c, hk, w => by
    have : vs = [] := List.length_eq_zero_iff.1 (Nat.le_zero.1 hk)
    subst this
    exact ⟨[], c, w, Int.le_refl _, by simp⟩
  | k + 1, vs, b, c, hk, w => by
    by_cases hn : (b :: vs).Nodup
    · exact ⟨vs, c, w, Int.le_refl _, hn⟩
    · obtain ⟨xs, v, ys, zs, e⟩ := not_nodup _ hn
      rw [e] at w
      obtain ⟨c1, w1, t1⟩ := Wk.cut xs w
      obtain ⟨c2, w2, t2⟩ := Wk.cut (v :: ys) (v := v) (ys := zs) w1
      have w3 := t2 v [] 0 .one
      have h3 : 0 ≤ c1 - c2 := by have := Wk.le hF w3; omega
      have w4 := t1 a zs c2 w2
      have hlen : (xs ++ v :: zs).length ≤ k + 1 := by
        have := congrArg List.length e
        simp at this hk ⊢
        omega
      cases xs with
      | nil =>
        simp only [List.nil_append] at e w4 hlen
        have hb : b = v := (List.cons.inj e).1
        subst hb
        obtain ⟨vs', c', g1, g2, g3⟩ := Wk.short hF k (by simpa using hlen) w4
        exact ⟨vs', c', g1, by omega, g3⟩
      | cons x xs =>
        simp only [List.cons_append] at e w4 hlen
        have hb : b = x := (List.cons.inj e).1
        subst hb
        obtain ⟨vs', c', g1, g2, g3⟩ := Wk.short hF k (by simpa using hlen) w4
        exact ⟨vs', c', g1, by omega, g3⟩
/-- All lines lie between marks. -/
def Rng (n : Int) (ls : List Line) : Prop := ∀ l, l ∈ ls → (0 ≤ l.src ∧ l.src < n) ∧ (0 ≤ l.dst ∧ l.dst < n)
theorem Ed.rng {n : Int} (hR : Rng n ls) (e : Ed ls a b c) : (0 ≤ a ∧ a < n) ∧ (0 ≤ b ∧ b < n) := by
  obtain ⟨l, hl, ⟨rfl, rfl, rfl⟩ | ⟨rfl, rfl, rfl⟩⟩ := e
  · exact hR l hl
  · exact ⟨(hR l hl).2, (hR l hl).1⟩
theorem Wk.rng {n : Int} (hR : Rng n ls) (ha : 0 ≤ a ∧ a < n) {vs : List Int} (w : Wk ls a vs c) : ∀ v, v ∈ vs → 0 ≤ v ∧ v < n := by
  induction w with
  | one => intro v hv; simp at hv; subst hv; exact ha
  | snoc _ he ih =>
    intro v hv
    rcases List.mem_cons.1 hv with rfl | hv
    · exact (he.rng hR).2
    · exact ih v hv
/-- A shortest walk has fewer legs than there are marks. -/
theorem Wk.few {n : Nat} (hF : Feas ls h) (hR : Rng n ls) (ha : 0 ≤ a ∧ a < n) {vs : List Int} (w : Wk ls a (b :: vs) c) : ∃ vs' c', Wk ls a (b :: vs') c' ∧ c' ≤ c ∧ (b :: vs').Nodup ∧ vs'.length + 1 ≤ n := by
  obtain ⟨vs', c', g1, g2, g3⟩ := Wk.short hF _ (Nat.le_refl _) w
  exact ⟨vs', c', g1, g2, g3, nodup_bound n _ g3 (g1.rng hR ha)⟩
/-- What a walk can rise lies between bounds, as long as a leg's does. -/
theorem Wk.size (hB : ∀ a b c, Ed ls a b c → -1010000 ≤ c ∧ c ≤ 1010000) {vs : List Int} (w : Wk ls a vs c) : -(1010000 * (vs.length : Int)) + 1010000 ≤ c ∧ c ≤ 1010000 * (vs.length : Int) - 1010000 := by
  induction w with
  | one => simp
  | @snoc m b vs c e _ he ih =>
    have h1 := hB _ _ _ he
    simp only [List.length_cons, Int.natCast_succ] at ih ⊢
    omega
/-- The greatest difference. -/
structure IsDist (ls : List Line) (a b d : Int) : Prop where
  has : ∃ vs, Wk ls a (b :: vs) d
  le : ∀ vs c, Wk ls a (b :: vs) c → d ≤ c
def Tied (ls : List Line) (a b : Int) : Prop := ∃ vs c, Wk ls a (b :: vs) c
theorem IsDist.tied {d : Int} (h : IsDist ls a b d) : Tied ls a b := let ⟨vs, w⟩ := h.has; ⟨vs, d, w⟩
theorem Tied.refl (ls : List Line) (a : Int) : Tied ls a a := ⟨[], 0, .one⟩
theorem Tied.symm (t : Tied ls a b) : Tied ls b a := by
  obtain ⟨vs, c, w⟩ := t
  obtain ⟨us, d, h⟩ := w.back b rfl
  exact ⟨us, d, h⟩
theorem Tied.trans {m : Int} (t : Tied ls a m) (u : Tied ls m b) : Tied ls a b := by
  obtain ⟨vs, c, w⟩ := t
  obtain ⟨us, d, w'⟩ := u
  obtain ⟨xs, h⟩ := w.app w'
  exact ⟨xs, _, h⟩
theorem Tied.ed (e : Ed ls a b c) : Tied ls a b := ⟨_, _, Wk.edge e⟩
theorem least_nat {p : Nat → Prop} (h : ∃ n, p n) : ∃ n, p n ∧ ∀ k, p k → n ≤ k := by
  obtain ⟨n, hn⟩ := h
  induction n using Nat.strongRecOn with
  | _ n ih =>
    by_cases hc : ∃ k, k < n ∧ p k
    · obtain ⟨k, hk, hp⟩ := hc
      exact ih k hk hp
    · exact ⟨n, hn, fun k hk => by
        rcases Nat.lt_or_ge k n with hlt | hge
        · exact absurd ⟨k, hlt, hk⟩ hc
        · exact hge⟩
theorem IsDist.uniq {d d' : Int} (h1 : IsDist ls a b d) (h2 : IsDist ls a b d') : d = d' := by
  obtain ⟨vs, w⟩ := h1.has
  obtain ⟨us, w'⟩ := h2.has
  have := h1.le _ _ w'
  have := h2.le _ _ w
  omega
theorem IsDist.self (hF : Feas ls h) : IsDist ls a a 0 := ⟨⟨[], .one⟩, fun _ _ w => by have := w.le hF; omega⟩
theorem IsDist.step {m d e : Int} (h1 : IsDist ls a m d) (he : Ed ls m b e) {d' : Int} (h2 : IsDist ls a b d') : d' ≤ d + e := by
  obtain ⟨vs, w⟩ := h1.has
  exact h2.le _ _ (.snoc w he)
theorem IsDist.feas {d : Int} (hF : Feas ls h) (h1 : IsDist ls a b d) : h b - h a ≤ d := by
  obtain ⟨vs, w⟩ := h1.has
  exact w.le hF
end Go.Nm
namespace Go.Nm
/-- A net as it may be. -/
structure NetOk (n : Int) (ls : List Line) : Prop where
  marks : 1 ≤ n ∧ n ≤ 12
  few : ls.length ≤ 30
  rng : Rng n ls
  ne : ∀ l, l ∈ ls → l.src ≠ l.dst
  day : ∀ l, l ∈ ls → 0 ≤ l.day ∧ l.day ≤ 40000
  rise : ∀ l, l ∈ ls → -1000000 ≤ l.rise ∧ l.rise ≤ 1000000
  err : ∀ l, l ∈ ls → 0 ≤ l.err ∧ l.err ≤ 10000
variable {ls : List Line} {n a b c : Int} {h : Int → Int}
theorem NetOk.ed (hN : NetOk n ls) : ∀ a b c, Ed ls a b c → -1010000 ≤ c ∧ c ≤ 1010000 := by
  rintro a b c ⟨l, hl, ⟨_, _, rfl⟩ | ⟨_, _, rfl⟩⟩
  · have := hN.rise l hl; have := hN.err l hl; omega
  · have := hN.rise l hl; have := hN.err l hl; omega
/-- What is known of a row at work. -/
structure BF (ls : List Line) (n a : Int) (D : Int → Int) (k : Int) : Prop where
  top : ∀ v, 0 ≤ v → v < n → D v ≤ 1099511627776
  snd : ∀ v, 0 ≤ v → v < n → D v < 1099511627776 → ∃ vs, Wk ls a (v :: vs) (D v)
  low : ∀ v, 0 ≤ v → v < n → -(1010000 * k) ≤ D v
  own : D a ≤ 0
  up : ∀ v, 0 ≤ v → v < n → D v < 1099511627776 → D v ≤ 1010000 * k
theorem BF.init (ls : List Line) (n a : Int) : BF ls n a (fun v => if v = a then 0 else 1099511627776) 0 where
  top v _ _ := by first | (split <;> omega) | (dsimp only; split <;> omega)
  snd v _ _ hv := by
    try dsimp only at hv ⊢
    split at hv
    · rename_i e; subst e; rw [if_pos rfl]; exact ⟨[], .one⟩
    · omega
  low v _ _ := by first | (split <;> omega) | (dsimp only; split <;> omega)
  own := by rw [if_pos rfl]; exact Int.le_refl _
  up v _ _ := by first | (split <;> omega) | (dsimp only; split <;> omega)
theorem BF.congr {D D' : Int → Int} {k : Int} (hB : BF ls n a D k) (ha : 0 ≤ a ∧ a < n) (hN : Rng n ls) (e : ∀ v, 0 ≤ v → v < n → D' v = D v) : BF ls n a D' k where
  top v h0 h1 := by rw [e v h0 h1]; exact hB.top v h0 h1
  snd v h0 h1 := by rw [e v h0 h1]; exact hB.snd v h0 h1
  low v h0 h1 := by rw [e v h0 h1]; exact hB.low v h0 h1
  own := by rw [e a ha.1 ha.2]; exact hB.own
  up v h0 h1 := by rw [e v h0 h1]; exact hB.up v h0 h1
theorem BF.mono {D : Int → Int} {k k' : Int} (hB : BF ls n a D k) (hk : k ≤ k') : BF ls n a D k' := ⟨hB.top, hB.snd, fun v h0 h1 => by have := hB.low v h0 h1; omega, hB.own, fun v h0 h1 h2 => by have := hB.up v h0 h1 h2; omega⟩
theorem BF.relax {D : Int → Int} {k m g e : Int} (hB : BF ls n a D k) (hk : 0 ≤ k) (he : Ed ls m g e) (hb : -1010000 ≤ e ∧ e ≤ 1010000) (hm : 0 ≤ m ∧ m < n) (hg : 0 ≤ g ∧ g < n) (h1 : D m < 1099511627776) (h2 : D m + e < D g) : BF ls n a (fun v => if v = g then D m + e else D v) (k + 1) where
  top v h0 h3 := by
    try dsimp only
    split
    · have := hB.top g hg.1 hg.2; omega
    · exact hB.top v h0 h3
  snd v h0 h3 hv := by
    try dsimp only at hv ⊢
    split at hv
    · rename_i e; subst e
      rw [if_pos rfl]
      obtain ⟨vs, w⟩ := hB.snd m hm.1 hm.2 h1
      exact ⟨_, .snoc w he⟩
    · rename_i e; rw [if_neg e]; exact hB.snd v h0 h3 hv
  low v h0 h3 := by
    try dsimp only
    split
    · have := hB.low m hm.1 hm.2; omega
    · have := hB.low v h0 h3; omega
  own := by
    try dsimp only
    split
    · rename_i e; subst e; have := hB.own; omega
    · exact hB.own
  up v h0 h3 hv := by
    try dsimp only at hv ⊢
    split at hv
    · rename_i e; rw [if_pos e]; have := hB.up m hm.1 hm.2 h1; omega
    · rename_i e; rw [if_neg e]; have := hB.up v h0 h3 hv; omega
/-- Walks of so many legs are told. -/
def Cov (ls : List Line) (a : Int) (D : Int → Int) (r : Nat) : Prop := ∀ vs b c, Wk ls a (b :: vs) c → vs.length ≤ r → D b ≤ c
theorem Cov.zero {D : Int → Int} (h : D a ≤ 0) : Cov ls a D 0 := by
  intro vs b c w hl
  have : vs = [] := List.length_eq_zero_iff.1 (Nat.le_zero.1 hl)
  subst this
  cases w
  exact h
theorem Cov.next {D D' : Int → Int} {r : Nat} (hN : NetOk n ls) (hr : r ≤ 1000) (hC : Cov ls a D r) (ha : 0 ≤ a ∧ a < n) (hle : ∀ v, 0 ≤ v → v < n → D' v ≤ D v) (hE : ∀ m g e, Ed ls m g e → D m < 1099511627776 → D' g ≤ D m + e) : Cov ls a D' (r + 1) := by
  intro vs b c w hl
  cases w with
  | one => exact Int.le_trans (hle _ ha.1 ha.2) (hC [] _ _ .one (Nat.zero_le _))
  | snoc w he =>
    rename_i m ws c0 e
    have h1 := hC _ _ _ w (by simpa using hl)
    have h2 := w.size hN.ed
    simp only [List.length_cons] at h2 hl
    have h3 : D m < 1099511627776 := by omega
    have := hE _ _ _ he h3
    omega
/-- At the end. -/
structure Done (ls : List Line) (n a : Int) (D : Int → Int) : Prop where
  far : ∀ v, 0 ≤ v → v < n → D v ≠ 1099511627776 → D v < 1099511627776
  dist : ∀ v, 0 ≤ v → v < n → D v < 1099511627776 → IsDist ls a v (D v)
  tied : ∀ v, 0 ≤ v → v < n → Tied ls a v → D v < 1099511627776
theorem BF.done {D : Int → Int} {k : Int} {r N : Nat} (hN : NetOk n ls) (hF : Feas ls h) (e : (N : Int) = n) (ha : 0 ≤ a ∧ a < n) (hB : BF ls n a D k) (hC : Cov ls a D r) (hr : N ≤ r + 1) : Done ls n a D := by
  have hle : ∀ vs b c, Wk ls a (b :: vs) c → D b ≤ c ∧ D b < 1099511627776 := by
    intro vs b c w
    obtain ⟨vs', c', w', h1, h2, h3⟩ := w.few (n := N) hF (by rw [e]; exact hN.rng) (by rw [e]; exact ha)
    have h4 := hC _ _ _ w' (by omega)
    have h5 := w'.size hN.ed
    simp only [List.length_cons] at h5
    have := hN.marks
    exact ⟨by omega, by omega⟩
  refine ⟨fun v h0 h1 h2 => ?_, fun v h0 h1 h2 => ⟨hB.snd v h0 h1 h2, fun vs c w => (hle vs v c w).1⟩, fun v h0 h1 ⟨vs, c, w⟩ => (hle vs v c w).2⟩
  have := hB.top v h0 h1
  omega
/-- Rows that no leg makes less. -/
structure Tight (ls : List Line) (n : Int) (T : Int → Int → Int) : Prop where
  leg : ∀ a m g e, 0 ≤ a → a < n → Ed ls m g e → T a m < 1099511627776 → T a g ≤ T a m + e
  zero : ∀ a, 0 ≤ a → a < n → T a a = 0
theorem Tight.feas {T : Int → Int → Int} (hN : NetOk n ls) (hS : Tight ls n T) (ht : ∀ a v, 0 ≤ a → a < n → 0 ≤ v → v < n → T a v ≤ 1099511627776) (f : Int → Int)
    (hf : ∀ v, 0 ≤ v → v < n → (0 ≤ f v ∧ f v < n) ∧ T (f v) v < 1099511627776 ∧ ∀ u, 0 ≤ u → u < f v → ¬ T u v < 1099511627776) (hb : ∀ a m g e, 0 ≤ a → a < n → Ed ls m g e → T a m < 1099511627776 → T a m + e < 1099511627776) : Feas ls (fun v => T (f v) v) := by
  refine feas_of fun m g e he => ?_
  have hr := he.rng hN.rng
  have hm := hf m hr.1.1 hr.1.2
  have hg := hf g hr.2.1 hr.2.2
  have step : ∀ u v, Ed ls u v e ∨ (∃ e', Ed ls u v e') → True := fun _ _ _ => trivial
  have same : f m = f g := by
    have key : ∀ u v e', Ed ls u v e' → f v ≤ f u := by
      intro u v e' h'
      have hr' := h'.rng hN.rng
      have h1 := hf u hr'.1.1 hr'.1.2
      have h2 := hf v hr'.2.1 hr'.2.2
      have h3 := hS.leg _ _ _ _ h1.1.1 h1.1.2 h' h1.2.1
      have h4 := hb _ _ _ _ h1.1.1 h1.1.2 h' h1.2.1
      rcases Int.lt_or_le (f u) (f v) with hlt | hge
      · exact absurd (by omega) (h2.2.2 (f u) h1.1.1 hlt)
      · exact hge
    obtain ⟨e', hr'⟩ := he.rev
    have := key _ _ _ he
    have := key _ _ _ hr'
    omega
  try dsimp only
  have h3 := hS.leg (f m) m g e hm.1.1 hm.1.2 he hm.2.1
  rw [← same]
  omega
/-! ### Legs, and the last legs of shortest walks -/
def LegOk (ls : List Line) (g : Leg) : Prop := 0 ≤ g.line ∧ g.line < (ls.length : Int)
def lnOf (ls : List Line) (g : Leg) : Line := ls.getD (Int.toNat g.line) default
def sOf (ls : List Line) (g : Leg) : Int := legEnd g.back (lnOf ls g)
def gOf (ls : List Line) (g : Leg) : Int := legEnd (!g.back) (lnOf ls g)
def rOf (ls : List Line) (g : Leg) : Int := bif g.back then (lnOf ls g).err - (lnOf ls g).rise else (lnOf ls g).err + (lnOf ls g).rise
theorem LegOk.mem {g : Leg} (h : LegOk ls g) : lnOf ls g ∈ ls := by
  unfold lnOf
  have hl : Int.toNat g.line < ls.length := by have := h.1; have := h.2; omega
  rw [getD_el ls hl]
  exact List.getElem_mem hl
theorem LegOk.ed {g : Leg} (h : LegOk ls g) : Ed ls (sOf ls g) (gOf ls g) (rOf ls g) := by
  refine ⟨lnOf ls g, h.mem, ?_⟩
  unfold sOf gOf rOf legEnd
  cases g.back with
  | true => exact .inr ⟨rfl, rfl, rfl⟩
  | false => exact .inl ⟨rfl, rfl, rfl⟩
theorem leg_of (he : Ed ls a b c) : ∃ (i : Nat) (k : Bool), i < ls.length ∧ sOf ls ⟨i, k⟩ = a ∧ gOf ls ⟨i, k⟩ = b ∧ rOf ls ⟨i, k⟩ = c := by
  obtain ⟨l, hl, h⟩ := he
  obtain ⟨i, hi, rfl⟩ := mem_getD hl default
  rcases h with ⟨rfl, rfl, rfl⟩ | ⟨rfl, rfl, rfl⟩
  · exact ⟨i, false, hi, rfl, rfl, rfl⟩
  · exact ⟨i, true, hi, rfl, rfl, rfl⟩
/-- The last legs lead back to the first mark. -/
inductive Ch (ls : List Line) (a : Int) (by_ : Int → Leg) : Int → Prop
  | root : Ch ls a by_ a
  | up {v : Int} (hv : v ≠ a) (h : Ch ls a by_ (sOf ls (by_ v))) : Ch ls a by_ v
structure ByOk (ls : List Line) (n a : Int) (D : Int → Int) (by_ : Int → Leg) : Prop where
  leg : ∀ v, 0 ≤ v → v < n → v ≠ a → D v < 1099511627776 → LegOk ls (by_ v) ∧ gOf ls (by_ v) = v ∧ D (sOf ls (by_ v)) + rOf ls (by_ v) ≤ D v ∧ D (sOf ls (by_ v)) < 1099511627776
  chn : ∀ h, Feas ls h → ∀ v, 0 ≤ v → v < n → D v < 1099511627776 → Ch ls a by_ v
theorem ByOk.init (ls : List Line) (n a : Int) (by_ : Int → Leg) : ByOk ls n a (fun v => if v = a then 0 else 1099511627776) by_ where
  leg v _ _ hv h := by rw [if_neg hv] at h; omega
  chn h _ v _ _ hd := by
    by_cases e : v = a
    · subst e; exact .root
    · rw [if_neg e] at hd; omega
theorem Ch.congr {by_ by' : Int → Leg} (e : ∀ v, 0 ≤ v → v < n → by' v = by_ v) (hR : ∀ v, 0 ≤ v → v < n → v ≠ a → Ch ls a by_ v → 0 ≤ sOf ls (by_ v) ∧ sOf ls (by_ v) < n) {v : Int} (h0 : 0 ≤ v ∧ v < n) (h : Ch ls a by_ v) : Ch ls a by' v := by
  induction h with
  | root => exact .root
  | @up v hv hc ih => exact .up hv (by rw [e v h0.1 h0.2]; exact ih (hR v h0.1 h0.2 hv (.up hv hc)))
theorem ByOk.congr {D D' : Int → Int} {by_ by' : Int → Leg} (hN : NetOk n ls) (hB : ByOk ls n a D by_) (e : ∀ v, 0 ≤ v → v < n → D' v = D v) (e' : ∀ v, 0 ≤ v → v < n → by' v = by_ v) : ByOk ls n a D' by' where
  leg v h0 h1 hv hd := by
    rw [e v h0 h1] at hd ⊢
    rw [e' v h0 h1]
    obtain ⟨h2, h3, h4, h5⟩ := hB.leg v h0 h1 hv hd
    have hr := (h2.ed.rng hN.rng).1
    rw [e _ hr.1 hr.2]
    exact ⟨h2, h3, h4, h5⟩
  chn h hF v h0 h1 hd := by
    rw [e v h0 h1] at hd
    have hc := hB.chn h hF v h0 h1 hd
    have key : ∀ v, Ch ls a by_ v → 0 ≤ v → v < n → D v < 1099511627776 → Ch ls a by' v := by
      intro v hc
      induction hc with
      | root => exact fun _ _ _ => .root
      | @up v hv hc ih =>
        intro h0 h1 hd
        obtain ⟨h2, h3, h4, h5⟩ := hB.leg v h0 h1 hv hd
        have hr := (h2.ed.rng hN.rng).1
        exact .up hv (by rw [e' v h0 h1]; exact ih hr.1 hr.2 h5)
    exact key v hc h0 h1 hd
theorem ByOk.relax {D : Int → Int} {by_ : Int → Leg} {k : Int} {x : Leg} (hN : NetOk n ls) (hB : ByOk ls n a D by_) (hD : BF ls n a D k) (hx : LegOk ls x) (h1 : D (sOf ls x) < 1099511627776) (h2 : D (sOf ls x) + rOf ls x < D (gOf ls x)) :
    ByOk ls n a (fun v => if v = gOf ls x then D (sOf ls x) + rOf ls x else D v) (fun v => if v = gOf ls x then x else by_ v) := by
  have he := hx.ed
  have hr := he.rng hN.rng
  have hne : sOf ls x ≠ gOf ls x := by
    unfold sOf gOf legEnd
    have := hN.ne _ hx.mem
    cases x.back with
    | true => exact fun e => this e.symm
    | false => exact this
  have hle : ∀ v, (if v = gOf ls x then D (sOf ls x) + rOf ls x else D v) ≤ D v := fun v => by
    split
    · rename_i e; rw [e]; omega
    · exact Int.le_refl _
  refine ⟨fun v h0 h3 hv hd => ?_, fun h hF v h0 h3 hd => ?_⟩
  · by_cases e : v = gOf ls x
    · subst e
      simp only [if_true] at hd ⊢
      rw [if_neg hne]
      exact ⟨hx, trivial, Int.le_refl _, h1⟩
    · simp only [if_neg e] at hd ⊢
      obtain ⟨g1, g2, g3, g4⟩ := hB.leg v h0 h3 hv hd
      have := hle (sOf ls (by_ v))
      exact ⟨g1, g2, by omega, by omega⟩
  · -- the last legs lead to the first mark without the one that is turned
    have hga : gOf ls x ≠ a := by
      intro e
      obtain ⟨vs, w⟩ := hD.snd _ hr.1.1 hr.1.2 h1
      have q1 := (Wk.snoc w he).le hF
      have q2 := hD.own
      rw [e] at q1 h2
      omega
    have key : ∀ u, Ch ls a by_ u → 0 ≤ u → u < n → D u < 1099511627776 → ∀ vs c, Wk ls u (sOf ls x :: vs) c → D u + c ≤ D (sOf ls x) → Ch ls a (fun v => if v = gOf ls x then x else by_ v) u := by
      intro u hc
      induction hc with
      | root => exact fun _ _ _ _ _ _ _ => .root
      | @up u hu hc ih =>
        intro h0 h3 hd vs c w hle
        obtain ⟨g1, g2, g3, g4⟩ := hB.leg u h0 h3 hu hd
        have hr' := (g1.ed.rng hN.rng).1
        have hug : u ≠ gOf ls x := by
          intro e
          have q1 := (Wk.snoc w he).le hF
          rw [e] at q1 hle
          omega
        refine .up hu ?_
        rw [if_neg hug]
        have e1 := g1.ed
        rw [g2] at e1
        obtain ⟨us, hw⟩ := (Wk.edge e1).app w
        exact ih hr'.1 hr'.2 g4 us _ hw (by omega)
    have hm : Ch ls a (fun v => if v = gOf ls x then x else by_ v) (sOf ls x) := key _ (hB.chn h hF _ hr.1.1 hr.1.2 h1) hr.1.1 hr.1.2 h1 [] 0 .one (by omega)
    have hg : Ch ls a (fun v => if v = gOf ls x then x else by_ v) (gOf ls x) := .up hga (by rw [if_pos rfl]; exact hm)
    have all : ∀ u, Ch ls a by_ u → Ch ls a (fun v => if v = gOf ls x then x else by_ v) u := by
      intro u hc
      induction hc with
      | root => exact .root
      | @up u hu hc ih =>
        by_cases e : u = gOf ls x
        · rw [e]; exact hg
        · exact .up hu (by rw [if_neg e]; exact ih)
    by_cases e : v = gOf ls x
    · rw [e]; exact hg
    · simp only [if_neg e] at hd
      exact all v (hB.chn h hF v h0 h3 hd)
end Go.Nm
namespace Go.Proofs.Ytclhljenjphofaa
open Go Go.Nm
variable {ls : List Line} {n : Int}
theorem start_ends {g : Leg} (hg : LegOk ls g) : (m_level_survey_start n ls g).Ends (sOf ls g) := by
  unfold m_level_survey_start
  exact M.i_grd (gA2 hg.1 hg.2) M.i_pure
theorem goal_ends {g : Leg} (hg : LegOk ls g) : (m_level_survey_goal n ls g).Ends (gOf ls g) := by
  unfold m_level_survey_goal
  exact M.i_grd (gA2 hg.1 hg.2) M.i_pure
theorem rise_ends {N : Int} (hN : NetOk N ls) {g : Leg} (hg : LegOk ls g) : (m_level_survey_rise n ls g).Ends (rOf ls g) := by
  unfold m_level_survey_rise
  have h1 := hN.rise _ hg.mem
  have h2 := hN.err _ hg.mem
  unfold lnOf at h1 h2
  refine M.i_grd (gA2 hg.1 hg.2) (M.i_if (fun hb => ?_) (fun hb => ?_))
  · unfold rOf; rw [hb]
    exact M.i_grd (gA2 (by omega) (by omega)) M.i_pure
  · unfold rOf; rw [hb]
    exact M.i_grd (gA2 (by omega) (by omega)) M.i_pure
theorem sum2_ends {x y : Int} (h1 : -1000000000000000 ≤ x ∧ x ≤ 1000000000000000) (h2 : -1000000000000000 ≤ y ∧ y ≤ 1000000000000000) : (m_level_sum [x, y]).Ends (x + y) := by
  unfold m_level_sum
  refine M.i_bind (a := x + y) ?_ M.i_pure
  refine M.i_next (s' := (0 + x, 0 + 1)) ?_ (M.i_next (s' := (0 + x + y, 0 + 1 + 1)) ?_ (M.i_stop ?_))
  · simp only [m_level_sum_b0]
    exact M.i_t (by simp) (M.i_grd (by simp) (M.i_grd (gA2 (by simp; omega) (by simp; omega)) M.i_pure))
  · simp only [m_level_sum_b0]
    exact M.i_t (by simp) (M.i_grd (by simp) (M.i_grd (gA2 (by simp; omega) (by simp; omega)) M.i_pure))
  · simp only [m_level_sum_b0]
    rw [show x + y = 0 + x + y by omega]
    exact M.i_f (by simp) M.i_pure
/-- A walk over the legs that begin at a mark. -/
theorem legs_out {S X : Type} {bd : S → Leg → M (S ⊕ X)} {m : Int} (J : Nat → S → Prop) (QX : X → Prop)
    (step : ∀ (i : Nat) (k : Bool) (s : S), i < ls.length → sOf ls ⟨i, k⟩ = m → J (2 * i + k.toNat) s → (bd s ⟨i, k⟩).Out (fun r => match r with | .inl s' => J (2 * i + k.toNat + 1) s' | .inr x => QX x))
    (skip : ∀ (i : Nat) (k : Bool) (s : S), i < ls.length → sOf ls ⟨i, k⟩ ≠ m → J (2 * i + k.toNat) s → J (2 * i + k.toNat + 1) s)
    {s : S} (h : J 0 s) : (m_level_survey_legs_1 (M.yl bd) (.inl s) n ls m).Out (fun r => match r with | .inl s' => J (2 * ls.length) s' | .inr x => QX x) := by
  unfold m_level_survey_legs_1
  refine M.o_bind (P := fun y => match y with | .inl t => ∃ x, t = .inr x ∧ QX x | .inr t => ∃ s, t = .inl s ∧ J (2 * ls.length) s) ?_ ?_
  · refine M.o_for ls.length (fun i st => st.1 = i ∧ ∃ s, st.2 = .inl s ∧ J (2 * i) s) ?_ ?_ ⟨rfl, s, rfl, h⟩
    · rintro i ⟨s2, t⟩ hi ⟨rfl, s, rfl, hJ⟩
      dsimp only at hi hJ
      have one : ∀ (k : Bool) (s : S), J (2 * s2 + k.toNat) s → (M.bind (m_level_survey_start n ls ⟨s2, k⟩) fun r2 => M.bind (M.opt (r2 == m) (M.yl bd (.inl s) ⟨s2, k⟩) (false, .inl s)) fun (go, t) =>
          bif ((r2 == m) && (!go)) then (M.pure (.inr (.inl t))) else (M.pure (.inl (k.toNat + 1, t)))).Out
          (fun y : ((Nat × (S ⊕ X)) ⊕ ((S ⊕ X) ⊕ (S ⊕ X))) => match y with | .inl st => st.1 = k.toNat + 1 ∧ ∃ s, st.2 = .inl s ∧ J (2 * s2 + (k.toNat + 1)) s | .inr (.inl t) => ∃ x, t = .inr x ∧ QX x | .inr (.inr _) => False) := by
        intro k s hJ
        refine M.o_bindE (start_ends ⟨by show (0 : Int) ≤ (s2 : Int); omega, by show (s2 : Int) < _; omega⟩) ?_
        by_cases hm : sOf ls ⟨s2, k⟩ = m
        · have hb : (sOf ls ⟨s2, k⟩ == m) = true := by rw [beq_iff_eq]; exact hm
          rw [hb]
          refine M.o_bind (P := fun y => match y.1 with | true => ∃ s, y.2 = .inl s ∧ J (2 * s2 + k.toNat + 1) s | false => ∃ x, y.2 = .inr x ∧ QX x) ?_ ?_
          · refine M.o_bind (step s2 k s hi hm hJ) ?_
            rintro (s' | x) hs
            · exact M.o_pure ⟨s', rfl, hs⟩
            · exact M.o_pure ⟨x, rfl, hs⟩
          · rintro ⟨go, t⟩ hy
            cases go with
            | true => exact M.o_pure ⟨rfl, hy⟩
            | false => exact M.o_pure hy
        · have hb : (sOf ls ⟨s2, k⟩ == m) = false := by rw [beq_eq_false_iff_ne]; exact hm
          rw [hb]
          refine M.o_bindE (a := (false, .inl s)) (M.i_opt (fun h => by cases h) (fun _ => rfl)) ?_
          exact M.o_pure ⟨rfl, s, rfl, skip s2 k s hi hm hJ⟩
      simp only [m_level_survey_legs_1_b2]
      refine M.o_t (by simpa using hi) ?_
      refine M.o_bind (P := fun y => match y with | .inl t => ∃ x, t = .inr x ∧ QX x | .inr t => ∃ s, t = .inl s ∧ J (2 * (s2 + 1)) s) ?_ ?_
      · refine M.o_for 2 (fun j st => st.1 = j ∧ ∃ s, st.2 = .inl s ∧ J (2 * s2 + j) s) ?_ ?_ ⟨rfl, s, rfl, hJ⟩
        · rintro j ⟨s3, t⟩ hj ⟨rfl, s, rfl, hJ⟩
          dsimp only at hj hJ
          simp only [m_level_survey_legs_1_b1]
          refine M.o_t (by simp; omega) (M.o_grd (by simp; omega) ?_)
          rcases (show s3 = 0 ∨ s3 = 1 by omega) with rfl | rfl
          · exact M.o_mono (one false s hJ) (fun y hy => by rcases y with st | t | t; exact hy; exact hy; exact hy.elim)
          · exact M.o_mono (one true s hJ) (fun y hy => by rcases y with st | t | t; exact hy; exact hy; exact hy.elim)
        · rintro ⟨s3, t⟩ ⟨rfl, s, rfl, hJ⟩
          simp only [m_level_survey_legs_1_b1]
          exact M.o_f (by simp) (M.o_pure ⟨s, rfl, hJ⟩)
      · rintro (t | t) hy
        · exact M.o_pure hy
        · exact M.o_pure ⟨rfl, hy⟩
    · rintro ⟨s2, t⟩ ⟨rfl, s, rfl, hJ⟩
      simp only [m_level_survey_legs_1_b2]
      exact M.o_f (by simp) (M.o_pure ⟨s, rfl, hJ⟩)
  · rintro (t | t) hy
    · obtain ⟨x, rfl, hx⟩ := hy
      exact M.o_pure hx
    · obtain ⟨s, rfl, hs⟩ := hy
      exact M.o_pure hs
end Go.Proofs.Ytclhljenjphofaa
namespace Go.Nm
def rw_ (can : List Int) (a v : Int) : Int := can.getD (Int.toNat a * 13 + Int.toNat v) 0
def rb_ (by_ : List Leg) (a v : Int) : Leg := by_.getD (Int.toNat a * 13 + Int.toNat v) default
variable {ls : List Line} {n a : Int}
structure FI (ls : List Line) (n a : Int) (can0 : List Int) (by0 : List Leg) (k : Int) (can : List Int) (by_ : List Leg) : Prop where
  lc : can.length = 169
  lb : by_.length = 169
  oth : ∀ i, (i < Int.toNat a * 13 ∨ Int.toNat a * 13 + 13 ≤ i) → can.getD i 0 = can0.getD i 0 ∧ by_.getD i default = by0.getD i default
  bf : BF ls n a (rw_ can a) k
  bo : ByOk ls n a (rw_ can a) (rb_ by_ a)
theorem FI.mono {can0 can : List Int} {by0 by_ : List Leg} {k k' : Int} (h : FI ls n a can0 by0 k can by_) (hk : k ≤ k') : FI ls n a can0 by0 k' can by_ := ⟨h.lc, h.lb, h.oth, h.bf.mono hk, h.bo⟩
theorem rw_set {can : List Int} (hl : can.length = 169) {a g : Int} (ha : 0 ≤ a ∧ a < 12) (hg : 0 ≤ g ∧ g < 13) (x : Int) (v : Int) (h0 : 0 ≤ v) (h1 : v < 13) : rw_ (can.set (Int.toNat a * 13 + Int.toNat g) x) a v = if v = g then x else rw_ can a v := by
  unfold rw_
  rw [gset _ _ _ _ _ (by omega)]
  by_cases e : v = g
  · rw [if_pos e, if_pos (by rw [e])]
  · rw [if_neg e, if_neg (by omega)]
theorem rb_set {by_ : List Leg} (hl : by_.length = 169) {a g : Int} (ha : 0 ≤ a ∧ a < 12) (hg : 0 ≤ g ∧ g < 13) (x : Leg) (v : Int) (h0 : 0 ≤ v) (h1 : v < 13) : rb_ (by_.set (Int.toNat a * 13 + Int.toNat g) x) a v = if v = g then x else rb_ by_ a v := by
  unfold rb_
  rw [gset _ _ _ _ _ (by omega)]
  by_cases e : v = g
  · rw [if_pos e, if_pos (by rw [e])]
  · rw [if_neg e, if_neg (by omega)]
theorem FI.relax {can0 can : List Int} {by0 by_ : List Leg} {k : Int} {x : Leg} (hN : NetOk n ls) (ha : 0 ≤ a ∧ a < n) (h : FI ls n a can0 by0 k can by_) (hk : 0 ≤ k) (hx : LegOk ls x) (h1 : rw_ can a (sOf ls x) < 1099511627776) (h2 : rw_ can a (sOf ls x) + rOf ls x < rw_ can a (gOf ls x)) :
    FI ls n a can0 by0 (k + 1) (can.set (Int.toNat a * 13 + Int.toNat (gOf ls x)) (rw_ can a (sOf ls x) + rOf ls x)) (by_.set (Int.toNat a * 13 + Int.toNat (gOf ls x)) x) := by
  have hm := hN.marks
  have hr := hx.ed.rng hN.rng
  have e1 : ∀ v, 0 ≤ v → v < n → rw_ (can.set (Int.toNat a * 13 + Int.toNat (gOf ls x)) (rw_ can a (sOf ls x) + rOf ls x)) a v = if v = gOf ls x then rw_ can a (sOf ls x) + rOf ls x else rw_ can a v := fun v h0 h3 => rw_set h.lc (by omega) (by omega) _ v h0 (by omega)
  have e2 : ∀ v, 0 ≤ v → v < n → rb_ (by_.set (Int.toNat a * 13 + Int.toNat (gOf ls x)) x) a v = if v = gOf ls x then x else rb_ by_ a v := fun v h0 h3 => rb_set h.lb (by omega) (by omega) _ v h0 (by omega)
  refine ⟨by rw [List.length_set]; exact h.lc, by rw [List.length_set]; exact h.lb, fun i hi => ?_, ?_, ?_⟩
  · rw [gset _ _ _ _ _ (by rw [h.lc]; omega), gset _ _ _ _ _ (by rw [h.lb]; omega), if_neg (by omega), if_neg (by omega)]
    exact h.oth i hi
  · exact (h.bf.relax hk hx.ed (hN.ed _ _ _ hx.ed) hr.1 hr.2 h1 h2).congr ha hN.rng e1
  · exact (h.bo.relax hN h.bf hx h1 h2).congr hN e1 e2
/-- These legs make nothing less than they did when the round began. -/
def Rlx (ls : List Line) (D0 D : Int → Int) (pr : Nat → Bool → Prop) : Prop := ∀ (i : Nat) (k : Bool), i < ls.length → pr i k → D0 (sOf ls ⟨i, k⟩) < 1099511627776 → D (gOf ls ⟨i, k⟩) ≤ D0 (sOf ls ⟨i, k⟩) + rOf ls ⟨i, k⟩
theorem Rlx.le {D0 D D' : Int → Int} {pr pr' : Nat → Bool → Prop} (hR : Rng n ls) (h : Rlx ls D0 D pr) (hle : ∀ v, 0 ≤ v → v < n → D' v ≤ D v) (hp : ∀ i k, i < ls.length → pr' i k → pr i k) : Rlx ls D0 D' pr' := fun i k hi hpr hd => by
  have hx : LegOk ls ⟨i, k⟩ := ⟨by show (0 : Int) ≤ (i : Int); omega, by show (i : Int) < _; omega⟩
  have hr := (hx.ed.rng hR).2
  have := h i k hi (hp i k hi hpr) hd
  have := hle _ hr.1 hr.2
  omega
theorem Rlx.all {D0 D : Int → Int} (h : Rlx ls D0 D (fun _ _ => True)) : ∀ m g e, Ed ls m g e → D0 m < 1099511627776 → D g ≤ D0 m + e := by
  intro m g e he hd
  obtain ⟨i, k, hi, rfl, rfl, rfl⟩ := leg_of he
  exact h i k hi trivial hd
end Go.Nm
namespace Go.Proofs.Ytclhljenjphofaa
open Go Go.Nm
variable {ls : List Line} {n a : Int}
theorem ij {i : Nat} {k : Bool} (hi : i < ls.length) : LegOk ls ⟨i, k⟩ := ⟨by show (0 : Int) ≤ (i : Int); omega, by show (i : Int) < _; omega⟩
/-- One leg. -/
theorem fill_leg (hN : NetOk n ls) (ha : 0 ≤ a ∧ a < n) {can0 can : List Int} {by0 by_ : List Leg} {k : Int} {m i : Nat} {b : Bool} (hi : i < ls.length) (hs : sOf ls ⟨i, b⟩ = (m : Int)) (hk : 0 ≤ k ∧ k ≤ 100000) (h : FI ls n a can0 by0 k can by_) (hd : rw_ can a m < 1099511627776) :
    (m_level_survey_fill_b4 n ls a m (can, by_) ⟨i, b⟩).Out (fun r => match r with | .inl s => FI ls n a can0 by0 (k + 1) s.1 s.2 ∧ (∀ v, 0 ≤ v → v < n → rw_ s.1 a v ≤ rw_ can a v) ∧ rw_ s.1 a (gOf ls ⟨i, b⟩) ≤ rw_ can a m + rOf ls ⟨i, b⟩ | .inr _ => False) := by
  have hx : LegOk ls ⟨i, b⟩ := ij hi
  have hr := hx.ed.rng hN.rng
  have hm := hN.marks
  have hc := hN.ed _ _ _ hx.ed
  have hlo := h.bf.low m (by omega) (by rw [← hs]; exact hr.1.2)
  simp only [m_level_survey_fill_b4]
  refine M.o_bindE (rise_ends hN hx) ?_
  refine M.o_bindE (a := rw_ can a m + rOf ls ⟨i, b⟩) (sum2_ends (x := can.getD (Int.toNat a * 13 + m) 0) (by unfold rw_ at hlo hd; rw [Int.toNat_natCast] at hlo hd; omega) (by omega)) ?_
  refine M.o_bindE (goal_ends hx) ?_
  refine M.o_grd (gA2 (by omega) (by omega)) ?_
  refine M.o_if (fun hb => ?_) (fun hb => ?_)
  · have hb := of_decide_eq_true hb
    refine M.o_bindE (goal_ends hx) (M.o_bindE (goal_ends hx) (M.o_grd (gA2 (by omega) (by omega)) (M.o_grd (gA2 (by omega) (by omega)) (M.o_pure ?_))))
    have h1 := h.relax hN ha hk.1 hx (by rw [hs]; exact hd) (by rw [hs]; exact hb)
    rw [hs] at h1
    have e1 : ∀ v, 0 ≤ v → v < n → rw_ (can.set (Int.toNat a * 13 + Int.toNat (gOf ls ⟨i, b⟩)) (rw_ can a m + rOf ls ⟨i, b⟩)) a v = if v = gOf ls ⟨i, b⟩ then rw_ can a m + rOf ls ⟨i, b⟩ else rw_ can a v := fun v h0 h3 => rw_set h.lc (by omega) (by omega) _ v h0 (by omega)
    refine ⟨h1, fun v h0 h3 => ?_, ?_⟩
    · dsimp only
      rw [e1 v h0 h3]
      split
      · rename_i e
        rw [e]
        exact Int.le_of_lt hb
      · exact Int.le_refl _
    · dsimp only
      rw [e1 _ hr.2.1 hr.2.2, if_pos rfl]
      exact Int.le_refl _
  · have hb := of_decide_eq_false hb
    refine M.o_pure ⟨h.mono (by omega), fun v _ _ => Int.le_refl _, ?_⟩
    dsimp only
    unfold rw_ at *
    omega
/-- The legs at a mark. -/
theorem fill_mark (hN : NetOk n ls) (ha : 0 ≤ a ∧ a < n) {can0 can : List Int} {by0 by_ : List Leg} {k : Int} {m : Nat} (hm : (m : Int) < n) (hk : 0 ≤ k ∧ k ≤ 90000) (h : FI ls n a can0 by0 k can by_) {D0 : Int → Int} (hle : ∀ v, 0 ≤ v → v < n → rw_ can a v ≤ D0 v) (hR : Rlx ls D0 (rw_ can a) (fun i b => sOf ls ⟨i, b⟩ < (m : Int))) (hd : rw_ can a m < 1099511627776) :
    (m_level_survey_legs_1 (M.yl (m_level_survey_fill_b4 n ls a m)) (.inl (can, by_)) n ls m).Out (fun r => match r with | .inl s => FI ls n a can0 by0 (k + 60) s.1 s.2 ∧ (∀ v, 0 ≤ v → v < n → rw_ s.1 a v ≤ D0 v) ∧ Rlx ls D0 (rw_ s.1 a) (fun i b => sOf ls ⟨i, b⟩ < (m : Int) + 1) | .inr _ => False) := by
  have hf := hN.few
  refine M.o_mono (legs_out (m := (m : Int)) (fun idx s => FI ls n a can0 by0 (k + idx) s.1 s.2 ∧ (∀ v, 0 ≤ v → v < n → rw_ s.1 a v ≤ D0 v) ∧ rw_ s.1 a m < 1099511627776 ∧ Rlx ls D0 (rw_ s.1 a) (fun i b => sOf ls ⟨i, b⟩ < (m : Int) ∨ (sOf ls ⟨i, b⟩ = (m : Int) ∧ 2 * i + b.toNat < idx))) (fun _ => False) ?_ ?_ (s := (can, by_)) ⟨h.mono (by omega), hle, hd, hR.le hN.rng (fun v _ _ => Int.le_refl _) (fun i b _ hp => by rcases hp with hp | ⟨_, hp⟩; exact hp; omega)⟩) ?_
  · rintro i b ⟨s, s2⟩ hi hs ⟨hF, hle, hd, hR⟩
    dsimp only at hF hle hd hR
    have hb2 : b.toNat ≤ 1 := by cases b <;> decide
    refine M.o_mono (fill_leg hN ha hi hs (by omega) hF hd) ?_
    rintro (⟨t, t2⟩ | x) hy
    · obtain ⟨h1, h2, h3⟩ := hy
      dsimp only at h1 h2 h3 ⊢
      refine ⟨h1.mono (by omega), fun v h0 h4 => Int.le_trans (h2 v h0 h4) (hle v h0 h4), Int.lt_of_le_of_lt (h2 m (by omega) hm) hd, fun i' b' hi' hp hd0 => ?_⟩
      have hr' := ((ij (k := b') hi').ed.rng hN.rng).2
      by_cases e : sOf ls ⟨i', b'⟩ < (m : Int) ∨ (sOf ls ⟨i', b'⟩ = (m : Int) ∧ 2 * i' + b'.toNat < 2 * i + b.toNat)
      · have := hR i' b' hi' e hd0
        have := h2 _ hr'.1 hr'.2
        omega
      · have hb3 : b'.toNat ≤ 1 := by cases b' <;> decide
        have e2 : i' = i ∧ b' = b := by
          have : 2 * i' + b'.toNat = 2 * i + b.toNat := by omega
          refine ⟨by omega, ?_⟩
          have : b'.toNat = b.toNat := by omega
          cases b <;> cases b' <;> simp_all
        obtain ⟨rfl, rfl⟩ := e2
        rw [hs] at hd0 ⊢
        have := hle m (by omega) hm
        omega
    · exact hy.elim
  · rintro i b ⟨s, s2⟩ hi hs ⟨hF, hle, hd, hR⟩
    refine ⟨hF.mono (by omega), hle, hd, hR.le hN.rng (fun v _ _ => Int.le_refl _) (fun i' b' hi' hp => ?_)⟩
    rcases hp with hp | ⟨hp, hp2⟩
    · exact .inl hp
    · have hb2 : b.toNat ≤ 1 := by cases b <;> decide
      have hb3 : b'.toNat ≤ 1 := by cases b' <;> decide
      refine .inr ⟨hp, ?_⟩
      rcases Nat.lt_or_ge (2 * i' + b'.toNat) (2 * i + b.toNat) with h | h
      · exact h
      · exfalso
        have : 2 * i' + b'.toNat = 2 * i + b.toNat := by omega
        have e1 : i' = i := by omega
        subst e1
        have e2 : b' = b := by
          have : b'.toNat = b.toNat := by omega
          cases b <;> cases b' <;> simp_all
        subst e2
        exact hs hp
  · rintro (s | x) hy
    · obtain ⟨h1, h2, h3, h4⟩ := hy
      refine ⟨h1.mono (by omega), h2, h4.le hN.rng (fun v _ _ => Int.le_refl _) (fun i b hi hp => ?_)⟩
      have hb2 : b.toNat ≤ 1 := by cases b <;> decide
      by_cases e : sOf ls ⟨i, b⟩ < (m : Int)
      · exact .inl e
      · exact .inr ⟨by omega, by omega⟩
    · exact hy.elim
/-- A row. -/
theorem fill_out (hN : NetOk n ls) (ha : 0 ≤ a ∧ a < n) {can : List Int} {by_ : List Leg} (lc : can.length = 169) (lb : by_.length = 169) (h0 : ∀ v, 0 ≤ v → v < n → rw_ can a v = if v = a then 0 else 1099511627776) :
    (m_level_survey_fill n ls can by_ a).Out (fun r => FI ls n a can by_ 8640 r.1 r.2 ∧ Cov ls a (rw_ r.1 a) (Int.toNat n)) := by
  have hm := hN.marks
  have hI : FI ls n a can by_ 0 can by_ := ⟨lc, lb, fun _ _ => ⟨rfl, rfl⟩, (BF.init ls n a).congr ha hN.rng h0, (ByOk.init ls n a (rb_ by_ a)).congr hN h0 (fun _ _ _ => rfl)⟩
  unfold m_level_survey_fill
  refine M.o_grd (gA2 (by omega) (by omega)) ?_
  refine M.o_bind (P := fun r => FI ls n a can by_ 8640 r.1 r.2 ∧ Cov ls a (rw_ r.1 a) (Int.toNat n)) ?_ (fun y hy => M.o_pure hy)
  refine M.o_for (Int.toNat n) (fun r st => st.2.2 = r ∧ FI ls n a can by_ (720 * r) st.1 st.2.1 ∧ Cov ls a (rw_ st.1 a) r) ?_ ?_ (s := (can, by_, 0)) ⟨rfl, hI.mono (by simp), Cov.zero (by rw [h0 a ha.1 ha.2, if_pos rfl]; exact Int.le_refl _)⟩
  · rintro r ⟨c, y, r'⟩ hr ⟨rfl, hF, hC⟩
    dsimp only at hr hF hC
    simp only [m_level_survey_fill_b6]
    refine M.o_t (by simp; omega) ?_
    refine M.o_bind (P := fun q => FI ls n a can by_ (720 * (r' + 1)) q.1 q.2 ∧ Cov ls a (rw_ q.1 a) (r' + 1)) ?_ ?_
    · refine M.o_for (Int.toNat n) (fun m st => st.1 = m ∧ FI ls n a can by_ (720 * r' + 60 * m) st.2.1 st.2.2 ∧ (∀ v, 0 ≤ v → v < n → rw_ st.2.1 a v ≤ rw_ c a v) ∧ Rlx ls (rw_ c a) (rw_ st.2.1 a) (fun i b => sOf ls ⟨i, b⟩ < (m : Int))) ?_ ?_ (s := (0, c, y)) ⟨rfl, hF.mono (by simp), fun v _ _ => Int.le_refl _, fun i b hi hp _ => by have := ((ij (k := b) hi).ed.rng hN.rng).1; omega⟩
      · rintro m ⟨m', s, s2⟩ hmn ⟨rfl, hF, hle, hR⟩
        dsimp only at hmn hF hle hR
        simp only [m_level_survey_fill_b5]
        refine M.o_t (by simp; omega) (M.o_grd (gA2 (by omega) (by omega)) (M.o_if (fun hb => ?_) (fun hb => ?_)))
        · have hb := beq_iff_eq.1 hb
          refine M.o_grd (gA2 (by omega) (by omega)) (M.o_pure ⟨rfl, hF.mono (by omega), hle, fun i b hi hp hd => ?_⟩)
          by_cases e : sOf ls ⟨i, b⟩ < (m' : Int)
          · exact hR i b hi e hd
          · exfalso
            have e2 : sOf ls ⟨i, b⟩ = (m' : Int) := by omega
            have := hle m' (by omega) (by omega)
            rw [e2] at hd
            unfold rw_ at this hd
            rw [Int.toNat_natCast] at this hd
            omega
        · have hb := beq_eq_false_iff_ne.1 hb
          have htop := hF.bf.top m' (by omega) (by omega)
          have hd : rw_ s a m' < 1099511627776 := by
            unfold rw_ at htop ⊢
            rw [Int.toNat_natCast] at htop ⊢
            omega
          refine M.o_bindE (a := (m' : Int)) M.i_pure ?_
          refine M.o_bind (fill_mark hN ha (m := m') (by omega) (by omega) hF hle hR hd) ?_
          rintro (⟨t, t2⟩ | x) hy
          · refine M.o_grd (gA2 (by omega) (by omega)) (M.o_pure ⟨rfl, hy.1.mono (by omega), hy.2.1, hy.2.2.le hN.rng (fun v _ _ => Int.le_refl _) (fun i b _ hp => by omega)⟩)
          · exact hy.elim
      · rintro ⟨m', s, s2⟩ ⟨rfl, hF, hle, hR⟩
        dsimp only at hF hle hR
        simp only [m_level_survey_fill_b5]
        refine M.o_f (by simp; omega) (M.o_pure ⟨hF.mono (by omega), ?_⟩)
        refine hC.next hN (by omega) ha hle ?_
        refine Rlx.all (hR.le hN.rng (fun v _ _ => Int.le_refl _) (fun i b hi _ => ?_))
        have := ((ij (k := b) hi).ed.rng hN.rng).1
        omega
    · rintro ⟨q, q2⟩ ⟨h1, h2⟩
      exact M.o_grd (gA2 (by omega) (by omega)) (M.o_pure ⟨rfl, h1.mono (by omega), h2⟩)
  · rintro ⟨c, y, r'⟩ ⟨rfl, hF, hC⟩
    simp only [m_level_survey_fill_b6]
    exact M.o_f (by simp; omega) (M.o_pure ⟨hF.mono (by omega), hC⟩)
end Go.Proofs.Ytclhljenjphofaa
namespace Go.Nm
variable {ls : List Line} {n a : Int}
theorem Cov.congr {D D' : Int → Int} {r : Nat} (hR : Rng n ls) (ha : 0 ≤ a ∧ a < n) (h : Cov ls a D r) (e : ∀ v, 0 ≤ v → v < n → D' v = D v) : Cov ls a D' r := fun vs b c w hl => by
  have := w.rng hR ha b (by simp)
  rw [e b this.1 this.2]
  exact h vs b c w hl
def Agr (ls : List Line) : Prop := ∃ h, Feas ls h
structure Row (ls : List Line) (n a : Int) (D : Int → Int) (by_ : Int → Leg) : Prop where
  bf : BF ls n a D 8640
  cov : Cov ls a D (Int.toNat n)
  bo : ByOk ls n a D by_
theorem Row.congr {D D' : Int → Int} {b b' : Int → Leg} (hN : NetOk n ls) (ha : 0 ≤ a ∧ a < n) (h : Row ls n a D b) (e : ∀ v, 0 ≤ v → v < n → D' v = D v) (e' : ∀ v, 0 ≤ v → v < n → b' v = b v) : Row ls n a D' b' :=
  ⟨h.bf.congr ha hN.rng e, h.cov.congr hN.rng ha e, h.bo.congr hN e e'⟩
structure Wkd (ls : List Line) (n : Int) (can : List Int) (by_ : List Leg) : Prop where
  lc : can.length = 169
  lb : by_.length = 169
  row : ∀ a, 0 ≤ a → a < n → Row ls n a (rw_ can a) (rb_ by_ a)
theorem Wkd.done {can : List Int} {by_ : List Leg} (hN : NetOk n ls) (hW : Wkd ls n can by_) (hA : Agr ls) (ha : 0 ≤ a ∧ a < n) : Done ls n a (rw_ can a) := by
  obtain ⟨h, hF⟩ := hA
  have hr := hW.row a ha.1 ha.2
  have hm := hN.marks
  exact hr.bf.done (N := Int.toNat n) hN hF (by omega) ha hr.cov (by omega)
def Rx (ls : List Line) (can : List Int) (a : Int) (x : Leg) : Prop := rw_ can a (sOf ls x) < 1099511627776 ∧ rw_ can a (sOf ls x) + rOf ls x < rw_ can a (gOf ls x)
theorem Wkd.agr_no {can : List Int} {by_ : List Leg} (hN : NetOk n ls) (hW : Wkd ls n can by_) (hA : Agr ls) (ha : 0 ≤ a ∧ a < n) {x : Leg} (hx : LegOk ls x) : ¬ Rx ls can a x := by
  rintro ⟨h1, h2⟩
  have hD := hW.done hN hA ha
  have hr := hx.ed.rng hN.rng
  have d1 := hD.dist _ hr.1.1 hr.1.2 h1
  have ht : Tied ls a (gOf ls x) := d1.tied.trans (.ed hx.ed)
  have d2 := hD.dist _ hr.2.1 hr.2.2 (hD.tied _ hr.2.1 hr.2.2 ht)
  have := d1.step hx.ed d2
  omega
theorem Wkd.agr_zero {can : List Int} {by_ : List Leg} (hN : NetOk n ls) (hW : Wkd ls n can by_) (hA : Agr ls) (ha : 0 ≤ a ∧ a < n) : rw_ can a a = 0 := by
  have hD := hW.done hN hA ha
  have h1 := (hW.row a ha.1 ha.2).bf.own
  obtain ⟨h, hF⟩ := hA
  exact (hD.dist a ha.1 ha.2 (by omega)).uniq (.self hF)
theorem Wkd.agr_of {can : List Int} {by_ : List Leg} (hN : NetOk n ls) (hW : Wkd ls n can by_) (h1 : ∀ a, 0 ≤ a → a < n → ∀ x, LegOk ls x → ¬ Rx ls can a x) (h2 : ∀ a, 0 ≤ a → a < n → ¬ rw_ can a a < 0) :
    ∃ f : Int → Int, (∀ v, 0 ≤ v → v < n → (0 ≤ f v ∧ f v < n) ∧ rw_ can (f v) v < 1099511627776 ∧ ∀ u, 0 ≤ u → u < f v → ¬ rw_ can u v < 1099511627776) ∧ Feas ls (fun v => rw_ can (f v) v) := by
  have hS : Tight ls n (rw_ can) := by
    refine ⟨fun a m g e h0 h3 he hd => ?_, fun a h0 h3 => ?_⟩
    · obtain ⟨i, k, hi, rfl, rfl, rfl⟩ := leg_of he
      have := h1 a h0 h3 ⟨i, k⟩ ⟨by show (0 : Int) ≤ (i : Int); omega, by show (i : Int) < _; omega⟩
      unfold Rx at this
      omega
    · have := h2 a h0 h3
      have := (hW.row a h0 h3).bf.own
      omega
  have hex : ∀ v, 0 ≤ v → v < n → ∃ u : Nat, ((u : Int) < n ∧ rw_ can u v < 1099511627776) ∧ ∀ k : Nat, ((k : Int) < n ∧ rw_ can k v < 1099511627776) → u ≤ k := by
    intro v h0 h3
    refine least_nat ⟨v.toNat, by omega, ?_⟩
    rw [Int.toNat_of_nonneg h0, hS.zero v h0 h3]
    omega
  refine ⟨fun v => if h : 0 ≤ v ∧ v < n then (((hex v h.1 h.2).choose : Nat) : Int) else 0, ?_, ?_⟩
  · intro v h0 h3
    dsimp only
    rw [dif_pos ⟨h0, h3⟩]
    obtain ⟨⟨g1, g2⟩, g3⟩ := (hex v h0 h3).choose_spec
    refine ⟨⟨by omega, g1⟩, g2, fun u hu0 hu1 hu => ?_⟩
    have := g3 u.toNat (by rw [Int.toNat_of_nonneg hu0]; exact ⟨by omega, hu⟩)
    omega
  · refine hS.feas hN (fun a v h0 h3 h4 h5 => (hW.row a h0 h3).bf.top v h4 h5) _ ?_ (fun a m g e h0 h3 he hd => ?_)
    · intro v h0 h3
      try dsimp only
      rw [dif_pos ⟨h0, h3⟩]
      obtain ⟨⟨g1, g2⟩, g3⟩ := (hex v h0 h3).choose_spec
      refine ⟨⟨by omega, g1⟩, g2, fun u hu0 hu1 hu => ?_⟩
      have := g3 u.toNat (by rw [Int.toNat_of_nonneg hu0]; exact ⟨by omega, hu⟩)
      omega
    · have hr := he.rng hN.rng
      have := (hW.row a h0 h3).bf.up m hr.1.1 hr.1.2 hd
      have := hN.ed _ _ _ he
      omega
end Go.Nm
namespace Go.Proofs.Ytclhljenjphofaa
open Go Go.Nm
variable {ls : List Line} {n a : Int}
theorem rw_nat (can : List Int) (i j : Nat) : rw_ can i j = can.getD (i * 13 + j) 0 := by unfold rw_; rw [Int.toNat_natCast, Int.toNat_natCast]
theorem worked_out (hN : NetOk n ls) : (m_level_worked n ls).Out (fun r => r.1 = n ∧ Wkd ls n r.2.1 r.2.2) := by
  have hm := hN.marks
  unfold m_level_worked
  refine M.o_bind (P := fun c => c.length = 169 ∧ ∀ i j : Nat, (i : Int) < n → (j : Int) < n → c.getD (i * 13 + j) 0 = if j = i then 0 else 1099511627776) ?_ ?_
  · refine M.o_for (Int.toNat n) (fun i st => st.2 = i ∧ st.1.length = 169 ∧ ∀ i' j : Nat, i' < i → (j : Int) < n → st.1.getD (i' * 13 + j) 0 = if j = i' then 0 else 1099511627776) ?_ ?_ (s := (List.replicate 169 0, 0)) ⟨rfl, List.length_replicate, fun i' j h => by omega⟩
    · rintro i ⟨c, i0⟩ hi ⟨rfl, hl, hc⟩
      dsimp only at hi hl hc
      simp only [m_level_worked_b2]
      refine M.o_t (by simp; omega) ?_
      refine M.o_bind (P := fun d => d.length = 169 ∧ (∀ i' j : Nat, i' < i0 → (j : Int) < n → d.getD (i' * 13 + j) 0 = if j = i' then 0 else 1099511627776) ∧ ∀ j : Nat, (j : Int) < n → d.getD (i0 * 13 + j) 0 = 1099511627776) ?_ ?_
      · refine M.o_for (Int.toNat n) (fun j st => st.2 = j ∧ st.1.length = 169 ∧ (∀ i' j : Nat, i' < i0 → (j : Int) < n → st.1.getD (i' * 13 + j) 0 = if j = i' then 0 else 1099511627776) ∧ ∀ j' : Nat, j' < j → st.1.getD (i0 * 13 + j') 0 = 1099511627776) ?_ ?_ (s := (c, 0)) ⟨rfl, hl, hc, fun j h => by omega⟩
        · rintro j ⟨d, j0⟩ hj ⟨rfl, hl, hd, he⟩
          dsimp only at hj hl hd he
          simp only [m_level_worked_b1]
          refine M.o_t (by simp; omega) (M.o_grd (gA2 (by omega) (by omega)) (M.o_grd (gA2 (by omega) (by omega)) (M.o_grd (gA2 (by omega) (by omega)) (M.o_pure ⟨rfl, by simpa using hl, fun i' j h1 h2 => ?_, fun j' h1 => ?_⟩))))
          · dsimp only
            rw [gset _ _ _ _ _ (by omega), if_neg (by omega)]
            exact hd i' j h1 h2
          · dsimp only
            rw [gset _ _ _ _ _ (by omega)]
            by_cases e : j' = j0
            · rw [e, if_pos rfl]
            · rw [if_neg (by omega)]; exact he j' (by omega)
        · rintro ⟨d, j0⟩ ⟨rfl, hl, hd, he⟩
          simp only [m_level_worked_b1]
          exact M.o_f (by simp; omega) (M.o_pure ⟨hl, hd, fun j h => he j (by omega)⟩)
      · rintro d ⟨hl, hd, he⟩
        refine M.o_grd (gA2 (by omega) (by omega)) (M.o_grd (gA2 (by omega) (by omega)) (M.o_pure ⟨rfl, by simpa using hl, fun i' j h1 h2 => ?_⟩))
        dsimp only
        rw [gset _ _ _ _ _ (by omega)]
        by_cases e : i' = i0
        · subst e
          by_cases e2 : j = i'
          · subst e2; rw [if_pos rfl, if_pos rfl]
          · rw [if_neg (by omega), if_neg e2]; exact he j h2
        · rw [if_neg (by omega)]; exact hd i' j (by omega) h2
    · rintro ⟨c, i0⟩ ⟨rfl, hl, hc⟩
      simp only [m_level_worked_b2]
      exact M.o_f (by simp; omega) (M.o_pure ⟨hl, fun i j h1 h2 => hc i j (by omega) h2⟩)
  · rintro c ⟨hl, hc⟩
    refine M.o_bind (P := fun r => Wkd ls n r.1 r.2) ?_ (fun r hr => M.o_pure ⟨rfl, hr⟩)
    refine M.o_for (Int.toNat n) (fun i st => st.2.2 = i ∧ st.1.length = 169 ∧ st.2.1.length = 169 ∧ (∀ a : Nat, a < i → Row ls n a (rw_ st.1 a) (rb_ st.2.1 a)) ∧ ∀ a j : Nat, i ≤ a → (a : Int) < n → (j : Int) < n → st.1.getD (a * 13 + j) 0 = if j = a then 0 else 1099511627776) ?_ ?_ (s := (c, List.replicate 169 default, 0)) ⟨rfl, hl, List.length_replicate, fun a h => by omega, fun a j _ h1 h2 => hc a j h1 h2⟩
    · rintro i ⟨c, y, i0⟩ hi ⟨rfl, hl, hy, hd, hc⟩
      dsimp only at hi hl hy hd hc
      simp only [m_level_worked_b3]
      refine M.o_t (by simp; omega) ?_
      refine M.o_bind (fill_out hN (a := (i0 : Int)) (by omega) hl hy ?_) ?_
      · intro v h0 h1
        have := hc i0 v.toNat (Nat.le_refl _) (by omega) (by omega)
        unfold rw_
        rw [Int.toNat_natCast, this]
        by_cases e : v = (i0 : Int)
        · rw [if_pos e, if_pos (by omega)]
        · rw [if_neg e, if_neg (by omega)]
      · rintro ⟨q, q2⟩ ⟨hF, hC⟩
        refine M.o_grd (gA2 (by omega) (by omega)) (M.o_pure ⟨rfl, hF.lc, hF.lb, fun a h => ?_, fun a j h1 h2 h3 => ?_⟩)
        · by_cases e : a = i0
          · subst e; exact ⟨hF.bf, hC, hF.bo⟩
          · refine (hd a (by omega)).congr hN (by omega) (fun v h0 h1 => ?_) (fun v h0 h1 => ?_)
            · have := (hF.oth (a * 13 + v.toNat) (by rw [Int.toNat_natCast]; omega)).1
              unfold rw_; rw [Int.toNat_natCast]; exact this
            · have := (hF.oth (a * 13 + v.toNat) (by rw [Int.toNat_natCast]; omega)).2
              unfold rb_; rw [Int.toNat_natCast]; exact this
        · have := (hF.oth (a * 13 + j) (by rw [Int.toNat_natCast]; omega)).1
          dsimp only
          rw [this]
          exact hc a j (by omega) h2 h3
    · rintro ⟨c, y, i0⟩ ⟨rfl, hl, hy, hd, hc⟩
      simp only [m_level_worked_b3]
      refine M.o_f (by simp; omega) (M.o_pure ⟨hl, hy, fun a h0 h1 => ?_⟩)
      have := hd a.toNat (by omega)
      rwa [Int.toNat_of_nonneg h0] at this
theorem open_out (hN : NetOk n ls) {can : List Int} {by_ : List Leg} (hW : Wkd ls n can by_) : (m_level_survey_open n ls can by_).Out (fun b => b = true ↔ ¬ Agr ls) := by
  have hm := hN.marks
  have leg : ∀ (m i : Nat) (b : Bool), i < ls.length → sOf ls ⟨i, b⟩ = (m : Int) → (m_level_survey_open_b5 n ls can m () ⟨i, b⟩).Out (fun r => match r with | .inl _ => ∀ a, 0 ≤ a → a < n → ¬ Rx ls can a ⟨i, b⟩ | .inr _ => ∃ a, (0 ≤ a ∧ a < n) ∧ Rx ls can a ⟨i, b⟩) := by
    intro m i b hi hs
    have hx : LegOk ls ⟨i, b⟩ := ij hi
    have hr := hx.ed.rng hN.rng
    have hc := hN.ed _ _ _ hx.ed
    simp only [m_level_survey_open_b5]
    refine M.o_bind (P := fun y => match y with | .inl _ => ∃ a, (0 ≤ a ∧ a < n) ∧ Rx ls can a ⟨i, b⟩ | .inr _ => ∀ a, 0 ≤ a → a < n → ¬ Rx ls can a ⟨i, b⟩) ?_ (fun y hy => by rcases y with y | y <;> exact M.o_pure hy)
    refine M.o_for (Int.toNat n) (fun k s => s = k ∧ ∀ a : Nat, a < k → ¬ Rx ls can a ⟨i, b⟩) ?_ ?_ (s := 0) ⟨rfl, fun a h => by omega⟩
    · rintro k s hk ⟨rfl, hJ⟩
      have e0 : rw_ can s (sOf ls ⟨i, b⟩) = can.getD (s * 13 + m) 0 := by rw [hs]; exact rw_nat can s m
      have e1 : rw_ can s (gOf ls ⟨i, b⟩) = can.getD (s * 13 + Int.toNat (gOf ls ⟨i, b⟩)) 0 := by unfold rw_; rw [Int.toNat_natCast]
      have hlo := (hW.row s (by omega) (by omega)).bf.low (sOf ls ⟨i, b⟩) hr.1.1 hr.1.2
      rw [e0] at hlo
      simp only [m_level_survey_open_b4]
      refine M.o_t (by simp; omega) (M.o_grd (gA2 (by omega) (by omega)) (M.o_grd (gA2 (by omega) (by omega)) ?_))
      by_cases hd : can.getD (s * 13 + m) 0 < 1099511627776
      · have hd' : decide (can.getD (s * 13 + m) 0 < 1099511627776) = true := decide_eq_true hd
        rw [hd']
        refine M.o_bindE (a := rOf ls ⟨i, b⟩) (M.i_opt (fun _ => rise_ends hN hx) (fun h => by cases h)) (M.o_grd (gOr2 (by omega) (by omega)) (M.o_bindE (a := gOf ls ⟨i, b⟩) (M.i_opt (fun _ => goal_ends hx) (fun h => by cases h)) (M.o_grd (gOr2 (by omega) (by omega)) ?_)))
        by_cases h2 : can.getD (s * 13 + m) 0 + rOf ls ⟨i, b⟩ < can.getD (s * 13 + Int.toNat (gOf ls ⟨i, b⟩)) 0
        · exact M.o_t (by rw [Bool.true_and]; exact decide_eq_true h2) (M.o_pure ⟨s, by omega, by unfold Rx; rw [e0, e1]; exact ⟨hd, h2⟩⟩)
        · refine M.o_f (by rw [Bool.true_and]; exact decide_eq_false h2) (M.o_grd (gA2 (by omega) (by omega)) (M.o_pure ⟨rfl, fun a h => ?_⟩))
          by_cases e : a = s
          · rw [e]; unfold Rx; rw [e0, e1]; exact fun h => h2 h.2
          · exact hJ a (by omega)
      · have hd' : decide (can.getD (s * 13 + m) 0 < 1099511627776) = false := decide_eq_false hd
        rw [hd']
        refine M.o_bindE (a := 0) (M.i_opt (fun h => by cases h) (fun _ => rfl)) (M.o_grd (by simp) (M.o_bindE (a := 0) (M.i_opt (fun h => by cases h) (fun _ => rfl)) (M.o_grd (by simp) ?_)))
        refine M.o_f (by simp) (M.o_grd (gA2 (by omega) (by omega)) (M.o_pure ⟨rfl, fun a h => ?_⟩))
        by_cases e : a = s
        · rw [e]; unfold Rx; rw [e0]; exact fun h => hd h.1
        · exact hJ a (by omega)
    · rintro s ⟨rfl, hJ⟩
      simp only [m_level_survey_open_b4]
      refine M.o_f (by simp; omega) (M.o_pure fun a h0 h1 => ?_)
      have := hJ a.toNat (by omega)
      rwa [Int.toNat_of_nonneg h0] at this
  have no_of : (∃ x, LegOk ls x ∧ ∃ a, (0 ≤ a ∧ a < n) ∧ Rx ls can a x) → ¬ Agr ls := by
    rintro ⟨x, hx, a, ha, hR⟩ hA
    exact hW.agr_no hN hA ha hx hR
  unfold m_level_survey_open
  refine M.o_bind (P := fun y => match y with | .inl _ => ¬ Agr ls | .inr _ => Agr ls) ?_ (fun y hy => by
    rcases y with y | y
    · exact M.o_pure ⟨fun _ => hy, fun _ => rfl⟩
    · exact M.o_pure ⟨fun h => (by cases h), fun h => absurd hy h⟩)
  refine M.o_for (Int.toNat n) (fun m s => s = m ∧ (∀ i b, i < ls.length → sOf ls ⟨i, b⟩ < (m : Int) → ∀ a, 0 ≤ a → a < n → ¬ Rx ls can a ⟨i, b⟩) ∧ ∀ a : Nat, a < m → ¬ rw_ can a a < 0) ?_ ?_ (s := 0) ⟨rfl, fun i b hi h => by have := ((ij (k := b) hi).ed.rng hN.rng).1; omega, fun a h => by omega⟩
  · rintro m s hmn ⟨rfl, h1, h2⟩
    simp only [m_level_survey_open_b6]
    refine M.o_t (by simp; omega) (M.o_bindE (a := (s : Int)) M.i_pure ?_)
    refine M.o_bind (legs_out (m := (s : Int)) (fun idx _ => ∀ i b, i < ls.length → sOf ls ⟨i, b⟩ = (s : Int) → 2 * i + b.toNat < idx → ∀ a, 0 ≤ a → a < n → ¬ Rx ls can a ⟨i, b⟩) (fun _ => ¬ Agr ls) ?_ ?_ (s := ()) (fun i b _ _ h => by omega)) ?_
    · intro i b _ hi hs hJ
      refine M.o_mono (leg s i b hi hs) ?_
      rintro (x | x) hx
      · intro i' b' hi' hs' hlt
        by_cases e : 2 * i' + b'.toNat < 2 * i + b.toNat
        · exact hJ i' b' hi' hs' e
        · have hb2 : b.toNat ≤ 1 := by cases b <;> decide
          have hb3 : b'.toNat ≤ 1 := by cases b' <;> decide
          have e1 : i' = i := by omega
          subst e1
          have e2 : b' = b := by
            have : b'.toNat = b.toNat := by omega
            cases b <;> cases b' <;> simp_all
          subst e2
          exact hx
      · exact no_of ⟨_, ij hi, hx⟩
    · intro i b _ hi hs hJ i' b' hi' hs' hlt
      refine hJ i' b' hi' hs' ?_
      have hb2 : b.toNat ≤ 1 := by cases b <;> decide
      have hb3 : b'.toNat ≤ 1 := by cases b' <;> decide
      rcases Nat.lt_or_ge (2 * i' + b'.toNat) (2 * i + b.toNat) with h | h
      · exact h
      · exfalso
        have e1 : i' = i := by omega
        subst e1
        have e2 : b' = b := by
          have : b'.toNat = b.toNat := by omega
          cases b <;> cases b' <;> simp_all
        subst e2
        exact hs hs'
    · rintro (x | x) hx
      · refine M.o_grd (gA2 (by omega) (by omega)) ?_
        by_cases hd : rw_ can s s < 0
        · refine M.o_t (decide_eq_true (by rw [← rw_nat]; exact hd)) (M.o_pure fun hA => ?_)
          have := hW.agr_zero hN hA (a := (s : Int)) (by omega)
          omega
        · refine M.o_f (decide_eq_false (by rw [← rw_nat]; exact hd)) (M.o_grd (gA2 (by omega) (by omega)) (M.o_pure ⟨rfl, fun i b hi h => ?_, fun a h => ?_⟩))
          · by_cases e : sOf ls ⟨i, b⟩ < (s : Int)
            · exact h1 i b hi e
            · have hb2 : b.toNat ≤ 1 := by cases b <;> decide
              exact hx i b hi (by omega) (by omega)
          · by_cases e : a = s
            · rw [e]; exact hd
            · exact h2 a (by omega)
      · exact M.o_pure hx
  · rintro s ⟨rfl, h1, h2⟩
    simp only [m_level_survey_open_b6]
    refine M.o_f (by simp; omega) (M.o_pure ?_)
    obtain ⟨f, _, hF⟩ := hW.agr_of hN (fun a h0 h3 x hx => by
      obtain ⟨l, k⟩ := x
      have hx' := hx
      obtain ⟨l0, l1⟩ := hx
      dsimp only at l0 l1
      have e : l = ((l.toNat : Nat) : Int) := by omega
      rw [e] at hx' ⊢
      exact h1 l.toNat k (by omega) (by have := (hx'.ed.rng hN.rng).1; omega) a h0 h3) (fun a h0 h3 => by
      have := h2 a.toNat (by omega)
      rwa [Int.toNat_of_nonneg h0] at this)
    exact ⟨_, hF⟩
end Go.Proofs.Ytclhljenjphofaa
namespace Go.Nm
/-- A line, as it may be in a net. -/
def okLine (n : Int) (l : Line) : Bool := (((((decide (0 ≤ l.src) && decide (l.src ≤ n - 1)) && (decide (0 ≤ l.dst) && decide (l.dst ≤ n - 1))) && (l.src != l.dst)) && (decide (0 ≤ l.day) && decide (l.day ≤ 40000))) && (decide (-1000000 ≤ l.rise) && decide (l.rise ≤ 1000000))) && (decide (0 ≤ l.err) && decide (l.err ≤ 10000))
def chkE (n : Int) (ls : List Line) : Int := bif (!(decide (1 ≤ n) && decide (n ≤ 12))) || decide (30 < (ls.length : Int)) then 3 else bif !(ls.all (okLine n)) then 20 else 0
theorem okLine_iff {n : Int} {l : Line} : okLine n l = true ↔ ((((((0 ≤ l.src ∧ l.src ≤ n - 1) ∧ (0 ≤ l.dst ∧ l.dst ≤ n - 1)) ∧ l.src ≠ l.dst) ∧ (0 ≤ l.day ∧ l.day ≤ 40000)) ∧ (-1000000 ≤ l.rise ∧ l.rise ≤ 1000000)) ∧ (0 ≤ l.err ∧ l.err ≤ 10000)) := by
  unfold okLine
  simp only [Bool.and_eq_true, decide_eq_true_eq, bne_iff_ne, ne_eq]
theorem chk_ok {n : Int} {ls : List Line} : chkE n ls = 0 ↔ NetOk n ls := by
  unfold chkE
  cases h1 : (!(decide (1 ≤ n) && decide (n ≤ 12))) || decide (30 < (ls.length : Int)) with
  | true =>
    simp only [Bool.or_eq_true, Bool.not_eq_true', Bool.and_eq_false_iff, decide_eq_false_iff_not, decide_eq_true_eq] at h1
    refine ⟨fun h => by simp at h, fun h => ?_⟩
    have := h.marks
    have := h.few
    omega
  | false =>
    simp only [Bool.or_eq_false_iff, Bool.not_eq_false', Bool.and_eq_true, decide_eq_false_iff_not, decide_eq_true_eq] at h1
    cases h2 : ls.all (okLine n) with
    | true =>
      rw [List.all_eq_true] at h2
      have h3 := fun l hl => okLine_iff.1 (h2 l hl)
      exact ⟨fun _ => ⟨h1.1, by omega, fun l hl => by have := h3 l hl; omega, fun l hl => (h3 l hl).1.1.1.2, fun l hl => (h3 l hl).1.1.2, fun l hl => (h3 l hl).1.2, fun l hl => (h3 l hl).2⟩, fun _ => rfl⟩
    | false =>
      rw [List.all_eq_false] at h2
      obtain ⟨l, hl, h3⟩ := h2
      refine ⟨fun h => by simp at h, fun h => absurd (okLine_iff.2 ?_) h3⟩
      have := h.rng l hl
      exact ⟨⟨⟨⟨⟨⟨this.1.1, by omega⟩, ⟨this.2.1, by omega⟩⟩, h.ne l hl⟩, h.day l hl⟩, h.rise l hl⟩, h.err l hl⟩
/-- What is said of two marks. -/
structure Btw (ls : List Line) (a b : Int) (r : Int × Int × Int) : Prop where
  no : ¬ Agr ls → r = (0, 0, 7)
  far : Agr ls → ¬ Tied ls a b → r = (0, 0, 5)
  yes : Agr ls → Tied ls a b → r.2.2 = 0 ∧ IsDist ls a b r.2.1 ∧ IsDist ls b a (-r.1)
end Go.Nm
namespace Go.Proofs.Ytclhljenjphofaa
open Go Go.Nm
variable {ls : List Line} {n a : Int}
theorem in_ends (x lo hi : Int) : (m_level_in x lo hi).Ends (decide (lo ≤ x) && decide (x ≤ hi)) := M.i_pure
theorem index_line {f : Line → M Bool} {q : Line → Bool} (h : ∀ x, x ∈ ls → (f x).Ends (q x)) : (m_slices_IndexFunc_level_Line ls f).Out (fun r => decide (0 ≤ r) = ls.any q) := by
  unfold m_slices_IndexFunc_level_Line
  refine M.o_bind (P := fun y => match y with | .inl r => decide (0 ≤ r) = ls.any q | .inr _ => ls.any q = false) ?_ (fun y hy => by
    rcases y with y | y
    · exact M.o_pure hy
    · exact M.o_pure (by rw [hy]; rfl))
  refine M.o_for ls.length (fun i s => s = i ∧ (ls.take i).any q = false) ?_ ?_ (s := 0) ⟨rfl, by simp⟩
  · rintro i s hi ⟨rfl, hJ⟩
    simp only [m_slices_IndexFunc_level_Line_b0]
    refine M.o_t (by simpa using hi) (M.o_grd (by simpa using hi) (M.o_bindE (h (ls.getD s default) (by rw [getD_el ls hi]; exact List.getElem_mem hi)) (M.o_if (fun hb => ?_) (fun hb => ?_))))
    · refine M.o_pure ?_
      dsimp only
      rw [show ls.any q = true from List.any_eq_true.2 ⟨_, by rw [getD_el ls hi]; exact List.getElem_mem hi, hb⟩]
      exact decide_eq_true (by omega)
    · refine M.o_pure ⟨rfl, ?_⟩
      rw [← take_succ_D ls s hi default, List.any_append, hJ]
      simp only [List.any_cons, List.any_nil, Bool.or_false, Bool.false_or]
      exact hb
  · rintro s ⟨rfl, hJ⟩
    simp only [m_slices_IndexFunc_level_Line_b0]
    rw [List.take_length] at hJ
    exact M.o_f (by simp) (M.o_pure hJ)
theorem every_line {so : Line → M Bool} {p : Line → Bool} (h : ∀ x, x ∈ ls → (so x).Ends (p x)) : (m_level_every_level_Line ls so).Ends (ls.all p) := by
  unfold m_level_every_level_Line m_slices_ContainsFunc_level_Line
  obtain ⟨r, h1, h2⟩ := index_line (ls := ls) (f := fun x => m_level_every_level_Line__1 x so) (q := fun x => !(p x)) (fun x hx => by unfold m_level_every_level_Line__1; exact M.i_bind (h x hx) M.i_pure)
  refine M.i_bind (M.i_bind h1 M.i_pure) ?_
  rw [h2, List.any_eq_not_all_not]
  simp only [Bool.not_not]
  exact M.i_pure
theorem check_ends (n : Int) (ls : List Line) : (m_level_Check n ls).Ends (chkE n ls) := by
  unfold m_level_Check chkE
  refine M.i_bind (in_ends _ _ _) (M.i_if (fun hb => ?_) (fun hb => ?_))
  · rw [hb]; exact M.i_pure
  · rw [hb]
    simp only [Bool.or_eq_false_iff, Bool.not_eq_false', Bool.and_eq_true, decide_eq_false_iff_not, decide_eq_true_eq] at hb
    refine M.i_bind (every_line (p := okLine n) fun l _ => ?_) (M.i_if (fun h2 => by rw [h2]; exact M.i_pure) (fun h2 => by rw [h2]; exact M.i_pure))
    have mk : ∀ x : Int, (m_level_Check_1 x n ls).Ends (decide (0 ≤ x) && decide (x ≤ n - 1)) := fun x => by
      unfold m_level_Check_1
      exact M.i_grd (gA2 (by omega) (by omega)) (M.i_bind (in_ends _ _ _) M.i_pure)
    unfold m_level_Check_2
    have opt : ∀ {c : Bool} {m : M Bool} {b : Bool}, m.Ends b → (M.opt c m false).Ends (c && b) := fun {c m b} h => M.i_opt (fun e => by rw [e, Bool.true_and]; exact h) (fun e => by rw [e]; rfl)
    refine M.i_bind (mk l.src) (M.i_bind (opt (mk l.dst)) (M.i_bind (opt (in_ends _ _ _)) (M.i_bind (opt (in_ends _ _ _)) (M.i_bind (opt (in_ends _ _ _)) ?_))))
    have e : okLine n l = _ := rfl
    unfold okLine
    generalize (decide (0 ≤ l.src) && decide (l.src ≤ n - 1)) = b1
    generalize (decide (0 ≤ l.dst) && decide (l.dst ≤ n - 1)) = b2
    generalize (l.src != l.dst) = b3
    generalize (decide (0 ≤ l.day) && decide (l.day ≤ 40000)) = b4
    generalize (decide (-1000000 ≤ l.rise) && decide (l.rise ≤ 1000000)) = b5
    generalize (decide (0 ≤ l.err) && decide (l.err ≤ 10000)) = b6
    cases b1 <;> cases b2 <;> cases b3 <;> cases b4 <;> cases b5 <;> cases b6 <;> exact M.i_pure
theorem opened_out (hN : NetOk n ls) : (m_level_opened n ls).Out (fun y => ∃ can by_, y = .inr (n, can, by_, 0) ∧ Wkd ls n can by_) := by
  unfold m_level_opened
  refine M.o_bindE (check_ends n ls) ?_
  rw [chk_ok.2 hN]
  refine M.o_f (by decide) (M.o_bind (worked_out hN) ?_)
  rintro ⟨r0, c, b⟩ ⟨rfl, hW⟩
  exact M.o_pure ⟨c, b, rfl, hW⟩
theorem between_out (hN : NetOk n ls) {f t : Int} (hf : 0 ≤ f ∧ f < n) (ht : 0 ≤ t ∧ t < n) : (m_level_Between n ls f t).Out (Btw ls f t) := by
  have hm := hN.marks
  unfold m_level_Between
  refine M.o_bind (P := fun y => ∃ can by_ e, y = .inr (n, can, by_, e) ∧ Wkd ls n can by_ ∧ (¬ Agr ls → e = 7) ∧ (Agr ls → e = if rw_ can f t = 1099511627776 then 5 else 0)) ?_ ?_
  · unfold m_level_asked
    refine M.o_bindE (check_ends n ls) ?_
    rw [chk_ok.2 hN]
    refine M.o_f (by decide) (M.o_grd (gA2 (by omega) (by omega)) (M.o_bindE (in_ends _ _ _) ?_))
    rw [show (decide (0 ≤ f) && decide (f ≤ n - 1)) = true from gA2 (by omega) (by omega)]
    refine M.o_bindE (a := true) (M.i_opt (fun _ => by rw [← show (decide (0 ≤ t) && decide (t ≤ n - 1)) = true from gA2 (by omega) (by omega)]; exact in_ends _ _ _) (fun h => by cases h)) ?_
    refine M.o_f (by simp) ?_
    refine M.o_bind (P := fun y => ∃ can by_ e, y = (n, can, by_, e) ∧ Wkd ls n can by_ ∧ (¬ Agr ls → e = 7) ∧ (Agr ls → e = 0)) ?_ ?_
    · unfold m_level_agreed
      refine M.o_bind (opened_out hN) ?_
      rintro y ⟨c, b, rfl, hW⟩
      dsimp only
      refine M.o_bind (P := fun r => r = true ↔ ¬ Agr ls) (by
        obtain ⟨r, h1, h2⟩ := open_out hN hW
        exact ⟨r, M.i_opt (fun _ => h1) (fun h => by simp at h), h2⟩) ?_
      intro r hr
      cases r with
      | true => exact M.o_t rfl (M.o_pure ⟨c, b, 7, rfl, hW, fun _ => rfl, fun h => absurd h (hr.1 rfl)⟩)
      | false => exact M.o_f rfl (M.o_pure ⟨c, b, 0, rfl, hW, fun h => absurd (hr.2 h) (by decide), fun _ => rfl⟩)
    · rintro y ⟨c, b, e, rfl, hW, h1, h2⟩
      dsimp only
      refine M.o_grd (gOr2 (by omega) (by omega)) (M.o_grd (gOr2 (by omega) (by omega)) ?_)
      by_cases hA : Agr ls
      · have := h2 hA
        subst this
        by_cases e : rw_ c f t = 1099511627776
        · exact M.o_t (by unfold rw_ at e; rw [e]; rfl) (M.o_pure ⟨c, b, 5, rfl, hW, fun h => absurd hA h, fun _ => by rw [if_pos e]⟩)
        · exact M.o_f (by unfold rw_ at e; simpa using e) (M.o_pure ⟨c, b, 0, rfl, hW, fun h => absurd hA h, fun _ => by rw [if_neg e]⟩)
      · have := h1 hA
        subst this
        exact M.o_f (by simp) (M.o_pure ⟨c, b, 7, rfl, hW, fun _ => rfl, fun h => absurd h hA⟩)
  · rintro y ⟨c, b, e, rfl, hW, h1, h2⟩
    dsimp only
    by_cases hA : Agr ls
    · have hD := hW.done hN hA hf
      have hD2 := hW.done hN hA ht
      by_cases e5 : rw_ c f t = 1099511627776
      · have := h2 hA
        rw [if_pos e5] at this
        subst this
        refine M.o_t (by decide) (M.o_pure ⟨fun h => absurd hA h, fun _ _ => rfl, fun _ hT => ?_⟩)
        have := hD.tied t ht.1 ht.2 hT
        omega
      · have := h2 hA
        rw [if_neg e5] at this
        subst this
        have hlt := hD.far t ht.1 ht.2 e5
        have d1 := hD.dist t ht.1 ht.2 hlt
        have hlt2 := hD2.tied f hf.1 hf.2 d1.tied.symm
        have d2 := hD2.dist f hf.1 hf.2 hlt2
        have b1 := (hW.row t ht.1 ht.2).bf.low f hf.1 hf.2
        unfold rw_ at hlt2 b1
        refine M.o_f (by decide) (M.o_grd (gA2 (by omega) (by omega)) (M.o_grd (gA2 (by omega) (by omega)) (M.o_grd (gA2 (by omega) (by omega)) (M.o_pure ⟨fun h => absurd hA h, fun _ h => absurd d1.tied h, fun _ _ => ⟨rfl, d1, ?_⟩⟩))))
        dsimp only
        rw [Int.neg_neg]
        exact d2
    · have := h1 hA
      subst this
      exact M.o_t (by decide) (M.o_pure ⟨fun _ => rfl, fun h => absurd h hA, fun h => absurd h hA⟩)
end Go.Proofs.Ytclhljenjphofaa
namespace Go.Nm
variable {ls : List Line} {n : Int}
/-- A line, of whose mark from a day on is another one. -/
def pt1 (n mk d : Int) (l : Line) : Line := if l.day < d then l else { l with src := if l.src = mk then n else l.src, dst := if l.dst = mk then n else l.dst }
def ptL (n : Int) (m : Mv) (ls : List Line) : List Line := ls.map (pt1 n m.mark m.day)
theorem pt1_day (n mk d : Int) (l : Line) : (pt1 n mk d l).day = l.day ∧ (pt1 n mk d l).rise = l.rise ∧ (pt1 n mk d l).err = l.err := by
  unfold pt1
  split <;> exact ⟨rfl, rfl, rfl⟩
theorem pt1_ends (n mk d : Int) (l : Line) : (pt1 n mk d l).src = (if l.day < d then l.src else if l.src = mk then n else l.src) ∧ (pt1 n mk d l).dst = (if l.day < d then l.dst else if l.dst = mk then n else l.dst) := by
  unfold pt1
  split <;> exact ⟨rfl, rfl⟩
theorem ptL_ok {m : Mv} (hN : NetOk n ls) (h : n < 12) (hm : 0 ≤ m.mark ∧ m.mark < n) : NetOk (n + 1) (ptL n m ls) := by
  have hk := hN.marks
  have mem : ∀ l, l ∈ ptL n m ls → ∃ k, k ∈ ls ∧ l = pt1 n m.mark m.day k := fun l hl => by
    obtain ⟨k, hk, e⟩ := List.mem_map.1 hl
    exact ⟨k, hk, e.symm⟩
  refine ⟨by omega, by unfold ptL; rw [List.length_map]; exact hN.few, fun l hl => ?_, fun l hl => ?_, fun l hl => ?_, fun l hl => ?_, fun l hl => ?_⟩ <;> obtain ⟨k, hk, rfl⟩ := mem l hl
  · have := hN.rng k hk
    obtain ⟨e1, e2⟩ := pt1_ends n m.mark m.day k
    rw [e1, e2]
    constructor <;> split <;> (try split) <;> omega
  · have h1 := hN.rng k hk
    have h2 := hN.ne k hk
    obtain ⟨e1, e2⟩ := pt1_ends n m.mark m.day k
    rw [e1, e2]
    split
    · exact h2
    · split <;> split <;> omega
  · rw [(pt1_day n m.mark m.day k).1]; exact hN.day k hk
  · rw [(pt1_day n m.mark m.day k).2.1]; exact hN.rise k hk
  · rw [(pt1_day n m.mark m.day k).2.2]; exact hN.err k hk
/-- Lines that are changed one by one. -/
structure Don (f : Line → Line) (ls : List Line) (i : Nat) (l : List Line) : Prop where
  len : l.length = ls.length
  el : ∀ j, j < ls.length → l.getD j default = if j < i then f (ls.getD j default) else ls.getD j default
theorem Don.zero (f : Line → Line) (ls : List Line) : Don f ls 0 ls := ⟨rfl, fun j _ => by rw [if_neg (by omega)]⟩
theorem Don.here {f : Line → Line} {i : Nat} {l : List Line} (h : Don f ls i l) (hi : i < ls.length) : l.getD i default = ls.getD i default := by rw [h.el i hi, if_neg (by omega)]
theorem Don.set {f : Line → Line} {i : Nat} {l : List Line} {x : Line} (h : Don f ls i l) (hi : i < ls.length) (hx : x = f (ls.getD i default)) : Don f ls (i + 1) (l.set i x) := by
  refine ⟨by rw [List.length_set]; exact h.len, fun j hj => ?_⟩
  rw [gset _ _ _ _ _ (by rw [h.len]; exact hi)]
  by_cases e : j = i
  · subst e
    rw [if_pos rfl, if_pos (by omega), hx]
  · rw [if_neg e, h.el j hj]
    by_cases e2 : j < i
    · rw [if_pos e2, if_pos (by omega)]
    · rw [if_neg e2, if_neg (by omega)]
theorem Don.same {f : Line → Line} {i : Nat} {l : List Line} (h : Don f ls i l) (hi : i < ls.length) (hx : f (ls.getD i default) = ls.getD i default) : Don f ls (i + 1) l := by
  refine ⟨h.len, fun j hj => ?_⟩
  rw [h.el j hj]
  by_cases e : j = i
  · subst e
    rw [if_neg (by omega), if_pos (by omega), hx]
  · by_cases e2 : j < i
    · rw [if_pos e2, if_pos (by omega)]
    · rw [if_neg e2, if_neg (by omega)]
theorem Don.fin {f : Line → Line} {i : Nat} {l : List Line} (h : Don f ls i l) (hi : i = ls.length) : l = ls.map f := by
  subst hi
  refine List.ext_getElem (by rw [List.length_map]; exact h.len) fun j h1 h2 => ?_
  have h3 : j < ls.length := by rw [List.length_map] at h2; exact h2
  have := h.el j h3
  rw [if_pos h3, getD_el l h1, getD_el ls h3] at this
  rw [this, List.getElem_map]
/-- Days from which on a mark can have moved. -/
def Dy (ls : List Line) (mk d : Int) : Prop := (d = 1 ∨ ∃ l, l ∈ ls ∧ (l.src = mk ∨ l.dst = mk) ∧ d = l.day + 1) ∧ d ≠ 40001
theorem mem_insK {l : List Int} {k x : Int} : x ∈ insK l k ↔ x ∈ l ∨ x = k := by
  unfold insK
  cases hc : l.contains k with
  | true =>
    have hc : k ∈ l := by simpa using hc
    exact ⟨fun h => .inl h, fun h => by rcases h with h | rfl; exact h; exact hc⟩
  | false => simp
theorem len_insK (l : List Int) (k : Int) : (insK l k).length ≤ l.length + 1 := by
  unfold insK
  cases l.contains k with
  | true => exact Nat.le_succ _
  | false => simp
/-- The moves that are found: one for each mark that can have moved, with the first day. -/
structure MvOk (n : Int) (ls : List Line) (i : Int) (l : List Mv) : Prop where
  len : (l.length : Int) ≤ i
  each : ∀ m, m ∈ l → (0 ≤ m.mark ∧ m.mark < i) ∧ Dy ls m.mark m.day ∧ Agr (ptL n m ls)
  asc : l.Pairwise (fun a b => a.mark < b.mark)
  all : ∀ mk d, 0 ≤ mk → mk < i → Dy ls mk d → Agr (ptL n ⟨mk, d⟩ ls) → ∃ m, m ∈ l ∧ m.mark = mk ∧ m.day ≤ d
theorem Dy.rng {mk d : Int} (hN : NetOk n ls) (h : Dy ls mk d) : 1 ≤ d ∧ d ≤ 40000 := by
  obtain ⟨rfl | ⟨l, hl, _, rfl⟩, h2⟩ := h
  · omega
  · have := hN.day l hl
    omega
end Go.Nm
namespace Go.Proofs.Ytclhljenjphofaa
open Go Go.Nm
variable {ls : List Line} {n : Int}
theorem clone_ends (h : 0 < ls.length) (h2 : ls.length ≤ 1000000) : (m_slices_Clone_level_Line ls).Ends ls := by
  unfold m_slices_Clone_level_Line
  exact M.i_grd (decide_eq_true h) (M.i_grd (decide_eq_true (by simp only [List.length_nil]; omega)) M.i_pure)
theorem parted_ends (hn : 0 ≤ n ∧ n ≤ 12) (h : 0 < ls.length) (h2 : ls.length ≤ 30) (m : Mv) : (m_level_parted n ls m).Ends (n + 1, ptL n m ls) := by
  have out : (m_level_parted n ls m).Out (fun r => r = (n + 1, ptL n m ls)) := by
    unfold m_level_parted
    refine M.o_grd (gA2 (by omega) (by omega)) (M.o_bindE (clone_ends h (by omega)) ?_)
    refine M.o_bind (P := fun y => y.2 = ptL n m ls) ?_ (fun y hy => M.o_pure (by rw [hy]))
    refine M.o_for ls.length (fun i st => st.1 = i ∧ Don (pt1 n m.mark m.day) ls i st.2) ?_ ?_ ⟨rfl, Don.zero _ _⟩
    · rintro i ⟨s, l⟩ hi ⟨rfl, hD⟩
      dsimp only at hi hD
      simp only [m_level_parted_b0]
      have g : ∀ x, (l.set s x).getD s default = x := fun x => by rw [gset _ _ _ _ _ (by rw [hD.len]; exact hi), if_pos rfl]
      simp only [g, List.set_set, hD.here hi]
      have hl := hD.len
      refine M.o_t (by simpa using hi) (M.o_grdD (by omega) (M.o_if (fun hb => ?_) (fun hb => ?_)))
      · refine M.o_pure ⟨rfl, hD.same hi ?_⟩
        have hb := of_decide_eq_true hb
        unfold pt1
        rw [if_pos hb]
      · have hb := of_decide_eq_false hb
        refine M.o_if (fun h1 => ?_) (fun h1 => ?_)
        · have h1 := beq_iff_eq.1 h1
          refine M.o_if (fun h2 => ?_) (fun h2 => ?_)
          · have h2 := beq_iff_eq.1 h2
            refine M.o_pure ⟨rfl, hD.set hi ?_⟩
            unfold pt1
            rw [if_neg hb, if_pos h1, if_pos h2]
          · have h2 := beq_eq_false_iff_ne.1 h2
            refine M.o_pure ⟨rfl, hD.set hi ?_⟩
            unfold pt1
            rw [if_neg hb, if_pos h1, if_neg h2]
        · have h1 := beq_eq_false_iff_ne.1 h1
          refine M.o_if (fun h2 => ?_) (fun h2 => ?_)
          · have h2 := beq_iff_eq.1 h2
            refine M.o_pure ⟨rfl, hD.set hi ?_⟩
            unfold pt1
            rw [if_neg hb, if_neg h1, if_pos h2]
          · have h2 := beq_eq_false_iff_ne.1 h2
            refine M.o_pure ⟨rfl, hD.same hi ?_⟩
            unfold pt1
            rw [if_neg hb, if_neg h1, if_neg h2]
    · rintro ⟨s, l⟩ ⟨rfl, hD⟩
      simp only [m_level_parted_b0]
      exact M.o_f (by simp) (M.o_pure (hD.fin rfl))
  obtain ⟨r, h, rfl⟩ := out
  exact h
theorem days_out (hN : NetOk n ls) (N mk : Int) : (m_level_survey_days N ls mk).Out (fun r => r.Pairwise (· ≤ ·) ∧ ∀ d, d ∈ r ↔ Dy ls mk d) := by
  have few := hN.few
  unfold m_level_survey_days
  refine M.o_bindE (a := mk) (by unfold m_level_survey_legs; exact M.i_pure) ?_
  refine M.o_bind (P := fun y => match y with | .inl mp => mp.Nodup ∧ mp.length ≤ 1 + 2 * ls.length ∧ ∀ d, d ∈ mp ↔ (d = 1 ∨ ∃ l, l ∈ ls ∧ (l.src = mk ∨ l.dst = mk) ∧ d = l.day + 1) | .inr _ => False) ?_ ?_
  · refine M.o_mono (legs_out (ls := ls) (n := N) (m := mk) (fun c mp => mp.Nodup ∧ mp.length ≤ 1 + c ∧ 1 ∈ mp ∧ (∀ d, d ∈ mp → (d = 1 ∨ ∃ l, l ∈ ls ∧ (l.src = mk ∨ l.dst = mk) ∧ d = l.day + 1)) ∧ ∀ (i : Nat) (k : Bool), 2 * i + k.toNat < c → i < ls.length → sOf ls ⟨i, k⟩ = mk → (ls.getD i default).day + 1 ∈ mp) (fun _ => False) ?_ ?_ ?_) ?_
    · rintro i k s hi hs ⟨j1, j2, j3, j4, j5⟩
      unfold m_level_survey_days_b0
      have hl : ls.getD i default ∈ ls := by rw [getD_el ls hi]; exact List.getElem_mem hi
      have hd := hN.day _ hl
      have e0 : Int.toNat (i : Int) = i := Int.toNat_natCast i
      refine M.o_grd (gA2 (by show (0 : Int) ≤ (i : Int); omega) (by show (i : Int) < _; omega)) ?_
      dsimp only
      rw [e0]
      refine M.o_grd (gA2 (by omega) (by omega)) (M.o_pure ⟨insK_once j1 _, ?_, mem_insK.2 (.inl j3), fun d hd => ?_, fun i' k' hlt hi' hs' => ?_⟩)
      · have := len_insK s ((ls.getD i default).day + 1)
        omega
      · rcases mem_insK.1 hd with hd | rfl
        · exact j4 d hd
        · refine .inr ⟨_, hl, ?_, rfl⟩
          unfold sOf legEnd lnOf at hs
          dsimp only at hs
          rw [e0] at hs
          cases k with
          | true => exact .inr hs
          | false => exact .inl hs
      · by_cases e : 2 * i' + k'.toNat < 2 * i + k.toNat
        · exact mem_insK.2 (.inl (j5 i' k' e hi' hs'))
        · have b1 := Bool.toNat_le k
          have b2 := Bool.toNat_le k'
          obtain rfl : i' = i := by omega
          exact mem_insK.2 (.inr rfl)
    · rintro i k s hi hs ⟨j1, j2, j3, j4, j5⟩
      refine ⟨j1, by omega, j3, j4, fun i' k' hlt hi' hs' => ?_⟩
      by_cases e : 2 * i' + k'.toNat < 2 * i + k.toNat
      · exact j5 i' k' e hi' hs'
      · have b1 := Bool.toNat_le k
        have b2 := Bool.toNat_le k'
        obtain rfl : i' = i := by omega
        have : k' = k := by cases k <;> cases k' <;> simp at * <;> omega
        subst this
        exact absurd hs' hs
    · refine ⟨by decide, by decide, by decide, fun d hd => .inl ?_, fun i k h => by omega⟩
      simpa [insK] using hd
    · rintro (mp | x) hy
      · obtain ⟨j1, j2, j3, j4, j5⟩ := hy
        refine ⟨j1, by omega, fun d => ⟨j4 d, ?_⟩⟩
        rintro (rfl | ⟨l, hl, hm, rfl⟩)
        · exact j3
        · obtain ⟨i, hi, rfl⟩ := mem_getD hl default
          have e0 : Int.toNat (i : Int) = i := Int.toNat_natCast i
          rcases hm with hm | hm
          · exact j5 i false (by simp; omega) hi (by unfold sOf legEnd lnOf; dsimp only; rw [e0]; exact hm)
          · exact j5 i true (by simp; omega) hi (by unfold sOf legEnd lnOf; dsimp only; rw [e0]; exact hm)
      · exact hy
  · rintro (mp | x) hy
    · obtain ⟨h1, h2, h3⟩ := hy
      have hE : ∀ d, d ∈ mp.erase 40001 ↔ Dy ls mk d := fun d => by
        rw [h1.mem_erase_iff, h3 d]
        exact ⟨fun h => ⟨h.2, h.1⟩, fun h => ⟨h.2, h.1⟩⟩
      refine M.o_grd (gA2 (fun d hd => ?_) ?_) (M.o_pure ⟨isort_asc _, fun d => ?_⟩)
      · have := ((hE d).1 hd).rng hN
        omega
      · have := List.length_erase_le (a := (40001 : Int)) (l := mp)
        omega
      · rw [(isort_perm _).mem_iff]
        exact hE d
    · exact hy.elim
theorem moves_in (hN : NetOk n ls) (hn : n < 12) (h : 0 < ls.length) {mk : Nat} (hm : (mk : Int) < n) {bs : List Mv} {ds : List Int} (hb : bs.length ≤ 12) (hbs : ∀ m, m ∈ bs → m.mark < (mk : Int)) :
    (M.iter (m_level_Moves_b2 n ls mk ds) (0, bs)).Out (fun y => (y.2 = bs ∧ ∀ j, j < ds.length → ¬ Agr (ptL n ⟨mk, ds.getD j 0⟩ ls)) ∨ ∃ k, k < ds.length ∧ y.2 = bs ++ [⟨mk, ds.getD k 0⟩] ∧ Agr (ptL n ⟨mk, ds.getD k 0⟩ ls) ∧ ∀ j, j < k → ¬ Agr (ptL n ⟨mk, ds.getD j 0⟩ ls)) := by
  have hk := hN.marks
  refine M.o_for ds.length (fun i st => st.1 = i ∧ ((st.2 = bs ∧ ∀ j, j < i → ¬ Agr (ptL n ⟨mk, ds.getD j 0⟩ ls)) ∨ ∃ k, k < i ∧ st.2 = bs ++ [⟨mk, ds.getD k 0⟩] ∧ Agr (ptL n ⟨mk, ds.getD k 0⟩ ls) ∧ ∀ j, j < k → ¬ Agr (ptL n ⟨mk, ds.getD j 0⟩ ls))) ?_ ?_ ⟨rfl, .inl ⟨rfl, fun j hj => by omega⟩⟩
  · rintro i ⟨s, l⟩ hi ⟨rfl, hJ⟩
    dsimp only at hi hJ
    have hll : l.length ≤ 13 := by
      rcases hJ with ⟨rfl, _⟩ | ⟨k, _, rfl, _⟩
      · omega
      · simp; omega
    simp only [m_level_Moves_b2]
    refine M.o_t (by simpa using hi) (M.o_grd (by simpa using hi) (M.o_grd (gA2 (by omega) (by omega)) (M.o_grd ?_ ?_)))
    · by_cases e : 0 ≤ (l.length : Int) - 1
      · exact gOr2 e (by omega)
      · rw [decide_eq_false e]; rfl
    · rcases hJ with ⟨rfl, hJ⟩ | ⟨k, hks, rfl, hA, hJ⟩
      · refine M.o_f ?_ ?_
        · by_cases e : 0 ≤ (l.length : Int) - 1
          · have hne : l.getD (Int.toNat ((l.length : Int) - 1)) default ∈ l := by
              have : Int.toNat ((l.length : Int) - 1) < l.length := by omega
              rw [getD_el l this]
              exact List.getElem_mem this
            have := hbs _ hne
            rw [Bool.and_eq_false_iff]
            refine .inr (decide_eq_false fun e2 => ?_)
            rw [e2] at this
            dsimp only at this
            omega
          · rw [decide_eq_false e]; rfl
        · refine M.o_bindE (parted_ends (by omega) h hN.few _) ?_
          dsimp only
          have hN2 := ptL_ok (m := ⟨(mk : Int), ds.getD s 0⟩) hN hn ⟨by dsimp only; omega, hm⟩
          refine M.o_bind (worked_out hN2) ?_
          rintro ⟨r0, c, b⟩ ⟨rfl, hW⟩
          refine M.o_bind (open_out hN2 hW) ?_
          intro r hr
          refine M.o_if (fun hb => ?_) (fun hb => ?_)
          · refine M.o_grdD (by simp only [List.length_cons, List.length_nil]; omega) (M.o_pure ⟨rfl, .inr ⟨s, by omega, rfl, ?_, hJ⟩⟩)
            refine Classical.byContradiction fun hc => ?_
            rw [hr.2 hc] at hb
            cases hb
          · refine M.o_pure ⟨rfl, .inl ⟨rfl, fun j hj => ?_⟩⟩
            by_cases e : j = s
            · subst e
              exact hr.1 (by simpa using hb)
            · exact hJ j (by omega)
      · refine M.o_t ?_ (M.o_pure ⟨rfl, .inr ⟨k, by omega, rfl, hA, hJ⟩⟩)
        have e : Int.toNat (((bs ++ [(⟨mk, ds.getD k 0⟩ : Mv)]).length : Int) - 1) = bs.length := by simp
        have e2 : ∀ x : Mv, (bs ++ [x]).getD bs.length default = x := fun x => by simp [List.getD_eq_getElem?_getD]
        rw [e, e2]
        exact gA2 (by simp) rfl
  · rintro ⟨s, l⟩ ⟨rfl, hJ⟩
    simp only [m_level_Moves_b2]
    exact M.o_f (by simp) (M.o_pure hJ)
theorem moves_out (hN : NetOk n ls) : (m_level_Moves n ls).Out (fun y => (Agr ls → y = ([], 8)) ∧ (¬ Agr ls → n = 12 → y = ([], 3)) ∧ (¬ Agr ls → n < 12 → y.2 = 0 ∧ MvOk n ls n y.1)) := by
  have hk := hN.marks
  unfold m_level_Moves
  refine M.o_bind (opened_out hN) ?_
  rintro y ⟨c, b, rfl, hW⟩
  dsimp only
  refine M.o_f (by decide) (M.o_bind (open_out hN hW) ?_)
  intro r hr
  cases r with
  | false =>
    have hA : Agr ls := Classical.byContradiction fun h => by have := hr.2 h; cases this
    exact M.o_t rfl (M.o_pure ⟨fun _ => rfl, fun h => absurd hA h, fun h => absurd hA h⟩)
  | true =>
    have hA := hr.1 rfl
    refine M.o_f rfl (M.o_if (fun hb => ?_) (fun hb => ?_))
    · have hb := beq_iff_eq.1 hb
      exact M.o_pure ⟨fun h => absurd h hA, fun _ _ => rfl, fun _ h => by omega⟩
    · have hb := beq_eq_false_iff_ne.1 hb
      have hl : 0 < ls.length := by
        cases ls with
        | nil => exact absurd ⟨fun _ => 0, fun l hl => by cases hl⟩ hA
        | cons => simp
      refine M.o_bind (P := fun y => MvOk n ls n y.2) ?_ (fun y hy => M.o_pure ⟨fun h => absurd h hA, fun _ h => by omega, fun _ _ => ⟨rfl, hy⟩⟩)
      refine M.o_for (Int.toNat n) (fun i st => st.1 = i ∧ MvOk n ls i st.2) ?_ ?_ ⟨rfl, ⟨by simp, by simp, .nil, fun mk d h1 h2 => by omega⟩⟩
      · rintro i ⟨s, l⟩ hi ⟨rfl, hJ⟩
        dsimp only at hi hJ
        simp only [m_level_Moves_b3]
        refine M.o_t (decide_eq_true (by omega)) (M.o_bind (days_out hN n s) ?_)
        rintro ds ⟨hasc, hds⟩
        have hlen := hJ.len
        refine M.o_bind (moves_in hN (by omega) hl (mk := s) (ds := ds) (by omega) (by omega) (fun m hm => (hJ.each m hm).1.2)) ?_
        rintro ⟨l2, l5⟩ hy
        dsimp only at hy ⊢
        refine M.o_grd (gA2 (by omega) (by omega)) (M.o_pure ⟨rfl, ?_⟩)
        dsimp only
        have at_ : ∀ d, Dy ls (s : Int) d → ∃ j, j < ds.length ∧ ds.getD j 0 = d := fun d hd => mem_getD ((hds d).2 hd) 0
        rcases hy with ⟨rfl, hno⟩ | ⟨k, hks, rfl, hAk, hno⟩
        · refine ⟨by omega, fun m hm => ?_, hJ.asc, fun mk d h0 h1 hd hag => ?_⟩
          · have := hJ.each m hm
            exact ⟨by omega, this.2⟩
          · by_cases e : mk = s
            · subst e
              obtain ⟨j, hj, rfl⟩ := at_ d hd
              exact absurd hag (hno j hj)
            · exact hJ.all mk d h0 (by omega) hd hag
        · have hkd : Dy ls (s : Int) (ds.getD k 0) := (hds _).1 (by rw [getD_el ds hks]; exact List.getElem_mem hks)
          refine ⟨by simp; omega, fun m hm => ?_, ?_, fun mk d h0 h1 hd hag => ?_⟩
          · rcases List.mem_append.1 hm with hm | hm
            · have := hJ.each m hm
              exact ⟨by omega, this.2⟩
            · obtain rfl : m = ⟨(s : Int), ds.getD k 0⟩ := by simpa using hm
              exact ⟨⟨by dsimp only; omega, by dsimp only; omega⟩, hkd, hAk⟩
          · rw [List.pairwise_append]
            refine ⟨hJ.asc, by simp, fun a ha b hb => ?_⟩
            obtain rfl : b = ⟨(s : Int), ds.getD k 0⟩ := by simpa using hb
            exact (hJ.each a ha).1.2
          · by_cases e : mk = s
            · subst e
              obtain ⟨j, hj, rfl⟩ := at_ d hd
              refine ⟨_, List.mem_append_right _ (List.mem_cons_self ..), rfl, ?_⟩
              dsimp only
              by_cases e2 : j < k
              · exact absurd hag (hno j e2)
              · rcases Nat.lt_or_eq_of_le (Nat.le_of_not_lt e2) with e3 | rfl
                · have := List.pairwise_iff_getElem.1 hasc k j hks hj e3
                  rw [getD_el ds hks, getD_el ds hj]
                  exact this
                · exact Int.le_refl _
            · obtain ⟨m, hm, h2⟩ := hJ.all mk d h0 (by omega) hd hag
              exact ⟨m, List.mem_append_left _ hm, h2⟩
      · rintro ⟨s, l⟩ ⟨rfl, hJ⟩
        dsimp only at hJ
        rw [Int.toNat_of_nonneg (by omega)] at hJ
        simp only [m_level_Moves_b3]
        exact M.o_f (decide_eq_false (by omega)) (M.o_pure hJ)
end Go.Proofs.Ytclhljenjphofaa
namespace Go.Nm
structure SOk (c u x : Int) : Prop where
  u0 : 0 ≤ u
  u1 : u ≤ c
  x0 : 0 ≤ x
  x1 : x < 251
theorem SOk.mono {c d u x : Int} (h : SOk c u x) (hd : c ≤ d) : SOk d u x := ⟨h.u0, Int.le_trans h.u1 hd, h.x0, h.x1⟩
/-- What a stream gives: a number below n. -/
structure Nx (c n : Int) (y : Int × Int × Int) : Prop where
  ok : SOk c y.2.1 y.2.2
  lt : 1 ≤ n → 0 ≤ y.1 ∧ y.1 < n
  no : n < 1 → y.1 = 0
end Go.Nm
namespace Go.Proofs.Ytclhljenjphofaa
open Go Go.Nm
theorem next_out {b : List UInt8} {c u x n : Int} (h : SOk c u x) (hc : c ≤ 1000000000000) (hn : n ≤ 1000000) : (m_nilometerkit_Stream_Next b u x n).Out (Nx (c + 1) n) := by
  obtain ⟨u0, u1, x0, x1⟩ := h
  unfold m_nilometerkit_Stream_Next
  refine M.o_if (fun hb => ?_) (fun hb => ?_)
  · simp only [Bool.or_eq_true, decide_eq_true_eq, beq_iff_eq] at hb
    refine M.o_pure ⟨⟨u0, by dsimp only; omega, x0, x1⟩, fun h1 => ⟨Int.le_refl _, ?_⟩, fun _ => rfl⟩
    dsimp only
    omega
  · simp only [Bool.or_eq_false_iff, decide_eq_false_iff_not, beq_eq_false_iff_ne, ne_eq] at hb
    have hl : (0 : Int) < (b.length : Int) := by omega
    have m0 := Int.emod_nonneg u (show (b.length : Int) ≠ 0 by omega)
    have m1 := Int.emod_lt_of_pos u hl
    have d0 := Int.ediv_nonneg u0 (show (0 : Int) ≤ (b.length : Int) by omega)
    have d1 : u / (b.length : Int) ≤ u := Int.ediv_le_self _ u0
    have y1 : ((b.getD (Int.toNat (u % (b.length : Int))) 0).toNat : Int) < 256 := by
      have := UInt8.toNat_lt (b.getD (Int.toNat (u % (b.length : Int))) 0)
      omega
    have y0 : (0 : Int) ≤ ((b.getD (Int.toNat (u % (b.length : Int))) 0).toNat : Int) := Int.natCast_nonneg _
    generalize ((b.getD (Int.toNat (u % (b.length : Int))) 0).toNat : Int) = y at *
    generalize u % (b.length : Int) = m at *
    generalize u / (b.length : Int) = d at *
    have hn0 : 0 < n := by omega
    have fin : ∀ z : Int, 0 ≤ z → 0 ≤ z % n ∧ z % n < n := fun z hz => ⟨Int.emod_nonneg _ (by omega), Int.emod_lt_of_pos _ hn0⟩
    have pr : ∀ z w : Int, 0 ≤ z → Nx (c + 1) n (z % n, u + 1, w % 251) := fun z w hz => ⟨⟨by dsimp only; omega, by dsimp only; omega, by dsimp only; omega, by dsimp only; omega⟩, fun _ => fin z hz, fun h => by omega⟩
    refine M.o_grd (by simp only [Bool.and_eq_true, decide_eq_true_eq]; omega) (M.o_grd (by simp only [Bool.and_eq_true, decide_eq_true_eq]; omega) (M.o_grd (by simp only [Bool.and_eq_true, decide_eq_true_eq]; omega) ?_))
    refine M.o_if (fun h1 => ?_) (fun h1 => ?_)
    · refine M.o_grd (by simp only [Bool.and_eq_true, decide_eq_true_eq]; omega) (M.o_grd (by simp only [Bool.and_eq_true, decide_eq_true_eq]; omega) (M.o_grd (by simp only [Bool.and_eq_true, decide_eq_true_eq]; omega) (M.o_grd (by simp only [Bool.and_eq_true, decide_eq_true_eq]; omega) (M.o_grd (by simp only [Bool.and_eq_true, decide_eq_true_eq]; omega) ?_))))
      refine M.o_grd (by simp only [Bool.and_eq_true, decide_eq_true_eq]; omega) (M.o_grd (by simp only [Bool.and_eq_true, decide_eq_true_eq]; omega) (M.o_grd (by simp only [Bool.and_eq_true, decide_eq_true_eq]; omega) (M.o_grd (by simp only [Bool.and_eq_true, decide_eq_true_eq]; omega) ?_)))
      refine M.o_if (fun h2 => ?_) (fun h2 => ?_)
      · refine M.o_grd (by simp only [Bool.and_eq_true, decide_eq_true_eq]; omega) (M.o_grd (by simp only [Bool.and_eq_true, decide_eq_true_eq]; omega) (M.o_grd (by simp only [Bool.and_eq_true, decide_eq_true_eq]; omega) (M.o_pure (pr _ _ (by omega)))))
      · refine M.o_grd (by simp only [Bool.and_eq_true, decide_eq_true_eq]; omega) (M.o_pure (pr _ _ (by omega)))
    · refine M.o_grd (by simp only [Bool.and_eq_true, decide_eq_true_eq]; omega) (M.o_grd (by simp only [Bool.and_eq_true, decide_eq_true_eq]; omega) (M.o_grd (by simp only [Bool.and_eq_true, decide_eq_true_eq]; omega) (M.o_grd (by simp only [Bool.and_eq_true, decide_eq_true_eq]; omega) (M.o_grd (by simp only [Bool.and_eq_true, decide_eq_true_eq]; omega) ?_))))
      refine M.o_if (fun h2 => ?_) (fun h2 => ?_)
      · refine M.o_grd (by simp only [Bool.and_eq_true, decide_eq_true_eq]; omega) (M.o_grd (by simp only [Bool.and_eq_true, decide_eq_true_eq]; omega) (M.o_grd (by simp only [Bool.and_eq_true, decide_eq_true_eq]; omega) (M.o_pure (pr _ _ (by omega)))))
      · refine M.o_grd (by simp only [Bool.and_eq_true, decide_eq_true_eq]; omega) (M.o_pure (pr _ _ (by omega)))
theorem within_out {b : List UInt8} {c u x lo hi : Int} (h : SOk c u x) (hc : c ≤ 1000000000000) (h0 : -1000 ≤ lo) (h1 : lo ≤ hi) (h2 : hi ≤ 10000) : (m_nilometerkit_Stream_Within b u x lo hi).Out (fun y => SOk (c + 1) y.2.1 y.2.2 ∧ lo ≤ y.1 ∧ y.1 ≤ hi) := by
  unfold m_nilometerkit_Stream_Within
  refine M.o_grd (gA2 (by omega) (by omega)) (M.o_grd (gA2 (by omega) (by omega)) (M.o_bind (next_out h hc (by omega)) ?_))
  rintro ⟨r, u', x'⟩ ⟨k, hl, _⟩
  have := hl (by omega)
  dsimp only at this k ⊢
  exact M.o_grd (gA2 (by omega) (by omega)) (M.o_pure ⟨k, by dsimp only; omega, by dsimp only; omega⟩)
end Go.Proofs.Ytclhljenjphofaa
namespace Go.Nm
def hOf (hs : List Int) (v : Int) : Int := hs.getD (Int.toNat v) 0
structure LnOk (n : Int) (hs : List Int) (l : Line) : Prop where
  src : 0 ≤ l.src ∧ l.src < n
  dst : 0 ≤ l.dst ∧ l.dst < n
  ne : l.src ≠ l.dst
  day : 0 ≤ l.day ∧ l.day < 30
  err : 0 ≤ l.err ∧ l.err ≤ 8
  lo : l.rise - l.err ≤ hOf hs l.dst - hOf hs l.src
  hi : hOf hs l.dst - hOf hs l.src ≤ l.rise + l.err
structure HsOk (n : Int) (hs : List Int) : Prop where
  len : (hs.length : Int) = n
  zero : hs.getD 0 0 = 0
  bnd : ∀ v, -300 ≤ hOf hs v ∧ hOf hs v ≤ 300
/-- What a net of numbers is like. -/
structure MadeN (most n : Int) (ls : List Line) (hs : List Int) : Prop where
  two : 2 ≤ n ∧ n ≤ most
  hh : HsOk n hs
  one : 1 ≤ ls.length ∧ ls.length ≤ 14
  ln : ∀ l, l ∈ ls → LnOk n hs l
theorem LnOk.rise {n : Int} {hs : List Int} {l : Line} (h : LnOk n hs l) (hh : HsOk n hs) : -700 ≤ l.rise ∧ l.rise ≤ 700 := by
  have h1 := hh.bnd l.src
  have h2 := hh.bnd l.dst
  have := h.err
  have := h.lo
  have := h.hi
  omega
theorem net_ok {most n : Int} {ls : List Line} {hs : List Int} (hm : 1 ≤ n ∧ n ≤ 12) (hh : HsOk n hs) (hl : ls.length ≤ 30) (h : ∀ l, l ∈ ls → LnOk n hs l) : NetOk n ls :=
  ⟨hm, hl, fun l hl => ⟨(h l hl).src, (h l hl).dst⟩, fun l hl => (h l hl).ne, fun l hl => by have := (h l hl).day; omega, fun l hl => by have := (h l hl).rise hh; omega, fun l hl => by have := (h l hl).err; omega⟩
theorem feas_ln {n : Int} {ls : List Line} {hs : List Int} (h : ∀ l, l ∈ ls → LnOk n hs l) : Feas ls (hOf hs) := fun l hl => ⟨(h l hl).lo, (h l hl).hi⟩
theorem MadeN.ok {most n : Int} {ls : List Line} {hs : List Int} (h : MadeN most n ls hs) (hm : most ≤ 12) : NetOk n ls := net_ok (most := 0) (by have := h.two; omega) h.hh (by have := h.one; omega) h.ln
theorem MadeN.agr {most n : Int} {ls : List Line} {hs : List Int} (h : MadeN most n ls hs) : Agr ls := ⟨_, feas_ln h.ln⟩
theorem modne {a j n : Int} (ha : 0 ≤ a ∧ a < n) (hj : 1 ≤ j ∧ j < n) : (0 ≤ (a + j) % n ∧ (a + j) % n < n) ∧ (a + j) % n ≠ a := by
  have h1 := Int.emod_nonneg (a + j) (show n ≠ 0 by omega)
  have h2 := Int.emod_lt_of_pos (a + j) (show 0 < n by omega)
  refine ⟨⟨h1, h2⟩, fun e => ?_⟩
  by_cases h : a + j < n
  · rw [Int.emod_eq_of_lt (by omega) h] at e; omega
  · rw [← Int.sub_emod_right, Int.emod_eq_of_lt (by omega) (by omega)] at e; omega
end Go.Nm
namespace Go.Proofs.Ytclhljenjphofaa
open Go Go.Nm
theorem levelled_out {b : List UInt8} {c u x n : Int} {hs : List Int} {a t day : Int} (h : SOk c u x) (hc : c ≤ 100000000000) (hh : HsOk n hs) (ha : 0 ≤ a ∧ a < n) (ht : 0 ≤ t ∧ t < n) (hne : a ≠ t) (hd : 0 ≤ day ∧ day < 30) :
    (m_nilometerlaw01_Levelled b u x hs a t day).Out (fun y => LnOk n hs ⟨y.1, y.2.1, y.2.2.1, y.2.2.2.1, y.2.2.2.2.1⟩ ∧ SOk (c + 2) y.2.2.2.2.2.1 y.2.2.2.2.2.2) := by
  have hl := hh.len
  have b1 := hh.bnd a
  have b2 := hh.bnd t
  unfold hOf at b1 b2
  unfold m_nilometerlaw01_Levelled
  refine M.o_bind (next_out h (by omega) (by omega)) ?_
  rintro ⟨r2, u1, x1⟩ ⟨ok, hlt, _⟩
  dsimp only at ok hlt ⊢
  have hlt := hlt (by omega)
  refine M.o_grd (gA2 (by omega) (by omega)) (M.o_grd (gA2 (by omega) (by omega)) (M.o_grd (gA2 (by omega) (by omega)) (M.o_grd (gA2 (by omega) (by omega)) ?_)))
  refine M.o_bind (within_out ok (by omega) (by omega) (by omega) (by omega)) ?_
  rintro ⟨r3, u2, x2⟩ ⟨ok2, h1, h2⟩
  dsimp only at ok2 h1 h2 ⊢
  refine M.o_grd (gA2 (by omega) (by omega)) (M.o_pure ⟨⟨ha, ht, hne, hd, by dsimp only; omega, ?_, ?_⟩, ok2.mono (by omega)⟩)
  · unfold hOf; dsimp only; omega
  · unfold hOf; dsimp only; omega
theorem made_out {b : List UInt8} {c u x most : Int} (h : SOk c u x) (hc : c ≤ 100000000) (h2 : 2 ≤ most) (h12 : most ≤ 12) : (m_nilometerlaw01_Made b u x most).Out (fun y => MadeN most y.1 y.2.1 y.2.2.1 ∧ SOk (c + 2000) y.2.2.2.1 y.2.2.2.2) := by
  unfold m_nilometerlaw01_Made
  refine M.o_bind (within_out h (by omega) (by omega) h2 (by omega)) ?_
  rintro ⟨n, u1, x1⟩ ⟨hs, r0, r1⟩
  dsimp only at hs r0 r1 ⊢
  refine M.o_bind (P := fun y => HsOk n y.2.2.2 ∧ SOk (c + 100) y.1 y.2.1) ?_ ?_
  · refine M.o_for (Int.toNat n - 1) (fun i st => st.2.2.length = i + 1 ∧ SOk (c + 1 + i) st.1 st.2.1 ∧ st.2.2.getD 0 0 = 0 ∧ ∀ j : Nat, -300 ≤ st.2.2.getD j 0 ∧ st.2.2.getD j 0 ≤ 300) ?_ ?_ (s := (u1, x1, [0])) ⟨rfl, hs.mono (by simp), rfl, fun j => ?_⟩
    · rintro i ⟨u, x, l⟩ hi ⟨hl, ok, hz, hb⟩
      dsimp only at hl ok hz hb
      simp only [m_nilometerlaw01_Made_b0]
      refine M.o_t (decide_eq_true (by omega)) (M.o_bind (within_out ok (by omega) (by omega) (by omega) (by omega)) ?_)
      rintro ⟨r3, u2, x2⟩ ⟨ok2, h1, h2⟩
      dsimp only at ok2 h1 h2 ⊢
      refine M.o_grdD (by simp only [List.length_cons, List.length_nil]; omega) (M.o_pure ⟨by simp [hl], ok2.mono (by omega), ?_, fun j => ?_⟩)
      · dsimp only
        simp only [List.getD_eq_getElem?_getD] at hz ⊢
        rw [List.getElem?_append_left (by omega)]; exact hz
      · dsimp only
        have := hb j
        simp only [List.getD_eq_getElem?_getD] at this ⊢
        by_cases e : j < l.length
        · rw [List.getElem?_append_left e]; exact this
        · rw [List.getElem?_append_right (by omega)]
          by_cases e2 : j - l.length = 0
          · rw [e2]; simp; omega
          · rw [List.getElem?_eq_none (by simp; omega)]; simp
    · rintro ⟨u, x, l⟩ ⟨hl, ok, hz, hb⟩
      dsimp only at hl ok hz hb
      simp only [m_nilometerlaw01_Made_b0]
      exact M.o_f (decide_eq_false (by omega)) (M.o_pure ⟨⟨by dsimp only; omega, hz, fun v => hb _⟩, ok.mono (by omega)⟩)
    · cases j with
      | zero => simp
      | succ j => simp
  · rintro ⟨u, x, l2, l3⟩ ⟨hh, ok⟩
    dsimp only at hh ok ⊢
    refine M.o_bind (within_out ok (by omega) (by omega) (by omega) (by omega)) ?_
    rintro ⟨k, u3, x3⟩ ⟨ok3, k0, k1⟩
    dsimp only at ok3 k0 k1 ⊢
    refine M.o_bind (P := fun y => (1 ≤ y.2.1.length ∧ y.2.1.length ≤ 14) ∧ (∀ l, l ∈ y.2.1 → LnOk n l3 l) ∧ SOk (c + 2000) y.2.2.1 y.2.2.2) ?_ (fun y hy => M.o_pure ⟨⟨⟨by dsimp only; omega, by dsimp only; omega⟩, hh, hy.1, hy.2.1⟩, hy.2.2⟩)
    refine M.o_for (Int.toNat k) (fun i st => st.2.2.1 = i ∧ st.2.2.2.length = i ∧ SOk (c + 101 + 10 * i) st.1 st.2.1 ∧ ∀ l, l ∈ st.2.2.2 → LnOk n l3 l) ?_ ?_ (s := (u3, x3, 0, [])) ⟨rfl, rfl, ok3.mono (by omega), fun l hl => by simp at hl⟩
    · rintro i ⟨u, x, j, l⟩ hi ⟨rfl, hl, ok, hj⟩
      dsimp only at hi hl ok hj
      simp only [m_nilometerlaw01_Made_b1]
      refine M.o_t (decide_eq_true (by omega)) (M.o_bind (next_out ok (by omega) (by omega)) ?_)
      rintro ⟨r5, u5, x5⟩ ⟨ok5, h5, _⟩
      dsimp only at ok5 h5 ⊢
      have h5 := h5 (by omega)
      refine M.o_grd (gA2 (by omega) (by omega)) (M.o_grd (gA2 (by omega) (by omega)) (M.o_bind (next_out ok5 (by omega) (by omega)) ?_))
      rintro ⟨r6, u6, x6⟩ ⟨ok6, h6, _⟩
      dsimp only at ok6 h6 ⊢
      have h6 := h6 (by omega)
      refine M.o_grd (gA2 (by omega) (by omega)) (M.o_grd (gA2 (by omega) (by omega)) (M.o_bind (next_out ok6 (by omega) (by omega)) ?_))
      rintro ⟨r7, u7, x7⟩ ⟨ok7, h7, _⟩
      dsimp only at ok7 h7 ⊢
      have h7 := h7 (by omega)
      have hm := modne (a := r5) (j := 1 + r6) (n := n) (by omega) (by omega)
      rw [← Int.add_assoc] at hm
      refine M.o_bind (levelled_out ok7 (by omega) hh (a := r5) (t := (r5 + 1 + r6) % n) (by omega) hm.1 (fun e => hm.2 e.symm) h7) ?_
      rintro ⟨y0, y1, y2, y3, y4, y5, y6⟩ ⟨hln, ok8⟩
      dsimp only at hln ok8 ⊢
      refine M.o_grdD (by simp only [List.length_cons, List.length_nil]; omega) (M.o_grd (gA2 (by omega) (by omega)) (M.o_pure ⟨rfl, by simp [hl], ok8.mono (by omega), fun l' hl' => ?_⟩))
      simp only [List.mem_append, List.mem_cons, List.not_mem_nil, or_false] at hl'
      rcases hl' with hl' | rfl
      · exact hj l' hl'
      · exact hln
    · rintro ⟨u, x, j, l⟩ ⟨rfl, hl, ok, hj⟩
      dsimp only at hl ok hj
      simp only [m_nilometerlaw01_Made_b1]
      exact M.o_f (decide_eq_false (by omega)) (M.o_pure ⟨by dsimp only; omega, hj, ok.mono (by omega)⟩)
theorem new_ends (b : List UInt8) : (m_nilometerkit_New b).Ends (0, 0) := M.i_pure
theorem sok0 : SOk 0 0 0 := ⟨Int.le_refl _, Int.le_refl _, Int.le_refl _, by decide⟩
end Go.Proofs.Ytclhljenjphofaa
namespace Go.Nm
variable {ls ks : List Line} {a b d : Int}
theorem Tied.edge {u v c : Int} (he : Ed ls u v c) : Tied ls a u ↔ Tied ls a v := ⟨fun t => t.trans (.ed he), fun t => by obtain ⟨c', hr⟩ := he.rev; exact t.trans (.ed hr)⟩
theorem Wk.map {f : Int → Int} (hE : ∀ a b c, Ed ks a b c → Ed ls (f a) (f b) c) {vs : List Int} {c : Int} (w : Wk ks a vs c) : Wk ls (f a) (vs.map f) c := by
  induction w with
  | one => exact .one
  | snoc _ he ih => exact .snoc ih (hE _ _ _ he)
/-! ### Nets that are joined at one mark -/
section
variable {N M there joint : Int} (hN : Rng N ls) (hM : Rng M ks) (hj : 0 ≤ joint ∧ joint < N) (ht : 0 ≤ there ∧ there < M)
include hN hM hj ht
end
end Go.Nm
namespace Go.Proofs.Ytclhljenjphofaa
open Go Go.Nm
set_option maxRecDepth 100000 in
theorem awake_ends : (m_nilometerlaw01_awake).Ends true := ⟨300, by kernel_rfl⟩
end Go.Proofs.Ytclhljenjphofaa
