/- Part 6 of the texts on which the proof rests. Conditions: none. -/
import Derived.Test.YtclhljenjphofaaZM5
set_option linter.unusedVariables false
set_option linter.unusedSimpArgs false
set_option linter.unusedSectionVars false
namespace Go.Proofs.Ytclhljenjphofaa
open Go Go.Nm
def m_nilometerref01_Moves_b2 (n_Marks : Int) (n_Lines : List Line) (mark : Nat) : (Int × Int) → M ((Int × Int) ⊕ Int) := fun (best, i) =>
  bif decide (i < (n_Lines.length : Int)) then (
  bif decide (0 ≤ i) then (
  M.grd (decide ((0 : Int) ≤ i) && decide (i < (n_Lines.length : Int))) <|
  M.grd (decide ((-9223372036854775808 : Int) ≤ (((n_Lines.getD (Int.toNat i) default).day) + 1)) && decide ((((n_Lines.getD (Int.toNat i) default).day) + 1) ≤ (9223372036854775807 : Int))) <|
  bif ((decide ((((n_Lines.getD (Int.toNat i) default).day) + 1) ≤ 40000)) && ((best == 0) || (decide ((((n_Lines.getD (Int.toNat i) default).day) + 1) < best)))) then (
  M.bind (m_nilometerref01_parted n_Marks n_Lines (⟨(mark : Int), (((n_Lines.getD (Int.toNat i) default).day) + 1 : Int)⟩ : Mv)) fun (r025, r125) =>
  M.bind (M.opt ((decide ((((n_Lines.getD (Int.toNat i) default).day) + 1) ≤ 40000)) && ((best == 0) || (decide ((((n_Lines.getD (Int.toNat i) default).day) + 1) < best)))) (m_nilometerref01_agrees r025 r125) false) fun r4 =>
  bif (((decide ((((n_Lines.getD (Int.toNat i) default).day) + 1) ≤ 40000)) && ((best == 0) || (decide ((((n_Lines.getD (Int.toNat i) default).day) + 1) < best)))) && r4) then (
  M.grd (decide ((-9223372036854775808 : Int) ≤ (i + 1)) && decide ((i + 1) ≤ (9223372036854775807 : Int))) <|
  M.pure (.inl (((n_Lines.getD (Int.toNat i) default).day) + 1, i + 1)))
  else (
  M.grd (decide ((-9223372036854775808 : Int) ≤ (i + 1)) && decide ((i + 1) ≤ (9223372036854775807 : Int))) <|
  M.pure (.inl (best, i + 1))))
  else (
  M.grd (decide ((-9223372036854775808 : Int) ≤ (i + 1)) && decide ((i + 1) ≤ (9223372036854775807 : Int))) <|
  M.pure (.inl (best, i + 1))))
  else (
  bif ((decide ((1 : Int) ≤ 40000)) && ((best == 0) || (decide (1 < best)))) then (
  M.bind (m_nilometerref01_parted n_Marks n_Lines (⟨(mark : Int), (1 : Int)⟩ : Mv)) fun (r045, r145) =>
  M.bind (M.opt ((decide ((1 : Int) ≤ 40000)) && ((best == 0) || (decide (1 < best)))) (m_nilometerref01_agrees r045 r145) false) fun r4 =>
  bif (((decide ((1 : Int) ≤ 40000)) && ((best == 0) || (decide (1 < best)))) && r4) then (
  M.grd (decide ((-9223372036854775808 : Int) ≤ (i + 1)) && decide ((i + 1) ≤ (9223372036854775807 : Int))) <|
  M.pure (.inl (1, i + 1)))
  else (
  M.grd (decide ((-9223372036854775808 : Int) ≤ (i + 1)) && decide ((i + 1) ≤ (9223372036854775807 : Int))) <|
  M.pure (.inl (best, i + 1))))
  else (
  M.grd (decide ((-9223372036854775808 : Int) ≤ (i + 1)) && decide ((i + 1) ≤ (9223372036854775807 : Int))) <|
  M.pure (.inl (best, i + 1)))))
  else (
  M.pure (.inr best))
def m_nilometerref01_Moves_b3 (n_Marks : Int) (n_Lines : List Line) : (Nat × (List Mv)) → M ((Nat × (List Mv)) ⊕ ((List Mv) × (List Mv))) := fun (mark, l) =>
  bif decide ((mark : Int) < n_Marks) then (
  M.bind (M.iter (m_nilometerref01_Moves_b2 n_Marks n_Lines mark) (0, -1)) fun best2 =>
  bif decide (0 < best2) then (
  M.grd (decide ((l.length + ([(⟨(mark : Int), (best2 : Int)⟩ : Mv)]).length) * 16 ≤ 140737488355328)) <|
  M.grd (decide ((-9223372036854775808 : Int) ≤ ((mark : Int) + 1)) && decide (((mark : Int) + 1) ≤ (9223372036854775807 : Int))) <|
  M.pure (.inl (mark + 1, l ++ ([(⟨(mark : Int), (best2 : Int)⟩ : Mv)]))))
  else (
  M.grd (decide ((-9223372036854775808 : Int) ≤ ((mark : Int) + 1)) && decide (((mark : Int) + 1) ≤ (9223372036854775807 : Int))) <|
  M.pure (.inl (mark + 1, l))))
  else (
  M.pure (.inr (l, l)))
def m_nilometerref01_Moves (n_Marks : Int) (n_Lines : List Line) : M ((List Mv) × Int) :=
  M.bind (m_nilometerref01_Check n_Marks n_Lines) fun r2 =>
  bif r2 != 0 then (
  M.pure (([]), r2))
  else (
  M.bind (m_nilometerref01_agrees n_Marks n_Lines) fun r3 =>
  bif r3 then (
  M.pure (([]), 8))
  else (
  bif decide (11 < n_Marks) then (
  M.pure (([]), 3))
  else (
  M.bind (M.iter (m_nilometerref01_Moves_b3 n_Marks n_Lines) (0, [])) fun (l2, l3) =>
  M.pure (l3, 0))))
set_option maxRecDepth 100000 in
set_option maxHeartbeats 16000000 in
theorem nilometerref01_Moves_ok {R : List Chunk} {C_n_Lines : Cells} {v_n_Lines : Value} (n_Marks : Int) (n_Lines : List Line) (hC_n_Lines : Reads R C_n_Lines) (hs_n_Lines : Sl C_n_Lines v_n_Lines n_Lines) {r : ((List Mv) × Int)} (hM : (m_nilometerref01_Moves n_Marks n_Lines).Ends r) (w : World) (H : St w w [] R) : Ret Try.prog 31 #[.agg #[I n_Marks, v_n_Lines]] w fun v w' => ∃ (y0 : List Mv) (y1 : Int) (u0 : Value), (y0, y1) = r ∧ v = .tuple #[u0, I y1] ∧ St w w' [cOwn (α := Mv) 68 u0 y0] R := by
 refine ret_of_W Try.func31 rfl rfl rfl ?_
 refine W.seq ?_
 refine W.region rfl ?_
 refine t_box (v := .agg #[I n_Marks, v_n_Lines]) (cs := [I n_Marks, v_n_Lines]) H rfl rfl ?_
 intro b_1 w1z H
 refine s_val (x_as (v := .slice none 0 0) rfl) ?_
 refine s_val (x_as (v := I 0) rfl) ?_
 refine s_nil ?_
 refine W.seq ?_
 refine W.seq ?_
 refine W.region rfl ?_
 refine s_val (x_ld (p := .pointer (some ⟨b_1, 0, none⟩)) (v := .agg #[I n_Marks, v_n_Lines]) rfl (ldb_ag (ds := [I n_Marks, v_n_Lines]) Ag64 Sz64 (H.blk (k := 0) rfl) rfl rfl)) ?_
 obtain ⟨r3z, hx2z, hM⟩ := M.e_bind hM
 refine s_call cf38 [.agg #[I n_Marks, v_n_Lines]] rfl (nilometerref01_Check_ok n_Marks n_Lines (hC_n_Lines.app _) hs_n_Lines hx2z _ (St.give (T := [cBlk b_1 [I n_Marks, v_n_Lines] 64]) H rfl)) ?_
 rintro vq w4z ⟨r2, hr5z, hvq, H2_⟩
 subst hr5z
 subst vq
 try dsimp only at hM
 replace H : St w w4z [cBlk b_1 [I n_Marks, v_n_Lines] 64] R := H.back H2_ rfl
 clear H2_
 refine s_val (x_as (v := I r2) rfl) ?_
 refine s_nil ?_
 refine W.seq ?_
 refine W.region rfl ?_
 refine s_val (x_mv (v := I r2) rfl) ?_
 refine s_val (x_cmp (kd := .i64) (a := r2) (b := 0) (r := r2 != 0) rfl rfl rfl) ?_
 refine s_nil ?_
 refine W.cond (r2 != 0) rfl (fun c6z => ?_) (fun c6z => ?_)
 ·replace hM := M.e_t hM c6z
  simp only [decide_eq_true_eq, decide_eq_false_iff_not, beq_iff_eq, bne_iff_ne, beq_eq_false_iff_ne, bne_eq_false_iff_eq, ne_eq, Decidable.not_not] at c6z
  refine W.seq ?_
  refine W.region rfl ?_
  refine s_val (x_mv (v := I r2) rfl) ?_
  refine s_val (x_as (v := .slice none 0 0) rfl) ?_
  refine s_val (x_as (v := I r2) rfl) ?_
  refine s_nil ?_
  refine W.ret ?_
  have hr_ := M.e_pure hM
  replace H : St w w4z [cOwn (α := Mv) 68 (.slice none 0 0) ([]), cBlk b_1 [I n_Marks, v_n_Lines] 64] R := H.nilOwn (α := Mv) 68
  exact ⟨_, resE_tmp2 rfl, ⟨([]), r2, (.slice none 0 0), hr_, rfl, (H.pick [0] (by decide) rfl)⟩⟩
 ·replace hM := M.e_f hM c6z
  simp only [decide_eq_true_eq, decide_eq_false_iff_not, beq_iff_eq, bne_iff_ne, beq_eq_false_iff_ne, bne_eq_false_iff_eq, ne_eq, Decidable.not_not] at c6z
  refine W.skip ?_
  refine W.seq ?_
  refine W.seq ?_
  refine W.region rfl ?_
  refine s_val (x_ld (p := .pointer (some ⟨b_1, 0, none⟩)) (v := .agg #[I n_Marks, v_n_Lines]) rfl (ldb_ag (ds := [I n_Marks, v_n_Lines]) Ag64 Sz64 (H.blk (k := 0) rfl) rfl rfl)) ?_
  obtain ⟨r8z, hx7z, hM⟩ := M.e_bind hM
  refine s_call cf72 [.agg #[I n_Marks, v_n_Lines]] rfl (nilometerref01_agrees_ok n_Marks n_Lines (hC_n_Lines.app _) hs_n_Lines hx7z _ (St.give (T := [cBlk b_1 [I n_Marks, v_n_Lines] 64]) H rfl)) ?_
  rintro vq w9z ⟨r3, hr10z, hvq, H2_⟩
  subst hr10z
  subst vq
  try dsimp only at hM
  replace H : St w w9z [cBlk b_1 [I n_Marks, v_n_Lines] 64] R := H.back H2_ rfl
  clear H2_
  refine s_nil ?_
  refine W.cond r3 rfl (fun c11z => ?_) (fun c11z => ?_)
  ·replace hM := M.e_t hM c11z
   refine W.seq ?_
   refine W.region rfl ?_
   refine s_val (x_as (v := .slice none 0 0) rfl) ?_
   refine s_val (x_as (v := I 8) rfl) ?_
   refine s_nil ?_
   refine W.ret ?_
   have hr_ := M.e_pure hM
   replace H : St w w9z [cOwn (α := Mv) 68 (.slice none 0 0) ([]), cBlk b_1 [I n_Marks, v_n_Lines] 64] R := H.nilOwn (α := Mv) 68
   exact ⟨_, resE_tmp2 rfl, ⟨([]), 8, (.slice none 0 0), hr_, rfl, (H.pick [0] (by decide) rfl)⟩⟩
  ·replace hM := M.e_f hM c11z
   refine W.skip ?_
   refine W.seq ?_
   refine W.seq ?_
   refine W.region rfl ?_
   refine s_val (x_fa (a := .pointer (some ⟨b_1, 0, none⟩)) (v := .pointer (some ⟨b_1, 0, none⟩)) rfl (fa_blk (o := 0) Fd64_0 Sz3)) ?_
   refine s_val (x_ld (p := .pointer (some ⟨b_1, 0, none⟩)) (v := I n_Marks) rfl (ldb_sc Sc3 (H.blk (k := 0) rfl) rfl)) ?_
   refine s_val (x_cmp (kd := .i64) (a := n_Marks) (b := 11) (r := decide (11 < n_Marks)) rfl rfl rfl) ?_
   refine s_nil ?_
   refine W.cond (decide (11 < n_Marks)) rfl (fun c12z => ?_) (fun c12z => ?_)
   ·replace hM := M.e_t hM c12z
    simp only [decide_eq_true_eq, decide_eq_false_iff_not, beq_iff_eq, bne_iff_ne, beq_eq_false_iff_ne, bne_eq_false_iff_eq, ne_eq, Decidable.not_not] at c12z
    refine W.seq ?_
    refine W.region rfl ?_
    refine s_val (x_as (v := .slice none 0 0) rfl) ?_
    refine s_val (x_as (v := I 3) rfl) ?_
    refine s_nil ?_
    refine W.ret ?_
    have hr_ := M.e_pure hM
    replace H : St w w9z [cOwn (α := Mv) 68 (.slice none 0 0) ([]), cBlk b_1 [I n_Marks, v_n_Lines] 64] R := H.nilOwn (α := Mv) 68
    exact ⟨_, resE_tmp2 rfl, ⟨([]), 3, (.slice none 0 0), hr_, rfl, (H.pick [0] (by decide) rfl)⟩⟩
   ·replace hM := M.e_f hM c12z
    simp only [decide_eq_true_eq, decide_eq_false_iff_not, beq_iff_eq, bne_iff_ne, beq_eq_false_iff_ne, bne_eq_false_iff_eq, ne_eq, Decidable.not_not] at c12z
    refine W.skip ?_
    refine W.seq ?_
    refine W.region rfl ?_
    refine s_val (x_as (v := .slice none 0 0) rfl) ?_
    refine s_nil ?_
    refine W.seq ?_
    refine W.seq ?_
    refine W.region rfl ?_
    refine s_val (x_as (v := I 0) rfl) ?_
    refine s_nil ?_
    refine W.block ?_
    replace H : St w w9z [cOwn (α := Mv) 68 (.slice none 0 0) ([]), cBlk b_1 [I n_Marks, v_n_Lines] 64] R := H.nilOwn (α := Mv) 68
    obtain ⟨ex13z, hi14z, hk15z⟩ := M.e_bind hM
    obtain ⟨m0_, hi14z⟩ := M.e_iter hi14z
    refine W.loop (fun m σ W => ∃ (mark : Nat) (l : List Mv) (v_l : Value) (ρ : Env), σ = upds ρ [(1, .pointer (some ⟨b_1, 0, none⟩)), (5, v_l), (6, I (mark : Int))] ∧ M.iterN (m_nilometerref01_Moves_b3 n_Marks n_Lines) m (mark, l) = some ex13z ∧ St w W [cOwn (α := Mv) 68 v_l l, cBlk b_1 [I n_Marks, v_n_Lines] 64] R) ?_ ?_
    ·exact ⟨_, 0, [], (.slice none 0 0), _, upds_of _ _ ⟨rfl, rfl, rfl, trivial⟩, hi14z, H⟩
    ·rintro m18z σ w16z ⟨mark, l, v_l, ρ, rfl, hI17z, H⟩
     obtain ⟨m19z, lt20z, x21z, hM, hN22z⟩ := M.e_iterN hI17z
     simp only [m_nilometerref01_Moves_b3] at hM
     clear hI17z
     refine W.seq ?_
     refine W.seq ?_
     refine W.region rfl ?_
     refine s_val (x_mv (v := I (mark : Int)) rfl) ?_
     refine s_val (x_fa (a := .pointer (some ⟨b_1, 0, none⟩)) (v := .pointer (some ⟨b_1, 0, none⟩)) rfl (fa_blk (o := 0) Fd64_0 Sz3)) ?_
     refine s_val (x_ld (p := .pointer (some ⟨b_1, 0, none⟩)) (v := I n_Marks) rfl (ldb_sc Sc3 (H.blk (k := 1) rfl) rfl)) ?_
     refine s_val (x_cmp (kd := .i64) (a := (mark : Int)) (b := n_Marks) (r := decide ((mark : Int) < n_Marks)) rfl rfl rfl) ?_
     refine s_nil ?_
     refine W.cond (decide ((mark : Int) < n_Marks)) rfl (fun c23z => ?_) (fun c23z => ?_)
     ·replace hM := M.e_t hM c23z
      simp only [decide_eq_true_eq, decide_eq_false_iff_not, beq_iff_eq, bne_iff_ne, beq_eq_false_iff_ne, bne_eq_false_iff_eq, ne_eq, Decidable.not_not] at c23z
      refine W.skip ?_
      refine W.seq ?_
      refine W.block ?_
      refine W.seq ?_
      refine W.region rfl ?_
      refine s_val (x_as (v := I 0) rfl) ?_
      refine s_nil ?_
      refine W.seq ?_
      refine W.seq ?_
      refine W.region rfl ?_
      refine s_val (x_as (v := I (-1)) rfl) ?_
      refine s_nil ?_
      refine W.block ?_
      obtain ⟨ex24z, hi25z, hk26z⟩ := M.e_bind hM
      obtain ⟨m0_, hi25z⟩ := M.e_iter hi25z
      refine W.loop (fun m σ W => ∃ (best : Int) (i : Int) (ρ : Env), σ = upds ρ [(1, .pointer (some ⟨b_1, 0, none⟩)), (5, v_l), (6, I (mark : Int)), (7, I best), (8, I i)] ∧ M.iterN (m_nilometerref01_Moves_b2 n_Marks n_Lines mark) m (best, i) = some ex24z ∧ St w W [cOwn (α := Mv) 68 v_l l, cBlk b_1 [I n_Marks, v_n_Lines] 64] R) ?_ ?_
      ·exact ⟨_, 0, -1, _, upds_of _ _ ⟨rfl, rfl, rfl, rfl, rfl, trivial⟩, hi25z, H⟩
      ·rintro m29z σ w27z ⟨best, i, ρ, rfl, hI28z, H⟩
       obtain ⟨m30z, lt31z, x32z, hM, hN33z⟩ := M.e_iterN hI28z
       simp only [m_nilometerref01_Moves_b2] at hM
       clear hI28z
       refine W.seq ?_
       refine W.seq ?_
       refine W.region rfl ?_
       refine s_val (x_mv (v := I i) rfl) ?_
       refine s_val (x_fa (a := .pointer (some ⟨b_1, 0, none⟩)) (v := .pointer (some ⟨b_1, 1, none⟩)) rfl (fa_blk (o := 0) Fd64_1 Sz62)) ?_
       refine s_val (x_ld (p := .pointer (some ⟨b_1, 1, none⟩)) (v := v_n_Lines) rfl (ldb_sc Sc62 (H.blk (k := 1) rfl) rfl)) ?_
       have hl34z := (hs_n_Lines).len_le
       refine s_val (x_lenS T62.und rfl hs_n_Lines) ?_
       refine s_val (x_cmp (kd := .i64) (a := i) (b := (n_Lines.length : Int)) (r := decide (i < (n_Lines.length : Int))) rfl rfl rfl) ?_
       refine s_nil ?_
       refine W.cond (decide (i < (n_Lines.length : Int))) rfl (fun c35z => ?_) (fun c35z => ?_)
       ·replace hM := M.e_t hM c35z
        simp only [decide_eq_true_eq, decide_eq_false_iff_not, beq_iff_eq, bne_iff_ne, beq_eq_false_iff_ne, bne_eq_false_iff_eq, ne_eq, Decidable.not_not] at c35z
        refine W.skip ?_
        refine W.seq ?_
        refine W.block ?_
        refine W.seq ?_
        refine W.region rfl ?_
        refine s_val (x_as (v := I 1) rfl) ?_
        refine s_nil ?_
        refine W.seq ?_
        refine W.seq ?_
        refine W.region rfl ?_
        refine s_val (x_mv (v := I i) rfl) ?_
        refine s_val (x_cmp (kd := .i64) (a := i) (b := 0) (r := decide (0 ≤ i)) rfl rfl rfl) ?_
        refine s_nil ?_
        refine W.cond (decide (0 ≤ i)) rfl (fun c36z => ?_) (fun c36z => ?_)
        ·replace hM := M.e_t hM c36z
         simp only [decide_eq_true_eq, decide_eq_false_iff_not, beq_iff_eq, bne_iff_ne, beq_eq_false_iff_ne, bne_eq_false_iff_eq, ne_eq, Decidable.not_not] at c36z
         refine W.region rfl ?_
         refine s_val (x_fa (a := .pointer (some ⟨b_1, 0, none⟩)) (v := .pointer (some ⟨b_1, 1, none⟩)) rfl (fa_blk (o := 0) Fd64_1 Sz62)) ?_
         refine s_val (x_ld (p := .pointer (some ⟨b_1, 1, none⟩)) (v := v_n_Lines) rfl (ldb_sc Sc62 (H.blk (k := 1) rfl) rfl)) ?_
         refine s_val (x_mv (v := I i) rfl) ?_
         obtain ⟨sd37z, hM⟩ := M.e_grd hM
         simp only [Bool.and_eq_true, decide_eq_true_eq] at sd37z
         refine s_val (x_ix (a := v_n_Lines) (b := I i) (v := vat v_n_Lines 5 (Int.toNat i)) rfl rfl (Sl.ix (α := Line) T62.und T62.size hs_n_Lines (by omega) (by omega))) ?_
         refine s_val (x_fa (a := vat v_n_Lines 5 (Int.toNat i)) (v := fat (vat v_n_Lines 5 (Int.toNat i)) 2) rfl (fa_pl Fd133_2 Sz3 (Sl.pl (i := i) hs_n_Lines (by omega) (by omega)))) ?_
         refine s_val (x_ld (p := fat (vat v_n_Lines 5 (Int.toNat i)) 2) (v := I ((n_Lines.getD (Int.toNat i) default).day)) rfl (ld_sc Sc3 (At.mono (Line_at2 hs_n_Lines (i := i) (by omega) (by omega)) (hC_n_Lines.at H)))) ?_
         obtain ⟨sd38z, hM⟩ := M.e_grd hM
         simp only [Bool.and_eq_true, decide_eq_true_eq] at sd38z
         refine s_val (x_ari (a := (n_Lines.getD (Int.toNat i) default).day) (b := 1) (r := ((n_Lines.getD (Int.toNat i) default).day) + 1) rfl rfl rfl (by omega)) ?_
         refine s_val (x_as (v := I (((n_Lines.getD (Int.toNat i) default).day) + 1)) rfl) ?_
         refine s_nil ?_
         refine W.seq ?_
         refine W.region rfl ?_
         refine s_val (x_mv (v := I (((n_Lines.getD (Int.toNat i) default).day) + 1)) rfl) ?_
         refine s_val (x_cmp (kd := .i64) (a := ((n_Lines.getD (Int.toNat i) default).day) + 1) (b := 40000) (r := decide ((((n_Lines.getD (Int.toNat i) default).day) + 1) ≤ 40000)) rfl rfl rfl) ?_
         refine s_val (x_mv (v := B (decide ((((n_Lines.getD (Int.toNat i) default).day) + 1) ≤ 40000))) rfl) ?_
         refine g_val (decide ((((n_Lines.getD (Int.toNat i) default).day) + 1) ≤ 40000)) (gy_t rfl) (fun hg => x_mv (v := I best) rfl) ?_
         refine g_val (decide ((((n_Lines.getD (Int.toNat i) default).day) + 1) ≤ 40000)) (gy_t rfl) (fun hg => x_cmp (kd := .i64) (a := best) (b := 0) (r := best == 0) (gd_of (c := decide ((((n_Lines.getD (Int.toNat i) default).day) + 1) ≤ 40000)) hg (I best)) rfl rfl) ?_
         refine g_val (decide ((((n_Lines.getD (Int.toNat i) default).day) + 1) ≤ 40000)) (gy_t rfl) (fun hg => x_mv (v := B (best == 0)) (gd_of (c := decide ((((n_Lines.getD (Int.toNat i) default).day) + 1) ≤ 40000)) hg (B (best == 0)))) ?_
         refine g_val ((decide ((((n_Lines.getD (Int.toNat i) default).day) + 1) ≤ 40000)) && !(best == 0)) (gy_gf rfl rfl) (fun hg => x_mv (v := I (((n_Lines.getD (Int.toNat i) default).day) + 1)) rfl) ?_
         refine g_val ((decide ((((n_Lines.getD (Int.toNat i) default).day) + 1) ≤ 40000)) && !(best == 0)) (gy_gf rfl rfl) (fun hg => x_mv (v := I best) rfl) ?_
         refine g_val ((decide ((((n_Lines.getD (Int.toNat i) default).day) + 1) ≤ 40000)) && !(best == 0)) (gy_gf rfl rfl) (fun hg => x_cmp (kd := .i64) (a := ((n_Lines.getD (Int.toNat i) default).day) + 1) (b := best) (r := decide ((((n_Lines.getD (Int.toNat i) default).day) + 1) < best)) (gd_of (c := ((decide ((((n_Lines.getD (Int.toNat i) default).day) + 1) ≤ 40000)) && !(best == 0))) hg (I (((n_Lines.getD (Int.toNat i) default).day) + 1))) (gd_of (c := ((decide ((((n_Lines.getD (Int.toNat i) default).day) + 1) ≤ 40000)) && !(best == 0))) hg (I best)) rfl) ?_
         refine g_val (decide ((((n_Lines.getD (Int.toNat i) default).day) + 1) ≤ 40000)) (gy_t rfl) (fun hg => x_por (b := best == 0) (r := decide ((((n_Lines.getD (Int.toNat i) default).day) + 1) < best)) (gd_of (c := decide ((((n_Lines.getD (Int.toNat i) default).day) + 1) ≤ 40000)) hg (B (best == 0))) rfl (fun hb => gd_of (c := ((decide ((((n_Lines.getD (Int.toNat i) default).day) + 1) ≤ 40000)) && !(best == 0))) (by first | exact hb | (rw [hb]; rfl) | simp_all) (B (decide ((((n_Lines.getD (Int.toNat i) default).day) + 1) < best))))) ?_
         refine s_val (x_pand (b := decide ((((n_Lines.getD (Int.toNat i) default).day) + 1) ≤ 40000)) (r := ((best == 0) || (decide ((((n_Lines.getD (Int.toNat i) default).day) + 1) < best)))) rfl (fun hb => gd_of (c := decide ((((n_Lines.getD (Int.toNat i) default).day) + 1) ≤ 40000)) (by first | exact hb | (rw [hb]; rfl) | simp_all) (B ((best == 0) || (decide ((((n_Lines.getD (Int.toNat i) default).day) + 1) < best))))) rfl) ?_
         refine s_val (x_mv (v := B ((decide ((((n_Lines.getD (Int.toNat i) default).day) + 1) ≤ 40000)) && ((best == 0) || (decide ((((n_Lines.getD (Int.toNat i) default).day) + 1) < best))))) rfl) ?_
         refine g_val ((decide ((((n_Lines.getD (Int.toNat i) default).day) + 1) ≤ 40000)) && ((best == 0) || (decide ((((n_Lines.getD (Int.toNat i) default).day) + 1) < best)))) (gy_t rfl) (fun hg => x_ld (p := .pointer (some ⟨b_1, 0, none⟩)) (v := .agg #[I n_Marks, v_n_Lines]) rfl (ldb_ag (ds := [I n_Marks, v_n_Lines]) Ag64 Sz64 (H.blk (k := 1) rfl) rfl rfl)) ?_
         refine g_val ((decide ((((n_Lines.getD (Int.toNat i) default).day) + 1) ≤ 40000)) && ((best == 0) || (decide ((((n_Lines.getD (Int.toNat i) default).day) + 1) < best)))) (gy_t rfl) (fun hg => x_mv (v := I (mark : Int)) rfl) ?_
         refine g_val ((decide ((((n_Lines.getD (Int.toNat i) default).day) + 1) ≤ 40000)) && ((best == 0) || (decide ((((n_Lines.getD (Int.toNat i) default).day) + 1) < best)))) (gy_t rfl) (fun hg => x_mv (v := I (((n_Lines.getD (Int.toNat i) default).day) + 1)) rfl) ?_
         refine g_val ((decide ((((n_Lines.getD (Int.toNat i) default).day) + 1) ≤ 40000)) && ((best == 0) || (decide ((((n_Lines.getD (Int.toNat i) default).day) + 1) < best)))) (gy_t rfl) (fun hg => x_bld (ps := [(0, I (mark : Int)), (1, I (((n_Lines.getD (Int.toNat i) default).day) + 1))]) (zs := [I 0, I 0]) (L' := [I (mark : Int), I (((n_Lines.getD (Int.toNat i) default).day) + 1)]) (by exact prs2 (gd_of (c := ((decide ((((n_Lines.getD (Int.toNat i) default).day) + 1) ≤ 40000)) && ((best == 0) || (decide ((((n_Lines.getD (Int.toNat i) default).day) + 1) < best))))) hg (I (mark : Int))) (gd_of (c := ((decide ((((n_Lines.getD (Int.toNat i) default).day) + 1) ≤ 40000)) && ((best == 0) || (decide ((((n_Lines.getD (Int.toNat i) default).day) + 1) < best))))) hg (I (((n_Lines.getD (Int.toNat i) default).day) + 1)))) Try.underlying68 Al68 rfl (Bd68 Try.underlying68) (.cons (cs := [I (mark : Int)]) rfl rfl rfl rfl rfl <| .cons (cs := [I (((n_Lines.getD (Int.toNat i) default).day) + 1)]) rfl rfl rfl rfl rfl <| .nil)) ?_
         refine g_splitV ((decide ((((n_Lines.getD (Int.toNat i) default).day) + 1) ≤ 40000)) && ((best == 0) || (decide ((((n_Lines.getD (Int.toNat i) default).day) + 1) < best)))) (.tuple #[]) (gy_t rfl) (fun hg_ => ?_) (fun hg_ => ?_)
         ·replace hM := M.e_t hM hg_
          obtain ⟨r40z, hx39z, hM⟩ := M.e_bind hM
          refine s_call cf70 [.agg #[I n_Marks, v_n_Lines], .agg #[I (mark : Int), I (((n_Lines.getD (Int.toNat i) default).day) + 1)]] (lst2 (gd_of (c := ((decide ((((n_Lines.getD (Int.toNat i) default).day) + 1) ≤ 40000)) && ((best == 0) || (decide ((((n_Lines.getD (Int.toNat i) default).day) + 1) < best))))) hg_ (.agg #[I n_Marks, v_n_Lines])) (gd_of (c := ((decide ((((n_Lines.getD (Int.toNat i) default).day) + 1) ≤ 40000)) && ((best == 0) || (decide ((((n_Lines.getD (Int.toNat i) default).day) + 1) < best))))) hg_ (.agg #[I (mark : Int), I (((n_Lines.getD (Int.toNat i) default).day) + 1)]))) (nilometerref01_parted_ok n_Marks n_Lines (⟨(mark : Int), (((n_Lines.getD (Int.toNat i) default).day) + 1 : Int)⟩ : Mv) (hC_n_Lines.app _) hs_n_Lines hx39z _ (St.give (T := [cOwn (α := Mv) 68 v_l l, cBlk b_1 [I n_Marks, v_n_Lines] 64]) H rfl)) ?_
          rintro vq w41z ⟨r046, r146, u0_51, hr42z, hvq, H2_⟩
          subst hr42z
          subst vq
          try dsimp only at hM
          replace H : St w w41z [cOwn (α := Line) 133 u0_51 r146, cOwn (α := Mv) 68 v_l l, cBlk b_1 [I n_Marks, v_n_Lines] 64] R := H.back H2_ rfl
          clear H2_
          obtain ⟨r4, hx43z, hM⟩ := M.e_bind hM
          refine t_gcall ((decide ((((n_Lines.getD (Int.toNat i) default).day) + 1) ≤ 40000)) && ((best == 0) || (decide ((((n_Lines.getD (Int.toNat i) default).day) + 1) < best)))) (gy_t rfl) cf72 (B r4) (fun _ => [.agg #[I r046, u0_51]]) (fun _ => rfl) H (fun hg => (nilometerref01_agrees_ok r046 r146 (Reads.of (k := 0) rfl ownLe) (ownSl (H.get (k := 0) rfl)) (M.e_opt hx43z hg) _ (H.give (A := []) rfl)).mono fun v_ w_ ⟨y_, hr_, hv_, H_⟩ => by subst hr_; exact ⟨hv_, H.via H_⟩) ?_
          intro w44z H
          refine s_val (x_pand (b := ((decide ((((n_Lines.getD (Int.toNat i) default).day) + 1) ≤ 40000)) && ((best == 0) || (decide ((((n_Lines.getD (Int.toNat i) default).day) + 1) < best))))) (r := r4) rfl (fun hb => gd_of (c := ((decide ((((n_Lines.getD (Int.toNat i) default).day) + 1) ≤ 40000)) && ((best == 0) || (decide ((((n_Lines.getD (Int.toNat i) default).day) + 1) < best))))) (by first | exact hb | (rw [hb]; rfl) | simp_all) (B r4)) rfl) ?_
          refine s_nil ?_
          refine W.cond (((decide ((((n_Lines.getD (Int.toNat i) default).day) + 1) ≤ 40000)) && ((best == 0) || (decide ((((n_Lines.getD (Int.toNat i) default).day) + 1) < best)))) && r4) rfl (fun c45z => ?_) (fun c45z => ?_)
          ·replace hM := M.e_t hM c45z
           refine W.region rfl ?_
           refine s_val (x_mv (v := I (((n_Lines.getD (Int.toNat i) default).day) + 1)) rfl) ?_
           refine s_val (x_as (v := I (((n_Lines.getD (Int.toNat i) default).day) + 1)) rfl) ?_
           refine s_nil ?_
           refine W.region rfl ?_
           refine s_val (x_mv (v := I i) rfl) ?_
           obtain ⟨sd46z, hM⟩ := M.e_grd hM
           simp only [Bool.and_eq_true, decide_eq_true_eq] at sd46z
           refine s_val (x_ari (a := i) (b := 1) (r := i + 1) rfl rfl rfl (by omega)) ?_
           refine s_val (x_as (v := I (i + 1)) rfl) ?_
           refine s_nil ?_
           exact ⟨m30z, lt31z, ((n_Lines.getD (Int.toNat i) default).day) + 1, i + 1, _, upds_of _ _ ⟨rfl, rfl, rfl, rfl, rfl, trivial⟩, M.e_inl hM hN33z, (H.pick [1, 2] (by decide) rfl)⟩
          ·replace hM := M.e_f hM c45z
           refine W.skip ?_
           refine W.region rfl ?_
           refine s_val (x_mv (v := I i) rfl) ?_
           obtain ⟨sd47z, hM⟩ := M.e_grd hM
           simp only [Bool.and_eq_true, decide_eq_true_eq] at sd47z
           refine s_val (x_ari (a := i) (b := 1) (r := i + 1) rfl rfl rfl (by omega)) ?_
           refine s_val (x_as (v := I (i + 1)) rfl) ?_
           refine s_nil ?_
           exact ⟨m30z, lt31z, best, i + 1, _, upds_of _ _ ⟨rfl, rfl, rfl, rfl, rfl, trivial⟩, M.e_inl hM hN33z, (H.pick [1, 2] (by decide) rfl)⟩
         ·replace hM := M.e_f hM hg_
          refine g_val (v := B false) ((decide ((((n_Lines.getD (Int.toNat i) default).day) + 1) ≤ 40000)) && ((best == 0) || (decide ((((n_Lines.getD (Int.toNat i) default).day) + 1) < best)))) (gy_t rfl) (fun hg => Bool.noConfusion (hg_.symm.trans hg)) ?_
          refine s_val (x_pand0 (b := ((decide ((((n_Lines.getD (Int.toNat i) default).day) + 1) ≤ 40000)) && ((best == 0) || (decide ((((n_Lines.getD (Int.toNat i) default).day) + 1) < best))))) rfl (fun hb => gd_of (c := ((decide ((((n_Lines.getD (Int.toNat i) default).day) + 1) ≤ 40000)) && ((best == 0) || (decide ((((n_Lines.getD (Int.toNat i) default).day) + 1) < best))))) (by first | exact hb | (rw [hb]; rfl) | simp_all) (B false)) rfl) ?_
          refine s_nil ?_
          refine W.cond false rfl (fun c48z => ?_) (fun c48z => ?_)
          ·skip
           exact absurd c48z (by decide)
          ·skip
           refine W.skip ?_
           refine W.region rfl ?_
           refine s_val (x_mv (v := I i) rfl) ?_
           obtain ⟨sd49z, hM⟩ := M.e_grd hM
           simp only [Bool.and_eq_true, decide_eq_true_eq] at sd49z
           refine s_val (x_ari (a := i) (b := 1) (r := i + 1) rfl rfl rfl (by omega)) ?_
           refine s_val (x_as (v := I (i + 1)) rfl) ?_
           refine s_nil ?_
           exact ⟨m30z, lt31z, best, i + 1, _, upds_of _ _ ⟨rfl, rfl, rfl, rfl, rfl, trivial⟩, M.e_inl hM hN33z, H⟩
        ·replace hM := M.e_f hM c36z
         simp only [decide_eq_true_eq, decide_eq_false_iff_not, beq_iff_eq, bne_iff_ne, beq_eq_false_iff_ne, bne_eq_false_iff_eq, ne_eq, Decidable.not_not] at c36z
         refine W.skip ?_
         refine W.seq ?_
         refine W.region rfl ?_
         refine s_val (x_mv (v := I 1) rfl) ?_
         refine s_val (x_cmp (kd := .i64) (a := 1) (b := 40000) (r := decide ((1 : Int) ≤ 40000)) rfl rfl rfl) ?_
         refine s_val (x_mv (v := B (decide ((1 : Int) ≤ 40000))) rfl) ?_
         refine g_val (decide ((1 : Int) ≤ 40000)) (gy_t rfl) (fun hg => x_mv (v := I best) rfl) ?_
         refine g_val (decide ((1 : Int) ≤ 40000)) (gy_t rfl) (fun hg => x_cmp (kd := .i64) (a := best) (b := 0) (r := best == 0) (gd_of (c := decide ((1 : Int) ≤ 40000)) hg (I best)) rfl rfl) ?_
         refine g_val (decide ((1 : Int) ≤ 40000)) (gy_t rfl) (fun hg => x_mv (v := B (best == 0)) (gd_of (c := decide ((1 : Int) ≤ 40000)) hg (B (best == 0)))) ?_
         refine g_val ((decide ((1 : Int) ≤ 40000)) && !(best == 0)) (gy_gf rfl rfl) (fun hg => x_mv (v := I 1) rfl) ?_
         refine g_val ((decide ((1 : Int) ≤ 40000)) && !(best == 0)) (gy_gf rfl rfl) (fun hg => x_mv (v := I best) rfl) ?_
         refine g_val ((decide ((1 : Int) ≤ 40000)) && !(best == 0)) (gy_gf rfl rfl) (fun hg => x_cmp (kd := .i64) (a := 1) (b := best) (r := decide (1 < best)) (gd_of (c := ((decide ((1 : Int) ≤ 40000)) && !(best == 0))) hg (I 1)) (gd_of (c := ((decide ((1 : Int) ≤ 40000)) && !(best == 0))) hg (I best)) rfl) ?_
         refine g_val (decide ((1 : Int) ≤ 40000)) (gy_t rfl) (fun hg => x_por (b := best == 0) (r := decide (1 < best)) (gd_of (c := decide ((1 : Int) ≤ 40000)) hg (B (best == 0))) rfl (fun hb => gd_of (c := ((decide ((1 : Int) ≤ 40000)) && !(best == 0))) (by first | exact hb | (rw [hb]; rfl) | simp_all) (B (decide (1 < best))))) ?_
         refine s_val (x_pand (b := decide ((1 : Int) ≤ 40000)) (r := ((best == 0) || (decide (1 < best)))) rfl (fun hb => gd_of (c := decide ((1 : Int) ≤ 40000)) (by first | exact hb | (rw [hb]; rfl) | simp_all) (B ((best == 0) || (decide (1 < best))))) rfl) ?_
         refine s_val (x_mv (v := B ((decide ((1 : Int) ≤ 40000)) && ((best == 0) || (decide (1 < best))))) rfl) ?_
         refine g_val ((decide ((1 : Int) ≤ 40000)) && ((best == 0) || (decide (1 < best)))) (gy_t rfl) (fun hg => x_ld (p := .pointer (some ⟨b_1, 0, none⟩)) (v := .agg #[I n_Marks, v_n_Lines]) rfl (ldb_ag (ds := [I n_Marks, v_n_Lines]) Ag64 Sz64 (H.blk (k := 1) rfl) rfl rfl)) ?_
         refine g_val ((decide ((1 : Int) ≤ 40000)) && ((best == 0) || (decide (1 < best)))) (gy_t rfl) (fun hg => x_mv (v := I (mark : Int)) rfl) ?_
         refine g_val ((decide ((1 : Int) ≤ 40000)) && ((best == 0) || (decide (1 < best)))) (gy_t rfl) (fun hg => x_mv (v := I 1) rfl) ?_
         refine g_val ((decide ((1 : Int) ≤ 40000)) && ((best == 0) || (decide (1 < best)))) (gy_t rfl) (fun hg => x_bld (ps := [(0, I (mark : Int)), (1, I 1)]) (zs := [I 0, I 0]) (L' := [I (mark : Int), I 1]) (by exact prs2 (gd_of (c := ((decide ((1 : Int) ≤ 40000)) && ((best == 0) || (decide (1 < best))))) hg (I (mark : Int))) (gd_of (c := ((decide ((1 : Int) ≤ 40000)) && ((best == 0) || (decide (1 < best))))) hg (I 1))) Try.underlying68 Al68 rfl (Bd68 Try.underlying68) (.cons (cs := [I (mark : Int)]) rfl rfl rfl rfl rfl <| .cons (cs := [I 1]) rfl rfl rfl rfl rfl <| .nil)) ?_
         refine g_splitV ((decide ((1 : Int) ≤ 40000)) && ((best == 0) || (decide (1 < best)))) (.tuple #[]) (gy_t rfl) (fun hg_ => ?_) (fun hg_ => ?_)
         ·replace hM := M.e_t hM hg_
          obtain ⟨r51z, hx50z, hM⟩ := M.e_bind hM
          refine s_call cf70 [.agg #[I n_Marks, v_n_Lines], .agg #[I (mark : Int), I 1]] (lst2 (gd_of (c := ((decide ((1 : Int) ≤ 40000)) && ((best == 0) || (decide (1 < best))))) hg_ (.agg #[I n_Marks, v_n_Lines])) (gd_of (c := ((decide ((1 : Int) ≤ 40000)) && ((best == 0) || (decide (1 < best))))) hg_ (.agg #[I (mark : Int), I 1]))) (nilometerref01_parted_ok n_Marks n_Lines (⟨(mark : Int), (1 : Int)⟩ : Mv) (hC_n_Lines.app _) hs_n_Lines hx50z _ (St.give (T := [cOwn (α := Mv) 68 v_l l, cBlk b_1 [I n_Marks, v_n_Lines] 64]) H rfl)) ?_
          rintro vq w52z ⟨r047, r147, u0_52, hr53z, hvq, H2_⟩
          subst hr53z
          subst vq
          try dsimp only at hM
          replace H : St w w52z [cOwn (α := Line) 133 u0_52 r147, cOwn (α := Mv) 68 v_l l, cBlk b_1 [I n_Marks, v_n_Lines] 64] R := H.back H2_ rfl
          clear H2_
          obtain ⟨r4, hx54z, hM⟩ := M.e_bind hM
          refine t_gcall ((decide ((1 : Int) ≤ 40000)) && ((best == 0) || (decide (1 < best)))) (gy_t rfl) cf72 (B r4) (fun _ => [.agg #[I r047, u0_52]]) (fun _ => rfl) H (fun hg => (nilometerref01_agrees_ok r047 r147 (Reads.of (k := 0) rfl ownLe) (ownSl (H.get (k := 0) rfl)) (M.e_opt hx54z hg) _ (H.give (A := []) rfl)).mono fun v_ w_ ⟨y_, hr_, hv_, H_⟩ => by subst hr_; exact ⟨hv_, H.via H_⟩) ?_
          intro w55z H
          refine s_val (x_pand (b := ((decide ((1 : Int) ≤ 40000)) && ((best == 0) || (decide (1 < best))))) (r := r4) rfl (fun hb => gd_of (c := ((decide ((1 : Int) ≤ 40000)) && ((best == 0) || (decide (1 < best))))) (by first | exact hb | (rw [hb]; rfl) | simp_all) (B r4)) rfl) ?_
          refine s_nil ?_
          refine W.cond (((decide ((1 : Int) ≤ 40000)) && ((best == 0) || (decide (1 < best)))) && r4) rfl (fun c56z => ?_) (fun c56z => ?_)
          ·replace hM := M.e_t hM c56z
           refine W.region rfl ?_
           refine s_val (x_mv (v := I 1) rfl) ?_
           refine s_val (x_as (v := I 1) rfl) ?_
           refine s_nil ?_
           refine W.region rfl ?_
           refine s_val (x_mv (v := I i) rfl) ?_
           obtain ⟨sd57z, hM⟩ := M.e_grd hM
           simp only [Bool.and_eq_true, decide_eq_true_eq] at sd57z
           refine s_val (x_ari (a := i) (b := 1) (r := i + 1) rfl rfl rfl (by omega)) ?_
           refine s_val (x_as (v := I (i + 1)) rfl) ?_
           refine s_nil ?_
           exact ⟨m30z, lt31z, 1, i + 1, _, upds_of _ _ ⟨rfl, rfl, rfl, rfl, rfl, trivial⟩, M.e_inl hM hN33z, (H.pick [1, 2] (by decide) rfl)⟩
          ·replace hM := M.e_f hM c56z
           refine W.skip ?_
           refine W.region rfl ?_
           refine s_val (x_mv (v := I i) rfl) ?_
           obtain ⟨sd58z, hM⟩ := M.e_grd hM
           simp only [Bool.and_eq_true, decide_eq_true_eq] at sd58z
           refine s_val (x_ari (a := i) (b := 1) (r := i + 1) rfl rfl rfl (by omega)) ?_
           refine s_val (x_as (v := I (i + 1)) rfl) ?_
           refine s_nil ?_
           exact ⟨m30z, lt31z, best, i + 1, _, upds_of _ _ ⟨rfl, rfl, rfl, rfl, rfl, trivial⟩, M.e_inl hM hN33z, (H.pick [1, 2] (by decide) rfl)⟩
         ·replace hM := M.e_f hM hg_
          refine g_val (v := B false) ((decide ((1 : Int) ≤ 40000)) && ((best == 0) || (decide (1 < best)))) (gy_t rfl) (fun hg => Bool.noConfusion (hg_.symm.trans hg)) ?_
          refine s_val (x_pand0 (b := ((decide ((1 : Int) ≤ 40000)) && ((best == 0) || (decide (1 < best))))) rfl (fun hb => gd_of (c := ((decide ((1 : Int) ≤ 40000)) && ((best == 0) || (decide (1 < best))))) (by first | exact hb | (rw [hb]; rfl) | simp_all) (B false)) rfl) ?_
          refine s_nil ?_
          refine W.cond false rfl (fun c59z => ?_) (fun c59z => ?_)
          ·skip
           exact absurd c59z (by decide)
          ·skip
           refine W.skip ?_
           refine W.region rfl ?_
           refine s_val (x_mv (v := I i) rfl) ?_
           obtain ⟨sd60z, hM⟩ := M.e_grd hM
           simp only [Bool.and_eq_true, decide_eq_true_eq] at sd60z
           refine s_val (x_ari (a := i) (b := 1) (r := i + 1) rfl rfl rfl (by omega)) ?_
           refine s_val (x_as (v := I (i + 1)) rfl) ?_
           refine s_nil ?_
           exact ⟨m30z, lt31z, best, i + 1, _, upds_of _ _ ⟨rfl, rfl, rfl, rfl, rfl, trivial⟩, M.e_inl hM hN33z, H⟩
       ·replace hM := M.e_f hM c35z
        simp only [decide_eq_true_eq, decide_eq_false_iff_not, beq_iff_eq, bne_iff_ne, beq_eq_false_iff_ne, bne_eq_false_iff_eq, ne_eq, Decidable.not_not] at c35z
        refine W.exit ?_
        have hX61z := M.e_inr hM hN33z
        subst hX61z
        replace hM := hk26z
        try dsimp only at hM
        refine W.seq ?_
        refine W.region rfl ?_
        refine s_val (x_mv (v := I best) rfl) ?_
        refine s_val (x_cmp (kd := .i64) (a := best) (b := 0) (r := decide (0 < best)) rfl rfl rfl) ?_
        refine s_nil ?_
        refine W.cond (decide (0 < best)) rfl (fun c62z => ?_) (fun c62z => ?_)
        ·replace hM := M.e_t hM c62z
         simp only [decide_eq_true_eq, decide_eq_false_iff_not, beq_iff_eq, bne_iff_ne, beq_eq_false_iff_ne, bne_eq_false_iff_eq, ne_eq, Decidable.not_not] at c62z
         refine W.region rfl ?_
         refine s_val (x_mv (v := v_l) rfl) ?_
         refine s_val (x_mv (v := I (mark : Int)) rfl) ?_
         refine s_val (x_mv (v := I best) rfl) ?_
         refine s_val (x_bld (ps := [(0, I (mark : Int)), (1, I best)]) (zs := [I 0, I 0]) (L' := [I (mark : Int), I best]) rfl Try.underlying68 Al68 rfl (Bd68 Try.underlying68) (.cons (cs := [I (mark : Int)]) rfl rfl rfl rfl rfl <| .cons (cs := [I best]) rfl rfl rfl rfl rfl <| .nil)) ?_
         refine t_bs (α := Mv) T71 [.agg #[I (mark : Int), I best]] [(⟨(mark : Int), (best : Int)⟩ : Mv)] H rfl (.cons rfl (Flat.rep_enc _ (⟨(mark : Int), (best : Int)⟩ : Mv)) <| .nil) rfl rfl rfl ?_
         intro v63z w64z H
         obtain ⟨sd65z, hM⟩ := M.e_grd hM
         simp only [Bool.and_eq_true, decide_eq_true_eq] at sd65z
         refine t_app (α := Mv) (k := 1) (l := l) (l2 := [(⟨(mark : Int), (best : Int)⟩ : Mv)]) (l' := l ++ ([(⟨(mark : Int), (best : Int)⟩ : Mv)])) (vy := v63z) T71 rfl H rfl rfl rfl (ownSl (H.get (k := 0) rfl)) (ownLe _ (H.get (k := 0) rfl)) (rfl) (by first | omega | (simp only [List.length_nil] at *; omega)) ?_
         intro v66z w67z H
         replace H : St w w67z [cOwn (α := Mv) 68 v63z ([(⟨(mark : Int), (best : Int)⟩ : Mv)]), cOwn (α := Mv) 68 v66z (l ++ ([(⟨(mark : Int), (best : Int)⟩ : Mv)])), cBlk b_1 [I n_Marks, v_n_Lines] 64] R := H
         refine s_val (x_as (v := v66z) rfl) ?_
         refine s_nil ?_
         refine W.region rfl ?_
         refine s_val (x_mv (v := I (mark : Int)) rfl) ?_
         obtain ⟨sd68z, hM⟩ := M.e_grd hM
         simp only [Bool.and_eq_true, decide_eq_true_eq] at sd68z
         refine s_val (x_ari (a := (mark : Int)) (b := 1) (r := (mark : Int) + 1) rfl rfl rfl (by omega)) ?_
         refine s_val (x_as (v := I ((mark : Int) + 1)) rfl) ?_
         refine s_nil ?_
         exact ⟨m19z, lt20z, mark + 1, l ++ ([(⟨(mark : Int), (best : Int)⟩ : Mv)]), v66z, _, upds_of _ _ ⟨rfl, rfl, rfl, trivial⟩, M.e_inl hM hN22z, (H.pick [1, 2] (by decide) rfl)⟩
        ·replace hM := M.e_f hM c62z
         simp only [decide_eq_true_eq, decide_eq_false_iff_not, beq_iff_eq, bne_iff_ne, beq_eq_false_iff_ne, bne_eq_false_iff_eq, ne_eq, Decidable.not_not] at c62z
         refine W.skip ?_
         refine W.region rfl ?_
         refine s_val (x_mv (v := I (mark : Int)) rfl) ?_
         obtain ⟨sd69z, hM⟩ := M.e_grd hM
         simp only [Bool.and_eq_true, decide_eq_true_eq] at sd69z
         refine s_val (x_ari (a := (mark : Int)) (b := 1) (r := (mark : Int) + 1) rfl rfl rfl (by omega)) ?_
         refine s_val (x_as (v := I ((mark : Int) + 1)) rfl) ?_
         refine s_nil ?_
         exact ⟨m19z, lt20z, mark + 1, l, v_l, _, upds_of _ _ ⟨rfl, rfl, rfl, trivial⟩, M.e_inl hM hN22z, H⟩
     ·replace hM := M.e_f hM c23z
      simp only [decide_eq_true_eq, decide_eq_false_iff_not, beq_iff_eq, bne_iff_ne, beq_eq_false_iff_ne, bne_eq_false_iff_eq, ne_eq, Decidable.not_not] at c23z
      refine W.exit ?_
      have hX70z := M.e_inr hM hN22z
      subst hX70z
      replace hM := hk15z
      try dsimp only at hM
      refine W.seq ?_
      refine W.region rfl ?_
      refine s_val (x_mv (v := v_l) rfl) ?_
      refine s_val (x_as (v := v_l) rfl) ?_
      refine s_val (x_as (v := I 0) rfl) ?_
      refine s_nil ?_
      refine W.ret ?_
      have hr_ := M.e_pure hM
      exact ⟨_, resE_tmp2 rfl, ⟨l, 0, v_l, hr_, rfl, (H.pick [0] (by decide) rfl)⟩⟩

def m_nilometerref01_Convict (n_Marks : Int) (n_Lines : List Line) : M (Int × Int) :=
  M.bind (m_nilometerref01_Moves n_Marks n_Lines) fun (r0, r1) =>
  bif r1 != 0 then (
  M.pure (0, r1))
  else (
  bif (r0.length : Int) == 0 then (
  M.pure (0, 5))
  else (
  bif decide (1 < (r0.length : Int)) then (
  M.pure (0, 11))
  else (
  M.grd (decide (0 < (r0.length : Int))) <|
  M.pure (((r0.getD 0 default).mark), 0))))
set_option maxRecDepth 100000 in
set_option maxHeartbeats 16000000 in
theorem nilometerref01_Convict_ok {R : List Chunk} {C_n_Lines : Cells} {v_n_Lines : Value} (n_Marks : Int) (n_Lines : List Line) (hC_n_Lines : Reads R C_n_Lines) (hs_n_Lines : Sl C_n_Lines v_n_Lines n_Lines) {r : (Int × Int)} (hM : (m_nilometerref01_Convict n_Marks n_Lines).Ends r) (w : World) (H : St w w [] R) : Ret Try.prog 33 #[.agg #[I n_Marks, v_n_Lines]] w fun v w' => ∃ (y0 : Int) (y1 : Int), (y0, y1) = r ∧ v = .tuple #[I y0, I y1] ∧ St w w' [] R := by
 refine ret_of_W Try.func33 rfl rfl rfl ?_
 refine W.seq ?_
 refine W.region rfl ?_
 refine t_box (v := .agg #[I n_Marks, v_n_Lines]) (cs := [I n_Marks, v_n_Lines]) H rfl rfl ?_
 intro b_1 w1z H
 refine s_val (x_as (v := I 0) rfl) ?_
 refine s_val (x_as (v := I 0) rfl) ?_
 refine s_nil ?_
 refine W.seq ?_
 refine W.region rfl ?_
 refine s_val (x_ld (p := .pointer (some ⟨b_1, 0, none⟩)) (v := .agg #[I n_Marks, v_n_Lines]) rfl (ldb_ag (ds := [I n_Marks, v_n_Lines]) Ag64 Sz64 (H.blk (k := 0) rfl) rfl rfl)) ?_
 obtain ⟨r3z, hx2z, hM⟩ := M.e_bind hM
 refine s_call cf31 [.agg #[I n_Marks, v_n_Lines]] rfl (nilometerref01_Moves_ok n_Marks n_Lines (hC_n_Lines.app _) hs_n_Lines hx2z _ (St.give (T := [cBlk b_1 [I n_Marks, v_n_Lines] 64]) H rfl)) ?_
 rintro vq w4z ⟨r0, r1, u0_2, hr5z, hvq, H2_⟩
 subst hr5z
 subst vq
 try dsimp only at hM
 replace H : St w w4z [cOwn (α := Mv) 68 u0_2 r0, cBlk b_1 [I n_Marks, v_n_Lines] 64] R := H.back H2_ rfl
 clear H2_
 refine s_val (x_mv (v := .tuple #[u0_2, I r1]) rfl) ?_
 refine s_val (x_ext (vs := [u0_2, I r1]) (v := u0_2) rfl rfl) ?_
 refine s_val (x_ext (vs := [u0_2, I r1]) (v := I r1) rfl rfl) ?_
 refine s_val (x_as (v := u0_2) rfl) ?_
 refine s_val (x_as (v := I r1) rfl) ?_
 refine s_nil ?_
 refine W.seq ?_
 refine W.seq ?_
 refine W.region rfl ?_
 refine s_val (x_mv (v := I r1) rfl) ?_
 refine s_val (x_cmp (kd := .i64) (a := r1) (b := 0) (r := r1 != 0) rfl rfl rfl) ?_
 refine s_nil ?_
 refine W.cond (r1 != 0) rfl (fun c6z => ?_) (fun c6z => ?_)
 ·replace hM := M.e_t hM c6z
  simp only [decide_eq_true_eq, decide_eq_false_iff_not, beq_iff_eq, bne_iff_ne, beq_eq_false_iff_ne, bne_eq_false_iff_eq, ne_eq, Decidable.not_not] at c6z
  refine W.seq ?_
  refine W.region rfl ?_
  refine s_val (x_mv (v := I r1) rfl) ?_
  refine s_val (x_as (v := I 0) rfl) ?_
  refine s_val (x_as (v := I r1) rfl) ?_
  refine s_nil ?_
  refine W.ret ?_
  have hr_ := M.e_pure hM
  exact ⟨_, resE_tmp2 rfl, ⟨0, r1, hr_, rfl, (H.pick [] (by decide) rfl)⟩⟩
 ·replace hM := M.e_f hM c6z
  simp only [decide_eq_true_eq, decide_eq_false_iff_not, beq_iff_eq, bne_iff_ne, beq_eq_false_iff_ne, bne_eq_false_iff_eq, ne_eq, Decidable.not_not] at c6z
  refine W.skip ?_
  refine W.seq ?_
  refine W.seq ?_
  refine W.region rfl ?_
  refine s_val (x_mv (v := u0_2) rfl) ?_
  have hl7z := ((ownSl (H.get (k := 0) rfl))).len_le
  refine s_val (x_lenS T71.und rfl (ownSl (H.get (k := 0) rfl))) ?_
  refine s_val (x_cmp (kd := .i64) (a := (r0.length : Int)) (b := 0) (r := (r0.length : Int) == 0) rfl rfl rfl) ?_
  refine s_nil ?_
  refine W.cond ((r0.length : Int) == 0) rfl (fun c8z => ?_) (fun c8z => ?_)
  ·replace hM := M.e_t hM c8z
   simp only [decide_eq_true_eq, decide_eq_false_iff_not, beq_iff_eq, bne_iff_ne, beq_eq_false_iff_ne, bne_eq_false_iff_eq, ne_eq, Decidable.not_not] at c8z
   refine W.seq ?_
   refine W.region rfl ?_
   refine s_val (x_as (v := I 0) rfl) ?_
   refine s_val (x_as (v := I 5) rfl) ?_
   refine s_nil ?_
   refine W.ret ?_
   have hr_ := M.e_pure hM
   exact ⟨_, resE_tmp2 rfl, ⟨0, 5, hr_, rfl, (H.pick [] (by decide) rfl)⟩⟩
  ·replace hM := M.e_f hM c8z
   simp only [decide_eq_true_eq, decide_eq_false_iff_not, beq_iff_eq, bne_iff_ne, beq_eq_false_iff_ne, bne_eq_false_iff_eq, ne_eq, Decidable.not_not] at c8z
   refine W.skip ?_
   refine W.seq ?_
   refine W.seq ?_
   refine W.region rfl ?_
   refine s_val (x_mv (v := u0_2) rfl) ?_
   have hl9z := ((ownSl (H.get (k := 0) rfl))).len_le
   refine s_val (x_lenS T71.und rfl (ownSl (H.get (k := 0) rfl))) ?_
   refine s_val (x_cmp (kd := .i64) (a := (r0.length : Int)) (b := 1) (r := decide (1 < (r0.length : Int))) rfl rfl rfl) ?_
   refine s_nil ?_
   refine W.cond (decide (1 < (r0.length : Int))) rfl (fun c10z => ?_) (fun c10z => ?_)
   ·replace hM := M.e_t hM c10z
    simp only [decide_eq_true_eq, decide_eq_false_iff_not, beq_iff_eq, bne_iff_ne, beq_eq_false_iff_ne, bne_eq_false_iff_eq, ne_eq, Decidable.not_not] at c10z
    refine W.seq ?_
    refine W.region rfl ?_
    refine s_val (x_as (v := I 0) rfl) ?_
    refine s_val (x_as (v := I 11) rfl) ?_
    refine s_nil ?_
    refine W.ret ?_
    have hr_ := M.e_pure hM
    exact ⟨_, resE_tmp2 rfl, ⟨0, 11, hr_, rfl, (H.pick [] (by decide) rfl)⟩⟩
   ·replace hM := M.e_f hM c10z
    simp only [decide_eq_true_eq, decide_eq_false_iff_not, beq_iff_eq, bne_iff_ne, beq_eq_false_iff_ne, bne_eq_false_iff_eq, ne_eq, Decidable.not_not] at c10z
    refine W.skip ?_
    refine W.seq ?_
    refine W.region rfl ?_
    refine s_val (x_mv (v := u0_2) rfl) ?_
    obtain ⟨sd11z, hM⟩ := M.e_grd hM
    simp only [Bool.and_eq_true, decide_eq_true_eq] at sd11z
    refine s_val (x_ix (a := u0_2) (b := I 0) (v := vat u0_2 2 (Int.toNat 0)) rfl rfl (Sl.ix (α := Mv) T71.und T71.size (ownSl (H.get (k := 0) rfl)) (by omega) (by omega))) ?_
    refine s_val (x_fa (a := vat u0_2 2 (Int.toNat 0)) (v := fat (vat u0_2 2 (Int.toNat 0)) 0) rfl (fa_pl Fd68_0 Sz3 (Sl.pl (i := 0) (ownSl (H.get (k := 0) rfl)) (by omega) (by omega)))) ?_
    refine s_val (x_ld (p := fat (vat u0_2 2 (Int.toNat 0)) 0) (v := I ((r0.getD 0 default).mark)) rfl (ld_sc Sc3 (At.mono (Mv_at0 (ownSl (H.get (k := 0) rfl)) (i := 0) (by omega) (by omega)) (ownLe _ (H.get (k := 0) rfl))))) ?_
    refine s_val (x_as (v := I ((r0.getD 0 default).mark)) rfl) ?_
    refine s_val (x_as (v := I 0) rfl) ?_
    refine s_nil ?_
    refine W.ret ?_
    have hr_ := M.e_pure hM
    exact ⟨_, resE_tmp2 rfl, ⟨((r0.getD 0 default).mark), 0, hr_, rfl, (H.pick [] (by decide) rfl)⟩⟩

def m_nilometerlaw01_LevelMoves_b0 (r04 : List Mv) (r06 : List Mv) : Nat → M (Nat ⊕ (Unit ⊕ Unit)) := fun s =>
  bif decide ((s : Int) < (r04.length : Int)) then (
  M.grd (decide ((s : Int) < (r04.length : Int))) <|
  M.grd (decide ((s : Int) < (r06.length : Int))) <|
  bif !(decide ((r04.getD s default) = (r06.getD s default))) then (
  M.pure (.inr (.inl ())))
  else (
  M.pure (.inl (s + 1))))
  else (
  M.pure (.inr (.inr ())))
def m_nilometerlaw01_LevelMoves (n_Marks : Int) (n_Lines : List Line) (m_ : Mv) : M Bool :=
  bif decide (35 < (n_Lines.length : Int)) then (
  M.bind (m_nilometerlaw01_awake) fun r2 =>
  M.pure r2)
  else (
  M.bind (m_nilometerlaw01_CopyNet n_Marks n_Lines) fun (r0, r1) =>
  M.bind (m_level_Part r0 r1 m_) fun (r00, r01, r12) =>
  M.bind (m_nilometerlaw01_Net n_Marks n_Lines) fun (r02, r13) =>
  M.bind (m_nilometerref01_Part r02 r13 m_) fun (r002, r012, r14) =>
  M.bind (m_nilometerlaw01_plain r002 r012) fun (r03, r15) =>
  M.bind (m_nilometerlaw01_same r00 r01 r03 r15) fun r3 =>
  bif ((!r3) || (r12 != r14)) then (
  M.pure false)
  else (
  M.bind (m_level_Moves r0 r1) fun (r04, r16) =>
  M.bind (m_nilometerlaw01_Net n_Marks n_Lines) fun (r05, r17) =>
  M.bind (m_nilometerref01_Moves r05 r17) fun (r06, r18) =>
  bif (((r04.length : Int) != (r06.length : Int)) || (r16 != r18)) then (
  M.pure false)
  else (
  M.bind (M.iter (m_nilometerlaw01_LevelMoves_b0 r04 r06) 0) fun x_ => match x_ with
  | (.inl (_ : Unit)) => (
  M.pure false)
  | (.inr (_ : Unit)) => (
  M.bind (m_level_Convict r0 r1) fun (r07, r19) =>
  M.bind (m_nilometerlaw01_Net n_Marks n_Lines) fun (r08, r110) =>
  M.bind (m_nilometerref01_Convict r08 r110) fun (r09, r111) =>
  M.bind (M.opt ((r07 == r09) && (r19 == r111)) (m_nilometerlaw01_same r0 r1 n_Marks n_Lines) false) fun r4 =>
  M.bind (M.opt (((r07 == r09) && (r19 == r111)) && r4) (m_nilometerlaw01_awake) false) fun r5 =>
  M.pure ((((r07 == r09) && (r19 == r111)) && r4) && r5)))))
set_option maxRecDepth 100000 in
set_option maxHeartbeats 16000000 in
theorem nilometerlaw01_LevelMoves_ok {R : List Chunk} {C_n_Lines : Cells} {v_n_Lines : Value} (n_Marks : Int) (n_Lines : List Line) (m_ : Mv) (hC_n_Lines : Reads R C_n_Lines) (hs_n_Lines : Sl C_n_Lines v_n_Lines n_Lines) {r : Bool} (hM : (m_nilometerlaw01_LevelMoves n_Marks n_Lines m_).Ends r) (w : World) (H : St w w [] R) : Ret Try.prog 7 #[.agg #[I n_Marks, v_n_Lines], .agg #[I m_.mark, I m_.day]] w fun v w' => ∃ (y0 : Bool), y0 = r ∧ v = B y0 ∧ St w w' [] R := by
 refine ret_of_W Try.func7 rfl rfl rfl ?_
 refine W.seq ?_
 refine W.region rfl ?_
 refine t_box (v := .agg #[I n_Marks, v_n_Lines]) (cs := [I n_Marks, v_n_Lines]) H rfl rfl ?_
 intro b_1 w1z H
 refine t_box (v := .agg #[I m_.mark, I m_.day]) (cs := [I m_.mark, I m_.day]) H rfl rfl ?_
 intro b_2 w2z H
 refine s_val (x_as (v := B false) rfl) ?_
 refine s_nil ?_
 refine W.seq ?_
 refine W.seq ?_
 refine W.region rfl ?_
 refine s_val (x_fa (a := .pointer (some ⟨b_1, 0, none⟩)) (v := .pointer (some ⟨b_1, 1, none⟩)) rfl (fa_blk (o := 0) Fd25_1 Sz23)) ?_
 refine s_val (x_ld (p := .pointer (some ⟨b_1, 1, none⟩)) (v := v_n_Lines) rfl (ldb_sc Sc23 (H.blk (k := 1) rfl) rfl)) ?_
 have hl3z := (hs_n_Lines).len_le
 refine s_val (x_lenS T23.und rfl hs_n_Lines) ?_
 refine s_val (x_cmp (kd := .i64) (a := (n_Lines.length : Int)) (b := 35) (r := decide (35 < (n_Lines.length : Int))) rfl rfl rfl) ?_
 refine s_nil ?_
 refine W.cond (decide (35 < (n_Lines.length : Int))) rfl (fun c4z => ?_) (fun c4z => ?_)
 ·replace hM := M.e_t hM c4z
  simp only [decide_eq_true_eq, decide_eq_false_iff_not, beq_iff_eq, bne_iff_ne, beq_eq_false_iff_ne, bne_eq_false_iff_eq, ne_eq, Decidable.not_not] at c4z
  refine W.seq ?_
  refine W.region rfl ?_
  obtain ⟨r6z, hx5z, hM⟩ := M.e_bind hM
  refine s_call cf18 [] rfl (nilometerlaw01_awake_ok hx5z _ (St.give (T := [cBlk b_2 [I m_.mark, I m_.day] 50, cBlk b_1 [I n_Marks, v_n_Lines] 25]) H rfl)) ?_
  rintro vq w7z ⟨r2, hr8z, hvq, H2_⟩
  subst hr8z
  subst vq
  try dsimp only at hM
  replace H : St w w7z [cBlk b_2 [I m_.mark, I m_.day] 50, cBlk b_1 [I n_Marks, v_n_Lines] 25] R := H.back H2_ rfl
  clear H2_
  refine s_val (x_as (v := B r2) rfl) ?_
  refine s_nil ?_
  refine W.ret ?_
  have hr_ := M.e_pure hM
  exact ⟨_, resE_tmp rfl, ⟨r2, hr_, rfl, (H.pick [] (by decide) rfl)⟩⟩
 ·replace hM := M.e_f hM c4z
  simp only [decide_eq_true_eq, decide_eq_false_iff_not, beq_iff_eq, bne_iff_ne, beq_eq_false_iff_ne, bne_eq_false_iff_eq, ne_eq, Decidable.not_not] at c4z
  refine W.skip ?_
  refine W.seq ?_
  refine W.region rfl ?_
  refine s_val (x_ld (p := .pointer (some ⟨b_1, 0, none⟩)) (v := .agg #[I n_Marks, v_n_Lines]) rfl (ldb_ag (ds := [I n_Marks, v_n_Lines]) Ag25 Sz25 (H.blk (k := 1) rfl) rfl rfl)) ?_
  obtain ⟨r10z, hx9z, hM⟩ := M.e_bind hM
  refine s_call cf15 [.agg #[I n_Marks, v_n_Lines]] rfl (nilometerlaw01_CopyNet_ok n_Marks n_Lines (hC_n_Lines.app _) hs_n_Lines hx9z _ (St.give (T := [cBlk b_2 [I m_.mark, I m_.day] 50, cBlk b_1 [I n_Marks, v_n_Lines] 25]) H rfl)) ?_
  rintro vq w11z ⟨r0, r1, u0_3, hr12z, hvq, H2_⟩
  subst hr12z
  subst vq
  try dsimp only at hM
  replace H : St w w11z [cOwn (α := Line) 34 u0_3 r1, cBlk b_2 [I m_.mark, I m_.day] 50, cBlk b_1 [I n_Marks, v_n_Lines] 25] R := H.back H2_ rfl
  clear H2_
  refine t_alloc (cs := [I 0, .slice none 0 0]) H Al25 rfl ?_
  intro b_4 w13z H
  refine t_st (k := 0) (b := b_4) (off := 0) (cs := [I 0, .slice none 0 0]) (vs := [I r0, u0_3]) (cs' := [I r0, u0_3]) (v := .agg #[I r0, u0_3]) (L' := [cBlk b_4 [I r0, u0_3] 25, cOwn (α := Line) 34 u0_3 r1, cBlk b_2 [I m_.mark, I m_.day] 50, cBlk b_1 [I n_Marks, v_n_Lines] 25]) H rfl rfl rfl Sz25 rfl rfl rfl (by simp only [List.all_cons, List.all_nil, Bool.true_and, Bool.and_true, Sl.oc (ownSl (H.get (k := 1) rfl))]; try rfl) rfl rfl ?_
  intro w14z H
  refine s_nil ?_
  refine W.seq ?_
  refine W.region rfl ?_
  refine s_val (x_ld (p := .pointer (some ⟨b_4, 0, none⟩)) (v := .agg #[I r0, u0_3]) rfl (ldb_ag (ds := [I r0, u0_3]) Ag25 Sz25 (H.blk (k := 0) rfl) rfl rfl)) ?_
  refine s_val (x_ld (p := .pointer (some ⟨b_2, 0, none⟩)) (v := .agg #[I m_.mark, I m_.day]) rfl (ldb_ag (ds := [I m_.mark, I m_.day]) Ag50 Sz50 (H.blk (k := 2) rfl) rfl rfl)) ?_
  obtain ⟨r16z, hx15z, hM⟩ := M.e_bind hM
  refine s_call cf26 [.agg #[I r0, u0_3], .agg #[I m_.mark, I m_.day]] rfl (level_Part_ok r0 r1 m_ (Reads.of (k := 1) rfl ownLe) (ownSl (H.get (k := 1) rfl)) hx15z _ (St.give (T := [cBlk b_4 [I r0, u0_3] 25, cOwn (α := Line) 34 u0_3 r1, cBlk b_2 [I m_.mark, I m_.day] 50, cBlk b_1 [I n_Marks, v_n_Lines] 25]) H rfl)) ?_
  rintro vq w17z ⟨r00, r01, r12, u0_5, hr18z, hvq, H2_⟩
  subst hr18z
  subst vq
  try dsimp only at hM
  replace H : St w w17z [cOwn (α := Line) 34 u0_5 r01, cBlk b_4 [I r0, u0_3] 25, cOwn (α := Line) 34 u0_3 r1, cBlk b_2 [I m_.mark, I m_.day] 50, cBlk b_1 [I n_Marks, v_n_Lines] 25] R := H.back H2_ rfl
  clear H2_
  refine s_val (x_mv (v := .tuple #[.agg #[I r00, u0_5], I r12]) rfl) ?_
  refine s_val (x_ext (vs := [.agg #[I r00, u0_5], I r12]) (v := .agg #[I r00, u0_5]) rfl rfl) ?_
  refine s_val (x_ext (vs := [.agg #[I r00, u0_5], I r12]) (v := I r12) rfl rfl) ?_
  refine t_alloc (cs := [I 0, .slice none 0 0]) H Al25 rfl ?_
  intro b_6 w19z H
  refine t_st (k := 0) (b := b_6) (off := 0) (cs := [I 0, .slice none 0 0]) (vs := [I r00, u0_5]) (cs' := [I r00, u0_5]) (v := .agg #[I r00, u0_5]) (L' := [cBlk b_6 [I r00, u0_5] 25, cOwn (α := Line) 34 u0_5 r01, cBlk b_4 [I r0, u0_3] 25, cOwn (α := Line) 34 u0_3 r1, cBlk b_2 [I m_.mark, I m_.day] 50, cBlk b_1 [I n_Marks, v_n_Lines] 25]) H rfl rfl rfl Sz25 rfl rfl rfl (by simp only [List.all_cons, List.all_nil, Bool.true_and, Bool.and_true, Sl.oc (ownSl (H.get (k := 1) rfl))]; try rfl) rfl rfl ?_
  intro w20z H
  refine s_val (x_as (v := I r12) rfl) ?_
  refine s_nil ?_
  refine W.seq ?_
  refine W.drawT (fun W => St w W [cBlk b_6 [I r00, u0_5] 25, cOwn (α := Line) 34 u0_5 r01, cBlk b_4 [I r0, u0_3] 25, cOwn (α := Line) 34 u0_3 r1, cBlk b_2 [I m_.mark, I m_.day] 50, cBlk b_1 [I n_Marks, v_n_Lines] 25] R) (.q 0 (.q 2 (.l2 1 (.l2 3 (.q 4 (.q 5 (.q 6 (.l 7 (.l 8 (.q 9 .nil)))))) 7 (.l 3 (.q 4 (.q 5 (.q 6 (.l 8 (.q 9 .nil))))))) 7 (.l 1 (.l 3 (.q 4 (.q 5 (.q 6 (.l 8 (.q 9 .nil)))))))))) mixed (by decide +kernel) rfl ?_
  intro w21z hx_
  replace H : St w w21z [cBlk b_6 [I r00, u0_5] 25, cOwn (α := Line) 34 u0_5 r01, cBlk b_4 [I r0, u0_3] 25, cOwn (α := Line) 34 u0_3 r1, cBlk b_2 [I m_.mark, I m_.day] 50, cBlk b_1 [I n_Marks, v_n_Lines] 25] R := H.ext hx_
  clear hx_
  refine ⟨(H.pick [0, 1, 2, 3, 4, 5] (by decide) rfl), ?_⟩
  refine t_q rfl (fun w' H => x_ld (p := .pointer (some ⟨b_1, 0, none⟩)) (v := .agg #[I n_Marks, v_n_Lines]) rfl (ldb_ag (ds := [I n_Marks, v_n_Lines]) Ag25 Sz25 (H.blk (k := 5) rfl) rfl rfl)) ?_
  refine t_q rfl (fun w' H => x_ld (p := .pointer (some ⟨b_2, 0, none⟩)) (v := .agg #[I m_.mark, I m_.day]) rfl (ldb_ag (ds := [I m_.mark, I m_.day]) Ag50 Sz50 (H.blk (k := 4) rfl) rfl rfl)) ?_
  refine t_l2 rfl rfl ?_ ?_
  ·skip
   obtain ⟨r38z, hx37z, hM⟩ := M.e_bind hM
   refine s_call cf28 [.agg #[I n_Marks, v_n_Lines]] rfl (nilometerlaw01_Net_ok n_Marks n_Lines (hC_n_Lines.app _) hs_n_Lines hx37z _ (St.give (T := [cBlk b_6 [I r00, u0_5] 25, cOwn (α := Line) 34 u0_5 r01, cBlk b_4 [I r0, u0_3] 25, cOwn (α := Line) 34 u0_3 r1, cBlk b_2 [I m_.mark, I m_.day] 50, cBlk b_1 [I n_Marks, v_n_Lines] 25]) H rfl)) ?_
   rintro vq w39z ⟨r02, r13, u0_7, hr40z, hvq, H2_⟩
   subst hr40z
   subst vq
   try dsimp only at hM
   replace H : St w w39z [cOwn (α := Line) 133 u0_7 r13, cBlk b_6 [I r00, u0_5] 25, cOwn (α := Line) 34 u0_5 r01, cBlk b_4 [I r0, u0_3] 25, cOwn (α := Line) 34 u0_3 r1, cBlk b_2 [I m_.mark, I m_.day] 50, cBlk b_1 [I n_Marks, v_n_Lines] 25] R := H.back H2_ rfl
   clear H2_
   have hvc_q41z := Sl.cells (ownSl (H.get (k := 0) rfl))
   have hvo_q41z := Sl.oc (ownSl (H.get (k := 0) rfl))
   refine s_nil ⟨(H.pick [1, 2, 3, 4, 5, 6] (by decide) rfl), ?_⟩
   refine t_l2 rfl rfl ?_ ?_
   ·skip
    obtain ⟨r54z, hx53z, hM⟩ := M.e_bind hM
    refine s_call cf27 [.agg #[I r02, u0_7], .agg #[I m_.mark, I m_.day]] rfl (nilometerref01_Part_ok r02 r13 m_ (Reads.of (k := 0) rfl ownLe) (ownSl (H.get (k := 0) rfl)) hx53z _ (St.give (T := [cOwn (α := Line) 133 u0_7 r13, cBlk b_6 [I r00, u0_5] 25, cOwn (α := Line) 34 u0_5 r01, cBlk b_4 [I r0, u0_3] 25, cOwn (α := Line) 34 u0_3 r1, cBlk b_2 [I m_.mark, I m_.day] 50, cBlk b_1 [I n_Marks, v_n_Lines] 25]) H rfl)) ?_
    rintro vq w55z ⟨r002, r012, r14, u0_8, hr56z, hvq, H2_⟩
    subst hr56z
    subst vq
    try dsimp only at hM
    replace H : St w w55z [cOwn (α := Line) 133 u0_8 r012, cOwn (α := Line) 133 u0_7 r13, cBlk b_6 [I r00, u0_5] 25, cOwn (α := Line) 34 u0_5 r01, cBlk b_4 [I r0, u0_3] 25, cOwn (α := Line) 34 u0_3 r1, cBlk b_2 [I m_.mark, I m_.day] 50, cBlk b_1 [I n_Marks, v_n_Lines] 25] R := H.back H2_ rfl
    clear H2_
    have hvc_q57z := Sl.cells (ownSl (H.get (k := 0) rfl))
    have hvo_q57z := Sl.oc (ownSl (H.get (k := 0) rfl))
    refine s_nil ⟨(H.pick [2, 3, 4, 5, 6, 7] (by decide) rfl), ?_⟩
    refine t_q rfl (fun w' H => x_mv (v := .tuple #[.agg #[I r002, u0_8], I r14]) rfl) ?_
    refine t_q rfl (fun w' H => x_ext (vs := [.agg #[I r002, u0_8], I r14]) (v := .agg #[I r002, u0_8]) rfl rfl) ?_
    refine t_q rfl (fun w' H => x_ext (vs := [.agg #[I r002, u0_8], I r14]) (v := I r14) rfl rfl) ?_
    refine t_l rfl ?_
    refine t_alloc (cs := [I 0, .slice none 0 0]) H Al64 rfl ?_
    intro b_9 w58z H
    refine s_nil ⟨(H.pick [3, 4, 5, 6, 7, 8] (by decide) rfl), ?_⟩
    refine t_l rfl ?_
    refine t_st (k := 0) (b := b_9) (off := 0) (cs := [I 0, .slice none 0 0]) (vs := [I r002, u0_8]) (cs' := [I r002, u0_8]) (v := .agg #[I r002, u0_8]) (L' := [cBlk b_9 [I r002, u0_8] 64, cOwn (α := Line) 133 u0_8 r012, cOwn (α := Line) 133 u0_7 r13, cBlk b_6 [I r00, u0_5] 25, cOwn (α := Line) 34 u0_5 r01, cBlk b_4 [I r0, u0_3] 25, cOwn (α := Line) 34 u0_3 r1, cBlk b_2 [I m_.mark, I m_.day] 50, cBlk b_1 [I n_Marks, v_n_Lines] 25]) H rfl rfl rfl Sz64 rfl rfl rfl (by simp only [List.all_cons, List.all_nil, Bool.true_and, Bool.and_true, Sl.oc (ownSl (H.get (k := 1) rfl))]; try rfl) rfl rfl ?_
    intro w59z H
    refine s_nil ⟨(H.pick [3, 4, 5, 6, 7, 8] (by decide) rfl), ?_⟩
    refine t_q rfl (fun w' H => x_as (v := I r14) rfl) ?_
    refine t_nil ?_
    refine W.seq ?_
    refine W.seq ?_
    refine W.draw (fun W => St w W [cBlk b_9 [I r002, u0_8] 64, cOwn (α := Line) 133 u0_8 r012, cOwn (α := Line) 133 u0_7 r13, cBlk b_6 [I r00, u0_5] 25, cOwn (α := Line) 34 u0_5 r01, cBlk b_4 [I r0, u0_3] 25, cOwn (α := Line) 34 u0_3 r1, cBlk b_2 [I m_.mark, I m_.day] 50, cBlk b_1 [I n_Marks, v_n_Lines] 25] R) [(0, true), (1, true), (2, false), (3, false), (4, true), (5, true), (6, true), (7, true), (8, true), (9, true)] mixed (by decide +kernel) rfl ?_
    intro w60z hx_
    replace H : St w w60z [cBlk b_9 [I r002, u0_8] 64, cOwn (α := Line) 133 u0_8 r012, cOwn (α := Line) 133 u0_7 r13, cBlk b_6 [I r00, u0_5] 25, cOwn (α := Line) 34 u0_5 r01, cBlk b_4 [I r0, u0_3] 25, cOwn (α := Line) 34 u0_3 r1, cBlk b_2 [I m_.mark, I m_.day] 50, cBlk b_1 [I n_Marks, v_n_Lines] 25] R := H.ext hx_
    clear hx_
    refine ⟨(H.pick [0, 1, 2, 3, 4, 5, 6, 7, 8] (by decide) rfl), ?_⟩
    refine d_q rfl (fun w' H => x_ld (p := .pointer (some ⟨b_6, 0, none⟩)) (v := .agg #[I r00, u0_5]) rfl (ldb_ag (ds := [I r00, u0_5]) Ag25 Sz25 (H.blk (k := 3) rfl) rfl rfl)) ?_
    refine d_q rfl (fun w' H => x_ld (p := .pointer (some ⟨b_9, 0, none⟩)) (v := .agg #[I r002, u0_8]) rfl (ldb_ag (ds := [I r002, u0_8]) Ag64 Sz64 (H.blk (k := 0) rfl) rfl rfl)) ?_
    refine d_l rfl ?_
    obtain ⟨r62z, hx61z, hM⟩ := M.e_bind hM
    refine s_call cf30 [.agg #[I r002, u0_8]] rfl (nilometerlaw01_plain_ok r002 r012 (Reads.of (k := 1) rfl ownLe) (ownSl (H.get (k := 1) rfl)) hx61z _ (St.give (T := [cBlk b_9 [I r002, u0_8] 64, cOwn (α := Line) 133 u0_8 r012, cOwn (α := Line) 133 u0_7 r13, cBlk b_6 [I r00, u0_5] 25, cOwn (α := Line) 34 u0_5 r01, cBlk b_4 [I r0, u0_3] 25, cOwn (α := Line) 34 u0_3 r1, cBlk b_2 [I m_.mark, I m_.day] 50, cBlk b_1 [I n_Marks, v_n_Lines] 25]) H rfl)) ?_
    rintro vq w63z ⟨r03, r15, u0_10, hr64z, hvq, H2_⟩
    subst hr64z
    subst vq
    try dsimp only at hM
    replace H : St w w63z [cOwn (α := Line) 34 u0_10 r15, cBlk b_9 [I r002, u0_8] 64, cOwn (α := Line) 133 u0_8 r012, cOwn (α := Line) 133 u0_7 r13, cBlk b_6 [I r00, u0_5] 25, cOwn (α := Line) 34 u0_5 r01, cBlk b_4 [I r0, u0_3] 25, cOwn (α := Line) 34 u0_3 r1, cBlk b_2 [I m_.mark, I m_.day] 50, cBlk b_1 [I n_Marks, v_n_Lines] 25] R := H.back H2_ rfl
    clear H2_
    have hvc_q65z := Sl.cells (ownSl (H.get (k := 0) rfl))
    have hvo_q65z := Sl.oc (ownSl (H.get (k := 0) rfl))
    refine s_nil ⟨(H.pick [1, 2, 3, 4, 5, 6, 7, 8, 9] (by decide) rfl), ?_⟩
    refine d_l rfl ?_
    obtain ⟨r67z, hx66z, hM⟩ := M.e_bind hM
    refine s_call cf29 [.agg #[I r00, u0_5], .agg #[I r03, u0_10]] rfl (nilometerlaw01_same_ok r00 r01 r03 r15 (Reads.of (k := 5) rfl ownLe) (ownSl (H.get (k := 5) rfl)) (Reads.of (k := 0) rfl ownLe) (ownSl (H.get (k := 0) rfl)) hx66z _ (St.give (T := [cOwn (α := Line) 34 u0_10 r15, cBlk b_9 [I r002, u0_8] 64, cOwn (α := Line) 133 u0_8 r012, cOwn (α := Line) 133 u0_7 r13, cBlk b_6 [I r00, u0_5] 25, cOwn (α := Line) 34 u0_5 r01, cBlk b_4 [I r0, u0_3] 25, cOwn (α := Line) 34 u0_3 r1, cBlk b_2 [I m_.mark, I m_.day] 50, cBlk b_1 [I n_Marks, v_n_Lines] 25]) H rfl)) ?_
    rintro vq w68z ⟨r3, hr69z, hvq, H2_⟩
    subst hr69z
    subst vq
    try dsimp only at hM
    replace H : St w w68z [cOwn (α := Line) 34 u0_10 r15, cBlk b_9 [I r002, u0_8] 64, cOwn (α := Line) 133 u0_8 r012, cOwn (α := Line) 133 u0_7 r13, cBlk b_6 [I r00, u0_5] 25, cOwn (α := Line) 34 u0_5 r01, cBlk b_4 [I r0, u0_3] 25, cOwn (α := Line) 34 u0_3 r1, cBlk b_2 [I m_.mark, I m_.day] 50, cBlk b_1 [I n_Marks, v_n_Lines] 25] R := H.back H2_ rfl
    clear H2_
    refine s_nil ⟨(H.pick [1, 2, 3, 4, 5, 6, 7, 8, 9] (by decide) rfl), ?_⟩
    refine d_q rfl (fun w' H => x_not (b := r3) rfl) ?_
    refine d_q rfl (fun w' H => x_mv (v := B (!r3)) rfl) ?_
    refine d_qg (!(!r3)) rfl (gy_f rfl) (fun hg => (fun w' H => x_mv (v := I r12) rfl)) ?_
    refine d_qg (!(!r3)) rfl (gy_f rfl) (fun hg => (fun w' H => x_mv (v := I r14) rfl)) ?_
    refine d_qg (!(!r3)) rfl (gy_f rfl) (fun hg => (fun w' H => x_cmp (kd := .i64) (a := r12) (b := r14) (r := r12 != r14) (gd_of (c := !(!r3)) hg (I r12)) (gd_of (c := !(!r3)) hg (I r14)) rfl)) ?_
    refine d_q rfl (fun w' H => x_por (b := !r3) (r := r12 != r14) rfl rfl (fun hb => gd_of (c := !(!r3)) (by first | exact hb | (rw [hb]; rfl) | simp_all) (B (r12 != r14)))) ?_
    refine d_nil ?_
    refine W.cond ((!r3) || (r12 != r14)) rfl (fun c70z => ?_) (fun c70z => ?_)
    ·replace hM := M.e_t hM c70z
     refine W.seq ?_
     refine W.region rfl ?_
     refine s_val (x_as (v := B false) rfl) ?_
     refine s_nil ?_
     refine W.ret ?_
     have hr_ := M.e_pure hM
     exact ⟨_, resE_tmp rfl, ⟨false, hr_, rfl, (H.pick [] (by decide) rfl)⟩⟩
    ·replace hM := M.e_f hM c70z
     refine W.skip ?_
     refine W.seq ?_
     refine W.region rfl ?_
     refine s_val (x_ld (p := .pointer (some ⟨b_4, 0, none⟩)) (v := .agg #[I r0, u0_3]) rfl (ldb_ag (ds := [I r0, u0_3]) Ag25 Sz25 (H.blk (k := 6) rfl) rfl rfl)) ?_
     obtain ⟨r72z, hx71z, hM⟩ := M.e_bind hM
     refine s_call cf21 [.agg #[I r0, u0_3]] rfl (level_Moves_ok r0 r1 (Reads.of (k := 7) rfl ownLe) (ownSl (H.get (k := 7) rfl)) hx71z _ (St.give (T := [cOwn (α := Line) 34 u0_10 r15, cBlk b_9 [I r002, u0_8] 64, cOwn (α := Line) 133 u0_8 r012, cOwn (α := Line) 133 u0_7 r13, cBlk b_6 [I r00, u0_5] 25, cOwn (α := Line) 34 u0_5 r01, cBlk b_4 [I r0, u0_3] 25, cOwn (α := Line) 34 u0_3 r1, cBlk b_2 [I m_.mark, I m_.day] 50, cBlk b_1 [I n_Marks, v_n_Lines] 25]) H rfl)) ?_
     rintro vq w73z ⟨r04, r16, u0_11, hr74z, hvq, H2_⟩
     subst hr74z
     subst vq
     try dsimp only at hM
     replace H : St w w73z [cOwn (α := Mv) 50 u0_11 r04, cOwn (α := Line) 34 u0_10 r15, cBlk b_9 [I r002, u0_8] 64, cOwn (α := Line) 133 u0_8 r012, cOwn (α := Line) 133 u0_7 r13, cBlk b_6 [I r00, u0_5] 25, cOwn (α := Line) 34 u0_5 r01, cBlk b_4 [I r0, u0_3] 25, cOwn (α := Line) 34 u0_3 r1, cBlk b_2 [I m_.mark, I m_.day] 50, cBlk b_1 [I n_Marks, v_n_Lines] 25] R := H.back H2_ rfl
     clear H2_
     refine s_val (x_mv (v := .tuple #[u0_11, I r16]) rfl) ?_
     refine s_val (x_ext (vs := [u0_11, I r16]) (v := u0_11) rfl rfl) ?_
     refine s_val (x_ext (vs := [u0_11, I r16]) (v := I r16) rfl rfl) ?_
     refine s_val (x_as (v := u0_11) rfl) ?_
     refine s_val (x_as (v := I r16) rfl) ?_
     refine s_nil ?_
     refine W.seq ?_
     refine W.region rfl ?_
     refine s_val (x_ld (p := .pointer (some ⟨b_1, 0, none⟩)) (v := .agg #[I n_Marks, v_n_Lines]) rfl (ldb_ag (ds := [I n_Marks, v_n_Lines]) Ag25 Sz25 (H.blk (k := 10) rfl) rfl rfl)) ?_
     obtain ⟨r76z, hx75z, hM⟩ := M.e_bind hM
     refine s_call cf28 [.agg #[I n_Marks, v_n_Lines]] rfl (nilometerlaw01_Net_ok n_Marks n_Lines (hC_n_Lines.app _) hs_n_Lines hx75z _ (St.give (T := [cOwn (α := Mv) 50 u0_11 r04, cOwn (α := Line) 34 u0_10 r15, cBlk b_9 [I r002, u0_8] 64, cOwn (α := Line) 133 u0_8 r012, cOwn (α := Line) 133 u0_7 r13, cBlk b_6 [I r00, u0_5] 25, cOwn (α := Line) 34 u0_5 r01, cBlk b_4 [I r0, u0_3] 25, cOwn (α := Line) 34 u0_3 r1, cBlk b_2 [I m_.mark, I m_.day] 50, cBlk b_1 [I n_Marks, v_n_Lines] 25]) H rfl)) ?_
     rintro vq w77z ⟨r05, r17, u0_12, hr78z, hvq, H2_⟩
     subst hr78z
     subst vq
     try dsimp only at hM
     replace H : St w w77z [cOwn (α := Line) 133 u0_12 r17, cOwn (α := Mv) 50 u0_11 r04, cOwn (α := Line) 34 u0_10 r15, cBlk b_9 [I r002, u0_8] 64, cOwn (α := Line) 133 u0_8 r012, cOwn (α := Line) 133 u0_7 r13, cBlk b_6 [I r00, u0_5] 25, cOwn (α := Line) 34 u0_5 r01, cBlk b_4 [I r0, u0_3] 25, cOwn (α := Line) 34 u0_3 r1, cBlk b_2 [I m_.mark, I m_.day] 50, cBlk b_1 [I n_Marks, v_n_Lines] 25] R := H.back H2_ rfl
     clear H2_
     obtain ⟨r80z, hx79z, hM⟩ := M.e_bind hM
     refine s_call cf31 [.agg #[I r05, u0_12]] rfl (nilometerref01_Moves_ok r05 r17 (Reads.of (k := 0) rfl ownLe) (ownSl (H.get (k := 0) rfl)) hx79z _ (St.give (T := [cOwn (α := Line) 133 u0_12 r17, cOwn (α := Mv) 50 u0_11 r04, cOwn (α := Line) 34 u0_10 r15, cBlk b_9 [I r002, u0_8] 64, cOwn (α := Line) 133 u0_8 r012, cOwn (α := Line) 133 u0_7 r13, cBlk b_6 [I r00, u0_5] 25, cOwn (α := Line) 34 u0_5 r01, cBlk b_4 [I r0, u0_3] 25, cOwn (α := Line) 34 u0_3 r1, cBlk b_2 [I m_.mark, I m_.day] 50, cBlk b_1 [I n_Marks, v_n_Lines] 25]) H rfl)) ?_
     rintro vq w81z ⟨r06, r18, u0_13, hr82z, hvq, H2_⟩
     subst hr82z
     subst vq
     try dsimp only at hM
     replace H : St w w81z [cOwn (α := Mv) 68 u0_13 r06, cOwn (α := Line) 133 u0_12 r17, cOwn (α := Mv) 50 u0_11 r04, cOwn (α := Line) 34 u0_10 r15, cBlk b_9 [I r002, u0_8] 64, cOwn (α := Line) 133 u0_8 r012, cOwn (α := Line) 133 u0_7 r13, cBlk b_6 [I r00, u0_5] 25, cOwn (α := Line) 34 u0_5 r01, cBlk b_4 [I r0, u0_3] 25, cOwn (α := Line) 34 u0_3 r1, cBlk b_2 [I m_.mark, I m_.day] 50, cBlk b_1 [I n_Marks, v_n_Lines] 25] R := H.back H2_ rfl
     clear H2_
     refine s_val (x_mv (v := .tuple #[u0_13, I r18]) rfl) ?_
     refine s_val (x_ext (vs := [u0_13, I r18]) (v := u0_13) rfl rfl) ?_
     refine s_val (x_ext (vs := [u0_13, I r18]) (v := I r18) rfl rfl) ?_
     refine s_val (x_as (v := u0_13) rfl) ?_
     refine s_val (x_as (v := I r18) rfl) ?_
     refine s_nil ?_
     refine W.seq ?_
     refine W.seq ?_
     refine W.region rfl ?_
     refine s_val (x_mv (v := u0_11) rfl) ?_
     have hl83z := ((ownSl (H.get (k := 2) rfl))).len_le
     refine s_val (x_lenS T46.und rfl (ownSl (H.get (k := 2) rfl))) ?_
     refine s_val (x_mv (v := u0_13) rfl) ?_
     have hl84z := ((ownSl (H.get (k := 0) rfl))).len_le
     refine s_val (x_lenS T71.und rfl (ownSl (H.get (k := 0) rfl))) ?_
     refine s_val (x_cmp (kd := .i64) (a := (r04.length : Int)) (b := (r06.length : Int)) (r := (r04.length : Int) != (r06.length : Int)) rfl rfl rfl) ?_
     refine s_val (x_mv (v := B ((r04.length : Int) != (r06.length : Int))) rfl) ?_
     refine g_val (!((r04.length : Int) != (r06.length : Int))) (gy_f rfl) (fun hg => x_mv (v := I r16) rfl) ?_
     refine g_val (!((r04.length : Int) != (r06.length : Int))) (gy_f rfl) (fun hg => x_mv (v := I r18) rfl) ?_
     refine g_val (!((r04.length : Int) != (r06.length : Int))) (gy_f rfl) (fun hg => x_cmp (kd := .i64) (a := r16) (b := r18) (r := r16 != r18) (gd_of (c := !((r04.length : Int) != (r06.length : Int))) hg (I r16)) (gd_of (c := !((r04.length : Int) != (r06.length : Int))) hg (I r18)) rfl) ?_
     refine s_val (x_por (b := (r04.length : Int) != (r06.length : Int)) (r := r16 != r18) rfl rfl (fun hb => gd_of (c := !((r04.length : Int) != (r06.length : Int))) (by first | exact hb | (rw [hb]; rfl) | simp_all) (B (r16 != r18)))) ?_
     refine s_nil ?_
     refine W.cond (((r04.length : Int) != (r06.length : Int)) || (r16 != r18)) rfl (fun c85z => ?_) (fun c85z => ?_)
     ·replace hM := M.e_t hM c85z
      refine W.seq ?_
      refine W.region rfl ?_
      refine s_val (x_as (v := B false) rfl) ?_
      refine s_nil ?_
      refine W.ret ?_
      have hr_ := M.e_pure hM
      exact ⟨_, resE_tmp rfl, ⟨false, hr_, rfl, (H.pick [] (by decide) rfl)⟩⟩
     ·replace hM := M.e_f hM c85z
      refine W.skip ?_
      refine W.seq ?_
      refine W.seq ?_
      refine W.region rfl ?_
      refine s_val (x_mv (v := u0_11) rfl) ?_
      have hl86z := ((ownSl (H.get (k := 2) rfl))).len_le
      refine s_val (x_lenS T46.und rfl (ownSl (H.get (k := 2) rfl))) ?_
      refine s_val (x_mv (v := I 0) rfl) ?_
      refine s_nil ?_
      refine W.block ?_
      obtain ⟨ex87z, hi88z, hk89z⟩ := M.e_bind hM
      obtain ⟨m0_, hi88z⟩ := M.e_iter hi88z
      refine W.loop (fun m σ W => ∃ (s : Nat) (ρ : Env), σ = upds ρ [(2, .pointer (some ⟨b_1, 0, none⟩)), (5, .pointer (some ⟨b_4, 0, none⟩)), (10, u0_11), (11, u0_13), (67, I (r04.length : Int)), (68, I (s : Int))] ∧ M.iterN (m_nilometerlaw01_LevelMoves_b0 r04 r06) m s = some ex87z ∧ St w W [cOwn (α := Mv) 68 u0_13 r06, cOwn (α := Line) 133 u0_12 r17, cOwn (α := Mv) 50 u0_11 r04, cOwn (α := Line) 34 u0_10 r15, cBlk b_9 [I r002, u0_8] 64, cOwn (α := Line) 133 u0_8 r012, cOwn (α := Line) 133 u0_7 r13, cBlk b_6 [I r00, u0_5] 25, cOwn (α := Line) 34 u0_5 r01, cBlk b_4 [I r0, u0_3] 25, cOwn (α := Line) 34 u0_3 r1, cBlk b_2 [I m_.mark, I m_.day] 50, cBlk b_1 [I n_Marks, v_n_Lines] 25] R) ?_ ?_
      ·exact ⟨_, 0, _, upds_of _ _ ⟨rfl, rfl, rfl, rfl, rfl, rfl, trivial⟩, hi88z, H⟩
      ·rintro m92z σ w90z ⟨s, ρ, rfl, hI91z, H⟩
       obtain ⟨m93z, lt94z, x95z, hM, hN96z⟩ := M.e_iterN hI91z
       simp only [m_nilometerlaw01_LevelMoves_b0] at hM
       clear hI91z
       refine W.seq ?_
       refine W.region rfl ?_
       refine s_val (x_cmp (kd := .i64) (a := (s : Int)) (b := (r04.length : Int)) (r := decide ((s : Int) < (r04.length : Int))) rfl rfl rfl) ?_
       refine s_nil ?_
       refine W.seq ?_
       refine W.cond (decide ((s : Int) < (r04.length : Int))) rfl (fun c97z => ?_) (fun c97z => ?_)
       ·replace hM := M.e_t hM c97z
        simp only [decide_eq_true_eq, decide_eq_false_iff_not, beq_iff_eq, bne_iff_ne, beq_eq_false_iff_ne, bne_eq_false_iff_eq, ne_eq, Decidable.not_not] at c97z
        refine W.skip ?_
        refine W.seq ?_
        refine W.block ?_
        refine W.seq ?_
        refine W.region rfl ?_
        refine s_val (x_mv (v := I (s : Int)) rfl) ?_
        refine s_val (x_as (v := I (s : Int)) rfl) ?_
        refine s_nil ?_
        refine W.seq ?_
        refine W.draw (fun W => St w W [cOwn (α := Mv) 68 u0_13 r06, cOwn (α := Line) 133 u0_12 r17, cOwn (α := Mv) 50 u0_11 r04, cOwn (α := Line) 34 u0_10 r15, cBlk b_9 [I r002, u0_8] 64, cOwn (α := Line) 133 u0_8 r012, cOwn (α := Line) 133 u0_7 r13, cBlk b_6 [I r00, u0_5] 25, cOwn (α := Line) 34 u0_5 r01, cBlk b_4 [I r0, u0_3] 25, cOwn (α := Line) 34 u0_3 r1, cBlk b_2 [I m_.mark, I m_.day] 50, cBlk b_1 [I n_Marks, v_n_Lines] 25] R) [(0, true), (1, true), (2, true), (3, true), (4, true), (5, true), (6, true), (7, true), (8, true)] mixed (by decide +kernel) rfl ?_
        intro w98z hx_
        replace H : St w w98z [cOwn (α := Mv) 68 u0_13 r06, cOwn (α := Line) 133 u0_12 r17, cOwn (α := Mv) 50 u0_11 r04, cOwn (α := Line) 34 u0_10 r15, cBlk b_9 [I r002, u0_8] 64, cOwn (α := Line) 133 u0_8 r012, cOwn (α := Line) 133 u0_7 r13, cBlk b_6 [I r00, u0_5] 25, cOwn (α := Line) 34 u0_5 r01, cBlk b_4 [I r0, u0_3] 25, cOwn (α := Line) 34 u0_3 r1, cBlk b_2 [I m_.mark, I m_.day] 50, cBlk b_1 [I n_Marks, v_n_Lines] 25] R := H.ext hx_
        clear hx_
        refine ⟨(H.pick [0, 1, 2, 3, 4, 5, 6, 7, 8, 9, 10, 11, 12] (by decide) rfl), ?_⟩
        refine d_q rfl (fun w' H => x_mv (v := u0_11) rfl) ?_
        refine d_q rfl (fun w' H => x_mv (v := I (s : Int)) rfl) ?_
        obtain ⟨sd99z, hM⟩ := M.e_grd hM
        simp only [Bool.and_eq_true, decide_eq_true_eq] at sd99z
        refine d_q rfl (fun w' H => x_ix (a := u0_11) (b := I (s : Int)) (v := vat u0_11 2 (Int.toNat (s : Int))) rfl rfl (Sl.ix (α := Mv) T46.und T46.size (ownSl (H.get (k := 2) rfl)) (by omega) (by omega))) ?_
        refine d_q rfl (fun w' H => x_ld (p := vat u0_11 2 (Int.toNat (s : Int))) (v := .agg #[I ((r04.getD s default).mark), I ((r04.getD s default).day)]) rfl (ld_ag Ag50 Sz50 (At.mono (Mv_atA (ownSl (H.get (k := 2) rfl)) (i := (s : Int)) (by omega) (by omega)) (ownLe _ (H.get (k := 2) rfl))))) ?_
        refine d_q rfl (fun w' H => x_mv (v := u0_13) rfl) ?_
        refine d_q rfl (fun w' H => x_mv (v := I (s : Int)) rfl) ?_
        obtain ⟨sd100z, hM⟩ := M.e_grd hM
        simp only [Bool.and_eq_true, decide_eq_true_eq] at sd100z
        refine d_q rfl (fun w' H => x_ix (a := u0_13) (b := I (s : Int)) (v := vat u0_13 2 (Int.toNat (s : Int))) rfl rfl (Sl.ix (α := Mv) T71.und T71.size (ownSl (H.get (k := 0) rfl)) (by omega) (by omega))) ?_
        refine d_q rfl (fun w' H => x_ld (p := vat u0_13 2 (Int.toNat (s : Int))) (v := .agg #[I ((r06.getD s default).mark), I ((r06.getD s default).day)]) rfl (ld_ag Ag68 Sz68 (At.mono (Mv_atA (ownSl (H.get (k := 0) rfl)) (i := (s : Int)) (by omega) (by omega)) (ownLe _ (H.get (k := 0) rfl))))) ?_
        refine d_q rfl (fun w' H => x_neS (eqT68 (r04.getD s default) (r06.getD s default) _) gdT68 rfl rfl) ?_
        refine d_nil ?_
        refine W.cond (!(decide ((r04.getD s default) = (r06.getD s default)))) rfl (fun c101z => ?_) (fun c101z => ?_)
        ·replace hM := M.e_t hM c101z
         refine W.seq ?_
         refine W.region rfl ?_
         refine s_val (x_as (v := B false) rfl) ?_
         refine s_nil ?_
         refine W.ret ?_
         have hX102z := M.e_inr hM hN96z
         subst hX102z
         replace hM := hk89z
         try dsimp only at hM
         have hr_ := M.e_pure hM
         exact ⟨_, resE_tmp rfl, ⟨false, hr_, rfl, (H.pick [] (by decide) rfl)⟩⟩
        ·replace hM := M.e_f hM c101z
         refine W.skip ?_
         refine W.region rfl ?_
         refine s_val (x_ari (a := (s : Int)) (b := 1) (r := (s : Int) + 1) rfl rfl rfl (by omega)) ?_
         refine s_val (x_mv (v := I ((s : Int) + 1)) rfl) ?_
         refine s_nil ?_
         exact ⟨m93z, lt94z, s + 1, _, upds_of _ _ ⟨rfl, rfl, rfl, rfl, rfl, rfl, trivial⟩, M.e_inl hM hN96z, H⟩
       ·replace hM := M.e_f hM c97z
        simp only [decide_eq_true_eq, decide_eq_false_iff_not, beq_iff_eq, bne_iff_ne, beq_eq_false_iff_ne, bne_eq_false_iff_eq, ne_eq, Decidable.not_not] at c97z
        refine W.exit ?_
        have hX103z := M.e_inr hM hN96z
        subst hX103z
        replace hM := hk89z
        try dsimp only at hM
        refine W.seq ?_
        refine W.region rfl ?_
        refine s_val (x_ld (p := .pointer (some ⟨b_4, 0, none⟩)) (v := .agg #[I r0, u0_3]) rfl (ldb_ag (ds := [I r0, u0_3]) Ag25 Sz25 (H.blk (k := 9) rfl) rfl rfl)) ?_
        obtain ⟨r105z, hx104z, hM⟩ := M.e_bind hM
        refine s_call cf32 [.agg #[I r0, u0_3]] rfl (level_Convict_ok r0 r1 (Reads.of (k := 10) rfl ownLe) (ownSl (H.get (k := 10) rfl)) hx104z _ (St.give (T := [cOwn (α := Mv) 68 u0_13 r06, cOwn (α := Line) 133 u0_12 r17, cOwn (α := Mv) 50 u0_11 r04, cOwn (α := Line) 34 u0_10 r15, cBlk b_9 [I r002, u0_8] 64, cOwn (α := Line) 133 u0_8 r012, cOwn (α := Line) 133 u0_7 r13, cBlk b_6 [I r00, u0_5] 25, cOwn (α := Line) 34 u0_5 r01, cBlk b_4 [I r0, u0_3] 25, cOwn (α := Line) 34 u0_3 r1, cBlk b_2 [I m_.mark, I m_.day] 50, cBlk b_1 [I n_Marks, v_n_Lines] 25]) H rfl)) ?_
        rintro vq w106z ⟨r07, r19, hr107z, hvq, H2_⟩
        subst hr107z
        subst vq
        try dsimp only at hM
        replace H : St w w106z [cOwn (α := Mv) 68 u0_13 r06, cOwn (α := Line) 133 u0_12 r17, cOwn (α := Mv) 50 u0_11 r04, cOwn (α := Line) 34 u0_10 r15, cBlk b_9 [I r002, u0_8] 64, cOwn (α := Line) 133 u0_8 r012, cOwn (α := Line) 133 u0_7 r13, cBlk b_6 [I r00, u0_5] 25, cOwn (α := Line) 34 u0_5 r01, cBlk b_4 [I r0, u0_3] 25, cOwn (α := Line) 34 u0_3 r1, cBlk b_2 [I m_.mark, I m_.day] 50, cBlk b_1 [I n_Marks, v_n_Lines] 25] R := H.back H2_ rfl
        clear H2_
        refine s_val (x_mv (v := .tuple #[I r07, I r19]) rfl) ?_
        refine s_val (x_ext (vs := [I r07, I r19]) (v := I r07) rfl rfl) ?_
        refine s_val (x_ext (vs := [I r07, I r19]) (v := I r19) rfl rfl) ?_
        refine s_val (x_as (v := I r07) rfl) ?_
        refine s_val (x_as (v := I r19) rfl) ?_
        refine s_nil ?_
        refine W.seq ?_
        refine W.region rfl ?_
        refine s_val (x_ld (p := .pointer (some ⟨b_1, 0, none⟩)) (v := .agg #[I n_Marks, v_n_Lines]) rfl (ldb_ag (ds := [I n_Marks, v_n_Lines]) Ag25 Sz25 (H.blk (k := 12) rfl) rfl rfl)) ?_
        obtain ⟨r109z, hx108z, hM⟩ := M.e_bind hM
        refine s_call cf28 [.agg #[I n_Marks, v_n_Lines]] rfl (nilometerlaw01_Net_ok n_Marks n_Lines (hC_n_Lines.app _) hs_n_Lines hx108z _ (St.give (T := [cOwn (α := Mv) 68 u0_13 r06, cOwn (α := Line) 133 u0_12 r17, cOwn (α := Mv) 50 u0_11 r04, cOwn (α := Line) 34 u0_10 r15, cBlk b_9 [I r002, u0_8] 64, cOwn (α := Line) 133 u0_8 r012, cOwn (α := Line) 133 u0_7 r13, cBlk b_6 [I r00, u0_5] 25, cOwn (α := Line) 34 u0_5 r01, cBlk b_4 [I r0, u0_3] 25, cOwn (α := Line) 34 u0_3 r1, cBlk b_2 [I m_.mark, I m_.day] 50, cBlk b_1 [I n_Marks, v_n_Lines] 25]) H rfl)) ?_
        rintro vq w110z ⟨r08, r110, u0_14, hr111z, hvq, H2_⟩
        subst hr111z
        subst vq
        try dsimp only at hM
        replace H : St w w110z [cOwn (α := Line) 133 u0_14 r110, cOwn (α := Mv) 68 u0_13 r06, cOwn (α := Line) 133 u0_12 r17, cOwn (α := Mv) 50 u0_11 r04, cOwn (α := Line) 34 u0_10 r15, cBlk b_9 [I r002, u0_8] 64, cOwn (α := Line) 133 u0_8 r012, cOwn (α := Line) 133 u0_7 r13, cBlk b_6 [I r00, u0_5] 25, cOwn (α := Line) 34 u0_5 r01, cBlk b_4 [I r0, u0_3] 25, cOwn (α := Line) 34 u0_3 r1, cBlk b_2 [I m_.mark, I m_.day] 50, cBlk b_1 [I n_Marks, v_n_Lines] 25] R := H.back H2_ rfl
        clear H2_
        obtain ⟨r113z, hx112z, hM⟩ := M.e_bind hM
        refine s_call cf33 [.agg #[I r08, u0_14]] rfl (nilometerref01_Convict_ok r08 r110 (Reads.of (k := 0) rfl ownLe) (ownSl (H.get (k := 0) rfl)) hx112z _ (St.give (T := [cOwn (α := Line) 133 u0_14 r110, cOwn (α := Mv) 68 u0_13 r06, cOwn (α := Line) 133 u0_12 r17, cOwn (α := Mv) 50 u0_11 r04, cOwn (α := Line) 34 u0_10 r15, cBlk b_9 [I r002, u0_8] 64, cOwn (α := Line) 133 u0_8 r012, cOwn (α := Line) 133 u0_7 r13, cBlk b_6 [I r00, u0_5] 25, cOwn (α := Line) 34 u0_5 r01, cBlk b_4 [I r0, u0_3] 25, cOwn (α := Line) 34 u0_3 r1, cBlk b_2 [I m_.mark, I m_.day] 50, cBlk b_1 [I n_Marks, v_n_Lines] 25]) H rfl)) ?_
        rintro vq w114z ⟨r09, r111, hr115z, hvq, H2_⟩
        subst hr115z
        subst vq
        try dsimp only at hM
        replace H : St w w114z [cOwn (α := Line) 133 u0_14 r110, cOwn (α := Mv) 68 u0_13 r06, cOwn (α := Line) 133 u0_12 r17, cOwn (α := Mv) 50 u0_11 r04, cOwn (α := Line) 34 u0_10 r15, cBlk b_9 [I r002, u0_8] 64, cOwn (α := Line) 133 u0_8 r012, cOwn (α := Line) 133 u0_7 r13, cBlk b_6 [I r00, u0_5] 25, cOwn (α := Line) 34 u0_5 r01, cBlk b_4 [I r0, u0_3] 25, cOwn (α := Line) 34 u0_3 r1, cBlk b_2 [I m_.mark, I m_.day] 50, cBlk b_1 [I n_Marks, v_n_Lines] 25] R := H.back H2_ rfl
        clear H2_
        refine s_val (x_mv (v := .tuple #[I r09, I r111]) rfl) ?_
        refine s_val (x_ext (vs := [I r09, I r111]) (v := I r09) rfl rfl) ?_
        refine s_val (x_ext (vs := [I r09, I r111]) (v := I r111) rfl rfl) ?_
        refine s_val (x_as (v := I r09) rfl) ?_
        refine s_val (x_as (v := I r111) rfl) ?_
        refine s_nil ?_
        refine W.seq ?_
        refine W.region rfl ?_
        refine s_val (x_mv (v := I r07) rfl) ?_
        refine s_val (x_mv (v := I r09) rfl) ?_
        refine s_val (x_cmp (kd := .i64) (a := r07) (b := r09) (r := r07 == r09) rfl rfl rfl) ?_
        refine s_val (x_mv (v := B (r07 == r09)) rfl) ?_
        refine g_val (r07 == r09) (gy_t rfl) (fun hg => x_mv (v := I r19) rfl) ?_
        refine g_val (r07 == r09) (gy_t rfl) (fun hg => x_mv (v := I r111) rfl) ?_
        refine g_val (r07 == r09) (gy_t rfl) (fun hg => x_cmp (kd := .i64) (a := r19) (b := r111) (r := r19 == r111) (gd_of (c := r07 == r09) hg (I r19)) (gd_of (c := r07 == r09) hg (I r111)) rfl) ?_
        refine s_val (x_pand (b := r07 == r09) (r := r19 == r111) rfl (fun hb => gd_of (c := r07 == r09) (by first | exact hb | (rw [hb]; rfl) | simp_all) (B (r19 == r111))) rfl) ?_
        refine s_val (x_mv (v := B ((r07 == r09) && (r19 == r111))) rfl) ?_
        refine g_val ((r07 == r09) && (r19 == r111)) (gy_t rfl) (fun hg => x_ld (p := .pointer (some ⟨b_4, 0, none⟩)) (v := .agg #[I r0, u0_3]) rfl (ldb_ag (ds := [I r0, u0_3]) Ag25 Sz25 (H.blk (k := 10) rfl) rfl rfl)) ?_
        refine g_val ((r07 == r09) && (r19 == r111)) (gy_t rfl) (fun hg => x_ld (p := .pointer (some ⟨b_1, 0, none⟩)) (v := .agg #[I n_Marks, v_n_Lines]) rfl (ldb_ag (ds := [I n_Marks, v_n_Lines]) Ag25 Sz25 (H.blk (k := 13) rfl) rfl rfl)) ?_
        obtain ⟨r4, hx116z, hM⟩ := M.e_bind hM
        refine t_gcall ((r07 == r09) && (r19 == r111)) (gy_t rfl) cf29 (B r4) (fun _ => [.agg #[I r0, u0_3], .agg #[I n_Marks, v_n_Lines]]) (fun hg => lst2 (gd_of (c := ((r07 == r09) && (r19 == r111))) hg (.agg #[I r0, u0_3])) (gd_of (c := ((r07 == r09) && (r19 == r111))) hg (.agg #[I n_Marks, v_n_Lines]))) H (fun hg => (nilometerlaw01_same_ok r0 r1 n_Marks n_Lines (Reads.of (k := 11) rfl ownLe) (ownSl (H.get (k := 11) rfl)) (hC_n_Lines.app _) hs_n_Lines (M.e_opt hx116z hg) _ (H.give (A := []) rfl)).mono fun v_ w_ ⟨y_, hr_, hv_, H_⟩ => by subst hr_; exact ⟨hv_, H.via H_⟩) ?_
        intro w117z H
        refine s_val (x_pand (b := ((r07 == r09) && (r19 == r111))) (r := r4) rfl (fun hb => gd_of (c := ((r07 == r09) && (r19 == r111))) (by first | exact hb | (rw [hb]; rfl) | simp_all) (B r4)) rfl) ?_
        refine s_val (x_mv (v := B (((r07 == r09) && (r19 == r111)) && r4)) rfl) ?_
        obtain ⟨r5, hx118z, hM⟩ := M.e_bind hM
        refine t_gcall (((r07 == r09) && (r19 == r111)) && r4) (gy_t rfl) cf18 (B r5) (fun _ => []) (fun _ => rfl) H (fun hg => (nilometerlaw01_awake_ok (M.e_opt hx118z hg) _ (H.give (A := []) rfl)).mono fun v_ w_ ⟨y_, hr_, hv_, H_⟩ => by subst hr_; exact ⟨hv_, H.via H_⟩) ?_
        intro w119z H
        refine s_val (x_pand (b := (((r07 == r09) && (r19 == r111)) && r4)) (r := r5) rfl (fun hb => gd_of (c := (((r07 == r09) && (r19 == r111)) && r4)) (by first | exact hb | (rw [hb]; rfl) | simp_all) (B r5)) rfl) ?_
        refine s_val (x_as (v := B ((((r07 == r09) && (r19 == r111)) && r4) && r5)) rfl) ?_
        refine s_nil ?_
        refine W.ret ?_
        have hr_ := M.e_pure hM
        exact ⟨_, resE_tmp rfl, ⟨((((r07 == r09) && (r19 == r111)) && r4) && r5), hr_, rfl, (H.pick [] (by decide) rfl)⟩⟩
   ·skip
    refine t_alloc (cs := [I 0, .slice none 0 0]) H Al64 rfl ?_
    intro b_9 w120z H
    refine s_nil ⟨(H.pick [2, 3, 4, 5, 6, 7] (by decide) rfl), ?_⟩
    refine t_l rfl ?_
    obtain ⟨r122z, hx121z, hM⟩ := M.e_bind hM
    refine s_call cf27 [.agg #[I r02, u0_7], .agg #[I m_.mark, I m_.day]] rfl (nilometerref01_Part_ok r02 r13 m_ (Reads.of (k := 1) rfl ownLe) (ownSl (H.get (k := 1) rfl)) hx121z _ (St.give (T := [cBlk b_9 [I 0, .slice none 0 0] 64, cOwn (α := Line) 133 u0_7 r13, cBlk b_6 [I r00, u0_5] 25, cOwn (α := Line) 34 u0_5 r01, cBlk b_4 [I r0, u0_3] 25, cOwn (α := Line) 34 u0_3 r1, cBlk b_2 [I m_.mark, I m_.day] 50, cBlk b_1 [I n_Marks, v_n_Lines] 25]) H rfl)) ?_
    rintro vq w123z ⟨r002, r012, r14, u0_8, hr124z, hvq, H2_⟩
    subst hr124z
    subst vq
    try dsimp only at hM
    replace H : St w w123z [cOwn (α := Line) 133 u0_8 r012, cBlk b_9 [I 0, .slice none 0 0] 64, cOwn (α := Line) 133 u0_7 r13, cBlk b_6 [I r00, u0_5] 25, cOwn (α := Line) 34 u0_5 r01, cBlk b_4 [I r0, u0_3] 25, cOwn (α := Line) 34 u0_3 r1, cBlk b_2 [I m_.mark, I m_.day] 50, cBlk b_1 [I n_Marks, v_n_Lines] 25] R := H.back H2_ rfl
    clear H2_
    have hvc_q125z := Sl.cells (ownSl (H.get (k := 0) rfl))
    have hvo_q125z := Sl.oc (ownSl (H.get (k := 0) rfl))
    refine s_nil ⟨(H.pick [3, 4, 5, 6, 7, 8] (by decide) rfl), ?_⟩
    refine t_q rfl (fun w' H => x_mv (v := .tuple #[.agg #[I r002, u0_8], I r14]) rfl) ?_
    refine t_q rfl (fun w' H => x_ext (vs := [.agg #[I r002, u0_8], I r14]) (v := .agg #[I r002, u0_8]) rfl rfl) ?_
    refine t_q rfl (fun w' H => x_ext (vs := [.agg #[I r002, u0_8], I r14]) (v := I r14) rfl rfl) ?_
    refine t_l rfl ?_
    refine t_st (k := 1) (b := b_9) (off := 0) (cs := [I 0, .slice none 0 0]) (vs := [I r002, u0_8]) (cs' := [I r002, u0_8]) (v := .agg #[I r002, u0_8]) (L' := [cOwn (α := Line) 133 u0_8 r012, cBlk b_9 [I r002, u0_8] 64, cOwn (α := Line) 133 u0_7 r13, cBlk b_6 [I r00, u0_5] 25, cOwn (α := Line) 34 u0_5 r01, cBlk b_4 [I r0, u0_3] 25, cOwn (α := Line) 34 u0_3 r1, cBlk b_2 [I m_.mark, I m_.day] 50, cBlk b_1 [I n_Marks, v_n_Lines] 25]) H rfl rfl rfl Sz64 rfl rfl rfl (by simp only [List.all_cons, List.all_nil, Bool.true_and, Bool.and_true, Sl.oc (ownSl (H.get (k := 0) rfl))]; try rfl) rfl rfl ?_
    intro w126z H
    refine s_nil ⟨(H.pick [3, 4, 5, 6, 7, 8] (by decide) rfl), ?_⟩
    refine t_q rfl (fun w' H => x_as (v := I r14) rfl) ?_
    refine t_nil ?_
    refine W.seq ?_
    refine W.seq ?_
    refine W.draw (fun W => St w W [cOwn (α := Line) 133 u0_8 r012, cBlk b_9 [I r002, u0_8] 64, cOwn (α := Line) 133 u0_7 r13, cBlk b_6 [I r00, u0_5] 25, cOwn (α := Line) 34 u0_5 r01, cBlk b_4 [I r0, u0_3] 25, cOwn (α := Line) 34 u0_3 r1, cBlk b_2 [I m_.mark, I m_.day] 50, cBlk b_1 [I n_Marks, v_n_Lines] 25] R) [(0, true), (1, true), (2, false), (3, false), (4, true), (5, true), (6, true), (7, true), (8, true), (9, true)] mixed (by decide +kernel) rfl ?_
    intro w127z hx_
    replace H : St w w127z [cOwn (α := Line) 133 u0_8 r012, cBlk b_9 [I r002, u0_8] 64, cOwn (α := Line) 133 u0_7 r13, cBlk b_6 [I r00, u0_5] 25, cOwn (α := Line) 34 u0_5 r01, cBlk b_4 [I r0, u0_3] 25, cOwn (α := Line) 34 u0_3 r1, cBlk b_2 [I m_.mark, I m_.day] 50, cBlk b_1 [I n_Marks, v_n_Lines] 25] R := H.ext hx_
    clear hx_
    refine ⟨(H.pick [0, 1, 2, 3, 4, 5, 6, 7, 8] (by decide) rfl), ?_⟩
    refine d_q rfl (fun w' H => x_ld (p := .pointer (some ⟨b_6, 0, none⟩)) (v := .agg #[I r00, u0_5]) rfl (ldb_ag (ds := [I r00, u0_5]) Ag25 Sz25 (H.blk (k := 3) rfl) rfl rfl)) ?_
    refine d_q rfl (fun w' H => x_ld (p := .pointer (some ⟨b_9, 0, none⟩)) (v := .agg #[I r002, u0_8]) rfl (ldb_ag (ds := [I r002, u0_8]) Ag64 Sz64 (H.blk (k := 1) rfl) rfl rfl)) ?_
    refine d_l rfl ?_
    obtain ⟨r129z, hx128z, hM⟩ := M.e_bind hM
    refine s_call cf30 [.agg #[I r002, u0_8]] rfl (nilometerlaw01_plain_ok r002 r012 (Reads.of (k := 0) rfl ownLe) (ownSl (H.get (k := 0) rfl)) hx128z _ (St.give (T := [cOwn (α := Line) 133 u0_8 r012, cBlk b_9 [I r002, u0_8] 64, cOwn (α := Line) 133 u0_7 r13, cBlk b_6 [I r00, u0_5] 25, cOwn (α := Line) 34 u0_5 r01, cBlk b_4 [I r0, u0_3] 25, cOwn (α := Line) 34 u0_3 r1, cBlk b_2 [I m_.mark, I m_.day] 50, cBlk b_1 [I n_Marks, v_n_Lines] 25]) H rfl)) ?_
    rintro vq w130z ⟨r03, r15, u0_10, hr131z, hvq, H2_⟩
    subst hr131z
    subst vq
    try dsimp only at hM
    replace H : St w w130z [cOwn (α := Line) 34 u0_10 r15, cOwn (α := Line) 133 u0_8 r012, cBlk b_9 [I r002, u0_8] 64, cOwn (α := Line) 133 u0_7 r13, cBlk b_6 [I r00, u0_5] 25, cOwn (α := Line) 34 u0_5 r01, cBlk b_4 [I r0, u0_3] 25, cOwn (α := Line) 34 u0_3 r1, cBlk b_2 [I m_.mark, I m_.day] 50, cBlk b_1 [I n_Marks, v_n_Lines] 25] R := H.back H2_ rfl
    clear H2_
    have hvc_q132z := Sl.cells (ownSl (H.get (k := 0) rfl))
    have hvo_q132z := Sl.oc (ownSl (H.get (k := 0) rfl))
    refine s_nil ⟨(H.pick [1, 2, 3, 4, 5, 6, 7, 8, 9] (by decide) rfl), ?_⟩
    refine d_l rfl ?_
    obtain ⟨r134z, hx133z, hM⟩ := M.e_bind hM
    refine s_call cf29 [.agg #[I r00, u0_5], .agg #[I r03, u0_10]] rfl (nilometerlaw01_same_ok r00 r01 r03 r15 (Reads.of (k := 5) rfl ownLe) (ownSl (H.get (k := 5) rfl)) (Reads.of (k := 0) rfl ownLe) (ownSl (H.get (k := 0) rfl)) hx133z _ (St.give (T := [cOwn (α := Line) 34 u0_10 r15, cOwn (α := Line) 133 u0_8 r012, cBlk b_9 [I r002, u0_8] 64, cOwn (α := Line) 133 u0_7 r13, cBlk b_6 [I r00, u0_5] 25, cOwn (α := Line) 34 u0_5 r01, cBlk b_4 [I r0, u0_3] 25, cOwn (α := Line) 34 u0_3 r1, cBlk b_2 [I m_.mark, I m_.day] 50, cBlk b_1 [I n_Marks, v_n_Lines] 25]) H rfl)) ?_
    rintro vq w135z ⟨r3, hr136z, hvq, H2_⟩
    subst hr136z
    subst vq
    try dsimp only at hM
    replace H : St w w135z [cOwn (α := Line) 34 u0_10 r15, cOwn (α := Line) 133 u0_8 r012, cBlk b_9 [I r002, u0_8] 64, cOwn (α := Line) 133 u0_7 r13, cBlk b_6 [I r00, u0_5] 25, cOwn (α := Line) 34 u0_5 r01, cBlk b_4 [I r0, u0_3] 25, cOwn (α := Line) 34 u0_3 r1, cBlk b_2 [I m_.mark, I m_.day] 50, cBlk b_1 [I n_Marks, v_n_Lines] 25] R := H.back H2_ rfl
    clear H2_
    refine s_nil ⟨(H.pick [1, 2, 3, 4, 5, 6, 7, 8, 9] (by decide) rfl), ?_⟩
    refine d_q rfl (fun w' H => x_not (b := r3) rfl) ?_
    refine d_q rfl (fun w' H => x_mv (v := B (!r3)) rfl) ?_
    refine d_qg (!(!r3)) rfl (gy_f rfl) (fun hg => (fun w' H => x_mv (v := I r12) rfl)) ?_
    refine d_qg (!(!r3)) rfl (gy_f rfl) (fun hg => (fun w' H => x_mv (v := I r14) rfl)) ?_
    refine d_qg (!(!r3)) rfl (gy_f rfl) (fun hg => (fun w' H => x_cmp (kd := .i64) (a := r12) (b := r14) (r := r12 != r14) (gd_of (c := !(!r3)) hg (I r12)) (gd_of (c := !(!r3)) hg (I r14)) rfl)) ?_
    refine d_q rfl (fun w' H => x_por (b := !r3) (r := r12 != r14) rfl rfl (fun hb => gd_of (c := !(!r3)) (by first | exact hb | (rw [hb]; rfl) | simp_all) (B (r12 != r14)))) ?_
    refine d_nil ?_
    refine W.cond ((!r3) || (r12 != r14)) rfl (fun c137z => ?_) (fun c137z => ?_)
    ·replace hM := M.e_t hM c137z
     refine W.seq ?_
     refine W.region rfl ?_
     refine s_val (x_as (v := B false) rfl) ?_
     refine s_nil ?_
     refine W.ret ?_
     have hr_ := M.e_pure hM
     exact ⟨_, resE_tmp rfl, ⟨false, hr_, rfl, (H.pick [] (by decide) rfl)⟩⟩
    ·replace hM := M.e_f hM c137z
     refine W.skip ?_
     refine W.seq ?_
     refine W.region rfl ?_
     refine s_val (x_ld (p := .pointer (some ⟨b_4, 0, none⟩)) (v := .agg #[I r0, u0_3]) rfl (ldb_ag (ds := [I r0, u0_3]) Ag25 Sz25 (H.blk (k := 6) rfl) rfl rfl)) ?_
     obtain ⟨r139z, hx138z, hM⟩ := M.e_bind hM
     refine s_call cf21 [.agg #[I r0, u0_3]] rfl (level_Moves_ok r0 r1 (Reads.of (k := 7) rfl ownLe) (ownSl (H.get (k := 7) rfl)) hx138z _ (St.give (T := [cOwn (α := Line) 34 u0_10 r15, cOwn (α := Line) 133 u0_8 r012, cBlk b_9 [I r002, u0_8] 64, cOwn (α := Line) 133 u0_7 r13, cBlk b_6 [I r00, u0_5] 25, cOwn (α := Line) 34 u0_5 r01, cBlk b_4 [I r0, u0_3] 25, cOwn (α := Line) 34 u0_3 r1, cBlk b_2 [I m_.mark, I m_.day] 50, cBlk b_1 [I n_Marks, v_n_Lines] 25]) H rfl)) ?_
     rintro vq w140z ⟨r04, r16, u0_11, hr141z, hvq, H2_⟩
     subst hr141z
     subst vq
     try dsimp only at hM
     replace H : St w w140z [cOwn (α := Mv) 50 u0_11 r04, cOwn (α := Line) 34 u0_10 r15, cOwn (α := Line) 133 u0_8 r012, cBlk b_9 [I r002, u0_8] 64, cOwn (α := Line) 133 u0_7 r13, cBlk b_6 [I r00, u0_5] 25, cOwn (α := Line) 34 u0_5 r01, cBlk b_4 [I r0, u0_3] 25, cOwn (α := Line) 34 u0_3 r1, cBlk b_2 [I m_.mark, I m_.day] 50, cBlk b_1 [I n_Marks, v_n_Lines] 25] R := H.back H2_ rfl
     clear H2_
     refine s_val (x_mv (v := .tuple #[u0_11, I r16]) rfl) ?_
     refine s_val (x_ext (vs := [u0_11, I r16]) (v := u0_11) rfl rfl) ?_
     refine s_val (x_ext (vs := [u0_11, I r16]) (v := I r16) rfl rfl) ?_
     refine s_val (x_as (v := u0_11) rfl) ?_
     refine s_val (x_as (v := I r16) rfl) ?_
     refine s_nil ?_
     refine W.seq ?_
     refine W.region rfl ?_
     refine s_val (x_ld (p := .pointer (some ⟨b_1, 0, none⟩)) (v := .agg #[I n_Marks, v_n_Lines]) rfl (ldb_ag (ds := [I n_Marks, v_n_Lines]) Ag25 Sz25 (H.blk (k := 10) rfl) rfl rfl)) ?_
     obtain ⟨r143z, hx142z, hM⟩ := M.e_bind hM
     refine s_call cf28 [.agg #[I n_Marks, v_n_Lines]] rfl (nilometerlaw01_Net_ok n_Marks n_Lines (hC_n_Lines.app _) hs_n_Lines hx142z _ (St.give (T := [cOwn (α := Mv) 50 u0_11 r04, cOwn (α := Line) 34 u0_10 r15, cOwn (α := Line) 133 u0_8 r012, cBlk b_9 [I r002, u0_8] 64, cOwn (α := Line) 133 u0_7 r13, cBlk b_6 [I r00, u0_5] 25, cOwn (α := Line) 34 u0_5 r01, cBlk b_4 [I r0, u0_3] 25, cOwn (α := Line) 34 u0_3 r1, cBlk b_2 [I m_.mark, I m_.day] 50, cBlk b_1 [I n_Marks, v_n_Lines] 25]) H rfl)) ?_
     rintro vq w144z ⟨r05, r17, u0_12, hr145z, hvq, H2_⟩
     subst hr145z
     subst vq
     try dsimp only at hM
     replace H : St w w144z [cOwn (α := Line) 133 u0_12 r17, cOwn (α := Mv) 50 u0_11 r04, cOwn (α := Line) 34 u0_10 r15, cOwn (α := Line) 133 u0_8 r012, cBlk b_9 [I r002, u0_8] 64, cOwn (α := Line) 133 u0_7 r13, cBlk b_6 [I r00, u0_5] 25, cOwn (α := Line) 34 u0_5 r01, cBlk b_4 [I r0, u0_3] 25, cOwn (α := Line) 34 u0_3 r1, cBlk b_2 [I m_.mark, I m_.day] 50, cBlk b_1 [I n_Marks, v_n_Lines] 25] R := H.back H2_ rfl
     clear H2_
     obtain ⟨r147z, hx146z, hM⟩ := M.e_bind hM
     refine s_call cf31 [.agg #[I r05, u0_12]] rfl (nilometerref01_Moves_ok r05 r17 (Reads.of (k := 0) rfl ownLe) (ownSl (H.get (k := 0) rfl)) hx146z _ (St.give (T := [cOwn (α := Line) 133 u0_12 r17, cOwn (α := Mv) 50 u0_11 r04, cOwn (α := Line) 34 u0_10 r15, cOwn (α := Line) 133 u0_8 r012, cBlk b_9 [I r002, u0_8] 64, cOwn (α := Line) 133 u0_7 r13, cBlk b_6 [I r00, u0_5] 25, cOwn (α := Line) 34 u0_5 r01, cBlk b_4 [I r0, u0_3] 25, cOwn (α := Line) 34 u0_3 r1, cBlk b_2 [I m_.mark, I m_.day] 50, cBlk b_1 [I n_Marks, v_n_Lines] 25]) H rfl)) ?_
     rintro vq w148z ⟨r06, r18, u0_13, hr149z, hvq, H2_⟩
     subst hr149z
     subst vq
     try dsimp only at hM
     replace H : St w w148z [cOwn (α := Mv) 68 u0_13 r06, cOwn (α := Line) 133 u0_12 r17, cOwn (α := Mv) 50 u0_11 r04, cOwn (α := Line) 34 u0_10 r15, cOwn (α := Line) 133 u0_8 r012, cBlk b_9 [I r002, u0_8] 64, cOwn (α := Line) 133 u0_7 r13, cBlk b_6 [I r00, u0_5] 25, cOwn (α := Line) 34 u0_5 r01, cBlk b_4 [I r0, u0_3] 25, cOwn (α := Line) 34 u0_3 r1, cBlk b_2 [I m_.mark, I m_.day] 50, cBlk b_1 [I n_Marks, v_n_Lines] 25] R := H.back H2_ rfl
     clear H2_
     refine s_val (x_mv (v := .tuple #[u0_13, I r18]) rfl) ?_
     refine s_val (x_ext (vs := [u0_13, I r18]) (v := u0_13) rfl rfl) ?_
     refine s_val (x_ext (vs := [u0_13, I r18]) (v := I r18) rfl rfl) ?_
     refine s_val (x_as (v := u0_13) rfl) ?_
     refine s_val (x_as (v := I r18) rfl) ?_
     refine s_nil ?_
     refine W.seq ?_
     refine W.seq ?_
     refine W.region rfl ?_
     refine s_val (x_mv (v := u0_11) rfl) ?_
     have hl150z := ((ownSl (H.get (k := 2) rfl))).len_le
     refine s_val (x_lenS T46.und rfl (ownSl (H.get (k := 2) rfl))) ?_
     refine s_val (x_mv (v := u0_13) rfl) ?_
     have hl151z := ((ownSl (H.get (k := 0) rfl))).len_le
     refine s_val (x_lenS T71.und rfl (ownSl (H.get (k := 0) rfl))) ?_
     refine s_val (x_cmp (kd := .i64) (a := (r04.length : Int)) (b := (r06.length : Int)) (r := (r04.length : Int) != (r06.length : Int)) rfl rfl rfl) ?_
     refine s_val (x_mv (v := B ((r04.length : Int) != (r06.length : Int))) rfl) ?_
     refine g_val (!((r04.length : Int) != (r06.length : Int))) (gy_f rfl) (fun hg => x_mv (v := I r16) rfl) ?_
     refine g_val (!((r04.length : Int) != (r06.length : Int))) (gy_f rfl) (fun hg => x_mv (v := I r18) rfl) ?_
     refine g_val (!((r04.length : Int) != (r06.length : Int))) (gy_f rfl) (fun hg => x_cmp (kd := .i64) (a := r16) (b := r18) (r := r16 != r18) (gd_of (c := !((r04.length : Int) != (r06.length : Int))) hg (I r16)) (gd_of (c := !((r04.length : Int) != (r06.length : Int))) hg (I r18)) rfl) ?_
     refine s_val (x_por (b := (r04.length : Int) != (r06.length : Int)) (r := r16 != r18) rfl rfl (fun hb => gd_of (c := !((r04.length : Int) != (r06.length : Int))) (by first | exact hb | (rw [hb]; rfl) | simp_all) (B (r16 != r18)))) ?_
     refine s_nil ?_
     refine W.cond (((r04.length : Int) != (r06.length : Int)) || (r16 != r18)) rfl (fun c152z => ?_) (fun c152z => ?_)
     ·replace hM := M.e_t hM c152z
      refine W.seq ?_
      refine W.region rfl ?_
      refine s_val (x_as (v := B false) rfl) ?_
      refine s_nil ?_
      refine W.ret ?_
      have hr_ := M.e_pure hM
      exact ⟨_, resE_tmp rfl, ⟨false, hr_, rfl, (H.pick [] (by decide) rfl)⟩⟩
     ·replace hM := M.e_f hM c152z
      refine W.skip ?_
      refine W.seq ?_
      refine W.seq ?_
      refine W.region rfl ?_
      refine s_val (x_mv (v := u0_11) rfl) ?_
      have hl153z := ((ownSl (H.get (k := 2) rfl))).len_le
      refine s_val (x_lenS T46.und rfl (ownSl (H.get (k := 2) rfl))) ?_
      refine s_val (x_mv (v := I 0) rfl) ?_
      refine s_nil ?_
      refine W.block ?_
      obtain ⟨ex154z, hi155z, hk156z⟩ := M.e_bind hM
      obtain ⟨m0_, hi155z⟩ := M.e_iter hi155z
      refine W.loop (fun m σ W => ∃ (s : Nat) (ρ : Env), σ = upds ρ [(2, .pointer (some ⟨b_1, 0, none⟩)), (5, .pointer (some ⟨b_4, 0, none⟩)), (10, u0_11), (11, u0_13), (67, I (r04.length : Int)), (68, I (s : Int))] ∧ M.iterN (m_nilometerlaw01_LevelMoves_b0 r04 r06) m s = some ex154z ∧ St w W [cOwn (α := Mv) 68 u0_13 r06, cOwn (α := Line) 133 u0_12 r17, cOwn (α := Mv) 50 u0_11 r04, cOwn (α := Line) 34 u0_10 r15, cOwn (α := Line) 133 u0_8 r012, cBlk b_9 [I r002, u0_8] 64, cOwn (α := Line) 133 u0_7 r13, cBlk b_6 [I r00, u0_5] 25, cOwn (α := Line) 34 u0_5 r01, cBlk b_4 [I r0, u0_3] 25, cOwn (α := Line) 34 u0_3 r1, cBlk b_2 [I m_.mark, I m_.day] 50, cBlk b_1 [I n_Marks, v_n_Lines] 25] R) ?_ ?_
      ·exact ⟨_, 0, _, upds_of _ _ ⟨rfl, rfl, rfl, rfl, rfl, rfl, trivial⟩, hi155z, H⟩
      ·rintro m159z σ w157z ⟨s, ρ, rfl, hI158z, H⟩
       obtain ⟨m160z, lt161z, x162z, hM, hN163z⟩ := M.e_iterN hI158z
       simp only [m_nilometerlaw01_LevelMoves_b0] at hM
       clear hI158z
       refine W.seq ?_
       refine W.region rfl ?_
       refine s_val (x_cmp (kd := .i64) (a := (s : Int)) (b := (r04.length : Int)) (r := decide ((s : Int) < (r04.length : Int))) rfl rfl rfl) ?_
       refine s_nil ?_
       refine W.seq ?_
       refine W.cond (decide ((s : Int) < (r04.length : Int))) rfl (fun c164z => ?_) (fun c164z => ?_)
       ·replace hM := M.e_t hM c164z
        simp only [decide_eq_true_eq, decide_eq_false_iff_not, beq_iff_eq, bne_iff_ne, beq_eq_false_iff_ne, bne_eq_false_iff_eq, ne_eq, Decidable.not_not] at c164z
        refine W.skip ?_
        refine W.seq ?_
        refine W.block ?_
        refine W.seq ?_
        refine W.region rfl ?_
        refine s_val (x_mv (v := I (s : Int)) rfl) ?_
        refine s_val (x_as (v := I (s : Int)) rfl) ?_
        refine s_nil ?_
        refine W.seq ?_
        refine W.draw (fun W => St w W [cOwn (α := Mv) 68 u0_13 r06, cOwn (α := Line) 133 u0_12 r17, cOwn (α := Mv) 50 u0_11 r04, cOwn (α := Line) 34 u0_10 r15, cOwn (α := Line) 133 u0_8 r012, cBlk b_9 [I r002, u0_8] 64, cOwn (α := Line) 133 u0_7 r13, cBlk b_6 [I r00, u0_5] 25, cOwn (α := Line) 34 u0_5 r01, cBlk b_4 [I r0, u0_3] 25, cOwn (α := Line) 34 u0_3 r1, cBlk b_2 [I m_.mark, I m_.day] 50, cBlk b_1 [I n_Marks, v_n_Lines] 25] R) [(0, true), (1, true), (2, true), (3, true), (4, true), (5, true), (6, true), (7, true), (8, true)] mixed (by decide +kernel) rfl ?_
        intro w165z hx_
        replace H : St w w165z [cOwn (α := Mv) 68 u0_13 r06, cOwn (α := Line) 133 u0_12 r17, cOwn (α := Mv) 50 u0_11 r04, cOwn (α := Line) 34 u0_10 r15, cOwn (α := Line) 133 u0_8 r012, cBlk b_9 [I r002, u0_8] 64, cOwn (α := Line) 133 u0_7 r13, cBlk b_6 [I r00, u0_5] 25, cOwn (α := Line) 34 u0_5 r01, cBlk b_4 [I r0, u0_3] 25, cOwn (α := Line) 34 u0_3 r1, cBlk b_2 [I m_.mark, I m_.day] 50, cBlk b_1 [I n_Marks, v_n_Lines] 25] R := H.ext hx_
        clear hx_
        refine ⟨(H.pick [0, 1, 2, 3, 4, 5, 6, 7, 8, 9, 10, 11, 12] (by decide) rfl), ?_⟩
        refine d_q rfl (fun w' H => x_mv (v := u0_11) rfl) ?_
        refine d_q rfl (fun w' H => x_mv (v := I (s : Int)) rfl) ?_
        obtain ⟨sd166z, hM⟩ := M.e_grd hM
        simp only [Bool.and_eq_true, decide_eq_true_eq] at sd166z
        refine d_q rfl (fun w' H => x_ix (a := u0_11) (b := I (s : Int)) (v := vat u0_11 2 (Int.toNat (s : Int))) rfl rfl (Sl.ix (α := Mv) T46.und T46.size (ownSl (H.get (k := 2) rfl)) (by omega) (by omega))) ?_
        refine d_q rfl (fun w' H => x_ld (p := vat u0_11 2 (Int.toNat (s : Int))) (v := .agg #[I ((r04.getD s default).mark), I ((r04.getD s default).day)]) rfl (ld_ag Ag50 Sz50 (At.mono (Mv_atA (ownSl (H.get (k := 2) rfl)) (i := (s : Int)) (by omega) (by omega)) (ownLe _ (H.get (k := 2) rfl))))) ?_
        refine d_q rfl (fun w' H => x_mv (v := u0_13) rfl) ?_
        refine d_q rfl (fun w' H => x_mv (v := I (s : Int)) rfl) ?_
        obtain ⟨sd167z, hM⟩ := M.e_grd hM
        simp only [Bool.and_eq_true, decide_eq_true_eq] at sd167z
        refine d_q rfl (fun w' H => x_ix (a := u0_13) (b := I (s : Int)) (v := vat u0_13 2 (Int.toNat (s : Int))) rfl rfl (Sl.ix (α := Mv) T71.und T71.size (ownSl (H.get (k := 0) rfl)) (by omega) (by omega))) ?_
        refine d_q rfl (fun w' H => x_ld (p := vat u0_13 2 (Int.toNat (s : Int))) (v := .agg #[I ((r06.getD s default).mark), I ((r06.getD s default).day)]) rfl (ld_ag Ag68 Sz68 (At.mono (Mv_atA (ownSl (H.get (k := 0) rfl)) (i := (s : Int)) (by omega) (by omega)) (ownLe _ (H.get (k := 0) rfl))))) ?_
        refine d_q rfl (fun w' H => x_neS (eqT68 (r04.getD s default) (r06.getD s default) _) gdT68 rfl rfl) ?_
        refine d_nil ?_
        refine W.cond (!(decide ((r04.getD s default) = (r06.getD s default)))) rfl (fun c168z => ?_) (fun c168z => ?_)
        ·replace hM := M.e_t hM c168z
         refine W.seq ?_
         refine W.region rfl ?_
         refine s_val (x_as (v := B false) rfl) ?_
         refine s_nil ?_
         refine W.ret ?_
         have hX169z := M.e_inr hM hN163z
         subst hX169z
         replace hM := hk156z
         try dsimp only at hM
         have hr_ := M.e_pure hM
         exact ⟨_, resE_tmp rfl, ⟨false, hr_, rfl, (H.pick [] (by decide) rfl)⟩⟩
        ·replace hM := M.e_f hM c168z
         refine W.skip ?_
         refine W.region rfl ?_
         refine s_val (x_ari (a := (s : Int)) (b := 1) (r := (s : Int) + 1) rfl rfl rfl (by omega)) ?_
         refine s_val (x_mv (v := I ((s : Int) + 1)) rfl) ?_
         refine s_nil ?_
         exact ⟨m160z, lt161z, s + 1, _, upds_of _ _ ⟨rfl, rfl, rfl, rfl, rfl, rfl, trivial⟩, M.e_inl hM hN163z, H⟩
       ·replace hM := M.e_f hM c164z
        simp only [decide_eq_true_eq, decide_eq_false_iff_not, beq_iff_eq, bne_iff_ne, beq_eq_false_iff_ne, bne_eq_false_iff_eq, ne_eq, Decidable.not_not] at c164z
        refine W.exit ?_
        have hX170z := M.e_inr hM hN163z
        subst hX170z
        replace hM := hk156z
        try dsimp only at hM
        refine W.seq ?_
        refine W.region rfl ?_
        refine s_val (x_ld (p := .pointer (some ⟨b_4, 0, none⟩)) (v := .agg #[I r0, u0_3]) rfl (ldb_ag (ds := [I r0, u0_3]) Ag25 Sz25 (H.blk (k := 9) rfl) rfl rfl)) ?_
        obtain ⟨r172z, hx171z, hM⟩ := M.e_bind hM
        refine s_call cf32 [.agg #[I r0, u0_3]] rfl (level_Convict_ok r0 r1 (Reads.of (k := 10) rfl ownLe) (ownSl (H.get (k := 10) rfl)) hx171z _ (St.give (T := [cOwn (α := Mv) 68 u0_13 r06, cOwn (α := Line) 133 u0_12 r17, cOwn (α := Mv) 50 u0_11 r04, cOwn (α := Line) 34 u0_10 r15, cOwn (α := Line) 133 u0_8 r012, cBlk b_9 [I r002, u0_8] 64, cOwn (α := Line) 133 u0_7 r13, cBlk b_6 [I r00, u0_5] 25, cOwn (α := Line) 34 u0_5 r01, cBlk b_4 [I r0, u0_3] 25, cOwn (α := Line) 34 u0_3 r1, cBlk b_2 [I m_.mark, I m_.day] 50, cBlk b_1 [I n_Marks, v_n_Lines] 25]) H rfl)) ?_
        rintro vq w173z ⟨r07, r19, hr174z, hvq, H2_⟩
        subst hr174z
        subst vq
        try dsimp only at hM
        replace H : St w w173z [cOwn (α := Mv) 68 u0_13 r06, cOwn (α := Line) 133 u0_12 r17, cOwn (α := Mv) 50 u0_11 r04, cOwn (α := Line) 34 u0_10 r15, cOwn (α := Line) 133 u0_8 r012, cBlk b_9 [I r002, u0_8] 64, cOwn (α := Line) 133 u0_7 r13, cBlk b_6 [I r00, u0_5] 25, cOwn (α := Line) 34 u0_5 r01, cBlk b_4 [I r0, u0_3] 25, cOwn (α := Line) 34 u0_3 r1, cBlk b_2 [I m_.mark, I m_.day] 50, cBlk b_1 [I n_Marks, v_n_Lines] 25] R := H.back H2_ rfl
        clear H2_
        refine s_val (x_mv (v := .tuple #[I r07, I r19]) rfl) ?_
        refine s_val (x_ext (vs := [I r07, I r19]) (v := I r07) rfl rfl) ?_
        refine s_val (x_ext (vs := [I r07, I r19]) (v := I r19) rfl rfl) ?_
        refine s_val (x_as (v := I r07) rfl) ?_
        refine s_val (x_as (v := I r19) rfl) ?_
        refine s_nil ?_
        refine W.seq ?_
        refine W.region rfl ?_
        refine s_val (x_ld (p := .pointer (some ⟨b_1, 0, none⟩)) (v := .agg #[I n_Marks, v_n_Lines]) rfl (ldb_ag (ds := [I n_Marks, v_n_Lines]) Ag25 Sz25 (H.blk (k := 12) rfl) rfl rfl)) ?_
        obtain ⟨r176z, hx175z, hM⟩ := M.e_bind hM
        refine s_call cf28 [.agg #[I n_Marks, v_n_Lines]] rfl (nilometerlaw01_Net_ok n_Marks n_Lines (hC_n_Lines.app _) hs_n_Lines hx175z _ (St.give (T := [cOwn (α := Mv) 68 u0_13 r06, cOwn (α := Line) 133 u0_12 r17, cOwn (α := Mv) 50 u0_11 r04, cOwn (α := Line) 34 u0_10 r15, cOwn (α := Line) 133 u0_8 r012, cBlk b_9 [I r002, u0_8] 64, cOwn (α := Line) 133 u0_7 r13, cBlk b_6 [I r00, u0_5] 25, cOwn (α := Line) 34 u0_5 r01, cBlk b_4 [I r0, u0_3] 25, cOwn (α := Line) 34 u0_3 r1, cBlk b_2 [I m_.mark, I m_.day] 50, cBlk b_1 [I n_Marks, v_n_Lines] 25]) H rfl)) ?_
        rintro vq w177z ⟨r08, r110, u0_14, hr178z, hvq, H2_⟩
        subst hr178z
        subst vq
        try dsimp only at hM
        replace H : St w w177z [cOwn (α := Line) 133 u0_14 r110, cOwn (α := Mv) 68 u0_13 r06, cOwn (α := Line) 133 u0_12 r17, cOwn (α := Mv) 50 u0_11 r04, cOwn (α := Line) 34 u0_10 r15, cOwn (α := Line) 133 u0_8 r012, cBlk b_9 [I r002, u0_8] 64, cOwn (α := Line) 133 u0_7 r13, cBlk b_6 [I r00, u0_5] 25, cOwn (α := Line) 34 u0_5 r01, cBlk b_4 [I r0, u0_3] 25, cOwn (α := Line) 34 u0_3 r1, cBlk b_2 [I m_.mark, I m_.day] 50, cBlk b_1 [I n_Marks, v_n_Lines] 25] R := H.back H2_ rfl
        clear H2_
        obtain ⟨r180z, hx179z, hM⟩ := M.e_bind hM
        refine s_call cf33 [.agg #[I r08, u0_14]] rfl (nilometerref01_Convict_ok r08 r110 (Reads.of (k := 0) rfl ownLe) (ownSl (H.get (k := 0) rfl)) hx179z _ (St.give (T := [cOwn (α := Line) 133 u0_14 r110, cOwn (α := Mv) 68 u0_13 r06, cOwn (α := Line) 133 u0_12 r17, cOwn (α := Mv) 50 u0_11 r04, cOwn (α := Line) 34 u0_10 r15, cOwn (α := Line) 133 u0_8 r012, cBlk b_9 [I r002, u0_8] 64, cOwn (α := Line) 133 u0_7 r13, cBlk b_6 [I r00, u0_5] 25, cOwn (α := Line) 34 u0_5 r01, cBlk b_4 [I r0, u0_3] 25, cOwn (α := Line) 34 u0_3 r1, cBlk b_2 [I m_.mark, I m_.day] 50, cBlk b_1 [I n_Marks, v_n_Lines] 25]) H rfl)) ?_
        rintro vq w181z ⟨r09, r111, hr182z, hvq, H2_⟩
        subst hr182z
        subst vq
        try dsimp only at hM
        replace H : St w w181z [cOwn (α := Line) 133 u0_14 r110, cOwn (α := Mv) 68 u0_13 r06, cOwn (α := Line) 133 u0_12 r17, cOwn (α := Mv) 50 u0_11 r04, cOwn (α := Line) 34 u0_10 r15, cOwn (α := Line) 133 u0_8 r012, cBlk b_9 [I r002, u0_8] 64, cOwn (α := Line) 133 u0_7 r13, cBlk b_6 [I r00, u0_5] 25, cOwn (α := Line) 34 u0_5 r01, cBlk b_4 [I r0, u0_3] 25, cOwn (α := Line) 34 u0_3 r1, cBlk b_2 [I m_.mark, I m_.day] 50, cBlk b_1 [I n_Marks, v_n_Lines] 25] R := H.back H2_ rfl
        clear H2_
        refine s_val (x_mv (v := .tuple #[I r09, I r111]) rfl) ?_
        refine s_val (x_ext (vs := [I r09, I r111]) (v := I r09) rfl rfl) ?_
        refine s_val (x_ext (vs := [I r09, I r111]) (v := I r111) rfl rfl) ?_
        refine s_val (x_as (v := I r09) rfl) ?_
        refine s_val (x_as (v := I r111) rfl) ?_
        refine s_nil ?_
        refine W.seq ?_
        refine W.region rfl ?_
        refine s_val (x_mv (v := I r07) rfl) ?_
        refine s_val (x_mv (v := I r09) rfl) ?_
        refine s_val (x_cmp (kd := .i64) (a := r07) (b := r09) (r := r07 == r09) rfl rfl rfl) ?_
        refine s_val (x_mv (v := B (r07 == r09)) rfl) ?_
        refine g_val (r07 == r09) (gy_t rfl) (fun hg => x_mv (v := I r19) rfl) ?_
        refine g_val (r07 == r09) (gy_t rfl) (fun hg => x_mv (v := I r111) rfl) ?_
        refine g_val (r07 == r09) (gy_t rfl) (fun hg => x_cmp (kd := .i64) (a := r19) (b := r111) (r := r19 == r111) (gd_of (c := r07 == r09) hg (I r19)) (gd_of (c := r07 == r09) hg (I r111)) rfl) ?_
        refine s_val (x_pand (b := r07 == r09) (r := r19 == r111) rfl (fun hb => gd_of (c := r07 == r09) (by first | exact hb | (rw [hb]; rfl) | simp_all) (B (r19 == r111))) rfl) ?_
        refine s_val (x_mv (v := B ((r07 == r09) && (r19 == r111))) rfl) ?_
        refine g_val ((r07 == r09) && (r19 == r111)) (gy_t rfl) (fun hg => x_ld (p := .pointer (some ⟨b_4, 0, none⟩)) (v := .agg #[I r0, u0_3]) rfl (ldb_ag (ds := [I r0, u0_3]) Ag25 Sz25 (H.blk (k := 10) rfl) rfl rfl)) ?_
        refine g_val ((r07 == r09) && (r19 == r111)) (gy_t rfl) (fun hg => x_ld (p := .pointer (some ⟨b_1, 0, none⟩)) (v := .agg #[I n_Marks, v_n_Lines]) rfl (ldb_ag (ds := [I n_Marks, v_n_Lines]) Ag25 Sz25 (H.blk (k := 13) rfl) rfl rfl)) ?_
        obtain ⟨r4, hx183z, hM⟩ := M.e_bind hM
        refine t_gcall ((r07 == r09) && (r19 == r111)) (gy_t rfl) cf29 (B r4) (fun _ => [.agg #[I r0, u0_3], .agg #[I n_Marks, v_n_Lines]]) (fun hg => lst2 (gd_of (c := ((r07 == r09) && (r19 == r111))) hg (.agg #[I r0, u0_3])) (gd_of (c := ((r07 == r09) && (r19 == r111))) hg (.agg #[I n_Marks, v_n_Lines]))) H (fun hg => (nilometerlaw01_same_ok r0 r1 n_Marks n_Lines (Reads.of (k := 11) rfl ownLe) (ownSl (H.get (k := 11) rfl)) (hC_n_Lines.app _) hs_n_Lines (M.e_opt hx183z hg) _ (H.give (A := []) rfl)).mono fun v_ w_ ⟨y_, hr_, hv_, H_⟩ => by subst hr_; exact ⟨hv_, H.via H_⟩) ?_
        intro w184z H
        refine s_val (x_pand (b := ((r07 == r09) && (r19 == r111))) (r := r4) rfl (fun hb => gd_of (c := ((r07 == r09) && (r19 == r111))) (by first | exact hb | (rw [hb]; rfl) | simp_all) (B r4)) rfl) ?_
        refine s_val (x_mv (v := B (((r07 == r09) && (r19 == r111)) && r4)) rfl) ?_
        obtain ⟨r5, hx185z, hM⟩ := M.e_bind hM
        refine t_gcall (((r07 == r09) && (r19 == r111)) && r4) (gy_t rfl) cf18 (B r5) (fun _ => []) (fun _ => rfl) H (fun hg => (nilometerlaw01_awake_ok (M.e_opt hx185z hg) _ (H.give (A := []) rfl)).mono fun v_ w_ ⟨y_, hr_, hv_, H_⟩ => by subst hr_; exact ⟨hv_, H.via H_⟩) ?_
        intro w186z H
        refine s_val (x_pand (b := (((r07 == r09) && (r19 == r111)) && r4)) (r := r5) rfl (fun hb => gd_of (c := (((r07 == r09) && (r19 == r111)) && r4)) (by first | exact hb | (rw [hb]; rfl) | simp_all) (B r5)) rfl) ?_
        refine s_val (x_as (v := B ((((r07 == r09) && (r19 == r111)) && r4) && r5)) rfl) ?_
        refine s_nil ?_
        refine W.ret ?_
        have hr_ := M.e_pure hM
        exact ⟨_, resE_tmp rfl, ⟨((((r07 == r09) && (r19 == r111)) && r4) && r5), hr_, rfl, (H.pick [] (by decide) rfl)⟩⟩
  ·skip
   refine t_alloc (cs := [I 0, .slice none 0 0]) H Al64 rfl ?_
   intro b_9 w187z H
   refine s_nil ⟨(H.pick [1, 2, 3, 4, 5, 6] (by decide) rfl), ?_⟩
   refine t_l rfl ?_
   obtain ⟨r189z, hx188z, hM⟩ := M.e_bind hM
   refine s_call cf28 [.agg #[I n_Marks, v_n_Lines]] rfl (nilometerlaw01_Net_ok n_Marks n_Lines (hC_n_Lines.app _) hs_n_Lines hx188z _ (St.give (T := [cBlk b_9 [I 0, .slice none 0 0] 64, cBlk b_6 [I r00, u0_5] 25, cOwn (α := Line) 34 u0_5 r01, cBlk b_4 [I r0, u0_3] 25, cOwn (α := Line) 34 u0_3 r1, cBlk b_2 [I m_.mark, I m_.day] 50, cBlk b_1 [I n_Marks, v_n_Lines] 25]) H rfl)) ?_
   rintro vq w190z ⟨r02, r13, u0_7, hr191z, hvq, H2_⟩
   subst hr191z
   subst vq
   try dsimp only at hM
   replace H : St w w190z [cOwn (α := Line) 133 u0_7 r13, cBlk b_9 [I 0, .slice none 0 0] 64, cBlk b_6 [I r00, u0_5] 25, cOwn (α := Line) 34 u0_5 r01, cBlk b_4 [I r0, u0_3] 25, cOwn (α := Line) 34 u0_3 r1, cBlk b_2 [I m_.mark, I m_.day] 50, cBlk b_1 [I n_Marks, v_n_Lines] 25] R := H.back H2_ rfl
   clear H2_
   have hvc_q192z := Sl.cells (ownSl (H.get (k := 0) rfl))
   have hvo_q192z := Sl.oc (ownSl (H.get (k := 0) rfl))
   refine s_nil ⟨(H.pick [2, 3, 4, 5, 6, 7] (by decide) rfl), ?_⟩
   refine t_l rfl ?_
   obtain ⟨r194z, hx193z, hM⟩ := M.e_bind hM
   refine s_call cf27 [.agg #[I r02, u0_7], .agg #[I m_.mark, I m_.day]] rfl (nilometerref01_Part_ok r02 r13 m_ (Reads.of (k := 0) rfl ownLe) (ownSl (H.get (k := 0) rfl)) hx193z _ (St.give (T := [cOwn (α := Line) 133 u0_7 r13, cBlk b_9 [I 0, .slice none 0 0] 64, cBlk b_6 [I r00, u0_5] 25, cOwn (α := Line) 34 u0_5 r01, cBlk b_4 [I r0, u0_3] 25, cOwn (α := Line) 34 u0_3 r1, cBlk b_2 [I m_.mark, I m_.day] 50, cBlk b_1 [I n_Marks, v_n_Lines] 25]) H rfl)) ?_
   rintro vq w195z ⟨r002, r012, r14, u0_8, hr196z, hvq, H2_⟩
   subst hr196z
   subst vq
   try dsimp only at hM
   replace H : St w w195z [cOwn (α := Line) 133 u0_8 r012, cOwn (α := Line) 133 u0_7 r13, cBlk b_9 [I 0, .slice none 0 0] 64, cBlk b_6 [I r00, u0_5] 25, cOwn (α := Line) 34 u0_5 r01, cBlk b_4 [I r0, u0_3] 25, cOwn (α := Line) 34 u0_3 r1, cBlk b_2 [I m_.mark, I m_.day] 50, cBlk b_1 [I n_Marks, v_n_Lines] 25] R := H.back H2_ rfl
   clear H2_
   have hvc_q197z := Sl.cells (ownSl (H.get (k := 0) rfl))
   have hvo_q197z := Sl.oc (ownSl (H.get (k := 0) rfl))
   refine s_nil ⟨(H.pick [3, 4, 5, 6, 7, 8] (by decide) rfl), ?_⟩
   refine t_q rfl (fun w' H => x_mv (v := .tuple #[.agg #[I r002, u0_8], I r14]) rfl) ?_
   refine t_q rfl (fun w' H => x_ext (vs := [.agg #[I r002, u0_8], I r14]) (v := .agg #[I r002, u0_8]) rfl rfl) ?_
   refine t_q rfl (fun w' H => x_ext (vs := [.agg #[I r002, u0_8], I r14]) (v := I r14) rfl rfl) ?_
   refine t_l rfl ?_
   refine t_st (k := 2) (b := b_9) (off := 0) (cs := [I 0, .slice none 0 0]) (vs := [I r002, u0_8]) (cs' := [I r002, u0_8]) (v := .agg #[I r002, u0_8]) (L' := [cOwn (α := Line) 133 u0_8 r012, cOwn (α := Line) 133 u0_7 r13, cBlk b_9 [I r002, u0_8] 64, cBlk b_6 [I r00, u0_5] 25, cOwn (α := Line) 34 u0_5 r01, cBlk b_4 [I r0, u0_3] 25, cOwn (α := Line) 34 u0_3 r1, cBlk b_2 [I m_.mark, I m_.day] 50, cBlk b_1 [I n_Marks, v_n_Lines] 25]) H rfl rfl rfl Sz64 rfl rfl rfl (by simp only [List.all_cons, List.all_nil, Bool.true_and, Bool.and_true, Sl.oc (ownSl (H.get (k := 0) rfl))]; try rfl) rfl rfl ?_
   intro w198z H
   refine s_nil ⟨(H.pick [3, 4, 5, 6, 7, 8] (by decide) rfl), ?_⟩
   refine t_q rfl (fun w' H => x_as (v := I r14) rfl) ?_
   refine t_nil ?_
   refine W.seq ?_
   refine W.seq ?_
   refine W.draw (fun W => St w W [cOwn (α := Line) 133 u0_8 r012, cOwn (α := Line) 133 u0_7 r13, cBlk b_9 [I r002, u0_8] 64, cBlk b_6 [I r00, u0_5] 25, cOwn (α := Line) 34 u0_5 r01, cBlk b_4 [I r0, u0_3] 25, cOwn (α := Line) 34 u0_3 r1, cBlk b_2 [I m_.mark, I m_.day] 50, cBlk b_1 [I n_Marks, v_n_Lines] 25] R) [(0, true), (1, true), (2, false), (3, false), (4, true), (5, true), (6, true), (7, true), (8, true), (9, true)] mixed (by decide +kernel) rfl ?_
   intro w199z hx_
   replace H : St w w199z [cOwn (α := Line) 133 u0_8 r012, cOwn (α := Line) 133 u0_7 r13, cBlk b_9 [I r002, u0_8] 64, cBlk b_6 [I r00, u0_5] 25, cOwn (α := Line) 34 u0_5 r01, cBlk b_4 [I r0, u0_3] 25, cOwn (α := Line) 34 u0_3 r1, cBlk b_2 [I m_.mark, I m_.day] 50, cBlk b_1 [I n_Marks, v_n_Lines] 25] R := H.ext hx_
   clear hx_
   refine ⟨(H.pick [0, 1, 2, 3, 4, 5, 6, 7, 8] (by decide) rfl), ?_⟩
   refine d_q rfl (fun w' H => x_ld (p := .pointer (some ⟨b_6, 0, none⟩)) (v := .agg #[I r00, u0_5]) rfl (ldb_ag (ds := [I r00, u0_5]) Ag25 Sz25 (H.blk (k := 3) rfl) rfl rfl)) ?_
   refine d_q rfl (fun w' H => x_ld (p := .pointer (some ⟨b_9, 0, none⟩)) (v := .agg #[I r002, u0_8]) rfl (ldb_ag (ds := [I r002, u0_8]) Ag64 Sz64 (H.blk (k := 2) rfl) rfl rfl)) ?_
   refine d_l rfl ?_
   obtain ⟨r201z, hx200z, hM⟩ := M.e_bind hM
   refine s_call cf30 [.agg #[I r002, u0_8]] rfl (nilometerlaw01_plain_ok r002 r012 (Reads.of (k := 0) rfl ownLe) (ownSl (H.get (k := 0) rfl)) hx200z _ (St.give (T := [cOwn (α := Line) 133 u0_8 r012, cOwn (α := Line) 133 u0_7 r13, cBlk b_9 [I r002, u0_8] 64, cBlk b_6 [I r00, u0_5] 25, cOwn (α := Line) 34 u0_5 r01, cBlk b_4 [I r0, u0_3] 25, cOwn (α := Line) 34 u0_3 r1, cBlk b_2 [I m_.mark, I m_.day] 50, cBlk b_1 [I n_Marks, v_n_Lines] 25]) H rfl)) ?_
   rintro vq w202z ⟨r03, r15, u0_10, hr203z, hvq, H2_⟩
   subst hr203z
   subst vq
   try dsimp only at hM
   replace H : St w w202z [cOwn (α := Line) 34 u0_10 r15, cOwn (α := Line) 133 u0_8 r012, cOwn (α := Line) 133 u0_7 r13, cBlk b_9 [I r002, u0_8] 64, cBlk b_6 [I r00, u0_5] 25, cOwn (α := Line) 34 u0_5 r01, cBlk b_4 [I r0, u0_3] 25, cOwn (α := Line) 34 u0_3 r1, cBlk b_2 [I m_.mark, I m_.day] 50, cBlk b_1 [I n_Marks, v_n_Lines] 25] R := H.back H2_ rfl
   clear H2_
   have hvc_q204z := Sl.cells (ownSl (H.get (k := 0) rfl))
   have hvo_q204z := Sl.oc (ownSl (H.get (k := 0) rfl))
   refine s_nil ⟨(H.pick [1, 2, 3, 4, 5, 6, 7, 8, 9] (by decide) rfl), ?_⟩
   refine d_l rfl ?_
   obtain ⟨r206z, hx205z, hM⟩ := M.e_bind hM
   refine s_call cf29 [.agg #[I r00, u0_5], .agg #[I r03, u0_10]] rfl (nilometerlaw01_same_ok r00 r01 r03 r15 (Reads.of (k := 5) rfl ownLe) (ownSl (H.get (k := 5) rfl)) (Reads.of (k := 0) rfl ownLe) (ownSl (H.get (k := 0) rfl)) hx205z _ (St.give (T := [cOwn (α := Line) 34 u0_10 r15, cOwn (α := Line) 133 u0_8 r012, cOwn (α := Line) 133 u0_7 r13, cBlk b_9 [I r002, u0_8] 64, cBlk b_6 [I r00, u0_5] 25, cOwn (α := Line) 34 u0_5 r01, cBlk b_4 [I r0, u0_3] 25, cOwn (α := Line) 34 u0_3 r1, cBlk b_2 [I m_.mark, I m_.day] 50, cBlk b_1 [I n_Marks, v_n_Lines] 25]) H rfl)) ?_
   rintro vq w207z ⟨r3, hr208z, hvq, H2_⟩
   subst hr208z
   subst vq
   try dsimp only at hM
   replace H : St w w207z [cOwn (α := Line) 34 u0_10 r15, cOwn (α := Line) 133 u0_8 r012, cOwn (α := Line) 133 u0_7 r13, cBlk b_9 [I r002, u0_8] 64, cBlk b_6 [I r00, u0_5] 25, cOwn (α := Line) 34 u0_5 r01, cBlk b_4 [I r0, u0_3] 25, cOwn (α := Line) 34 u0_3 r1, cBlk b_2 [I m_.mark, I m_.day] 50, cBlk b_1 [I n_Marks, v_n_Lines] 25] R := H.back H2_ rfl
   clear H2_
   refine s_nil ⟨(H.pick [1, 2, 3, 4, 5, 6, 7, 8, 9] (by decide) rfl), ?_⟩
   refine d_q rfl (fun w' H => x_not (b := r3) rfl) ?_
   refine d_q rfl (fun w' H => x_mv (v := B (!r3)) rfl) ?_
   refine d_qg (!(!r3)) rfl (gy_f rfl) (fun hg => (fun w' H => x_mv (v := I r12) rfl)) ?_
   refine d_qg (!(!r3)) rfl (gy_f rfl) (fun hg => (fun w' H => x_mv (v := I r14) rfl)) ?_
   refine d_qg (!(!r3)) rfl (gy_f rfl) (fun hg => (fun w' H => x_cmp (kd := .i64) (a := r12) (b := r14) (r := r12 != r14) (gd_of (c := !(!r3)) hg (I r12)) (gd_of (c := !(!r3)) hg (I r14)) rfl)) ?_
   refine d_q rfl (fun w' H => x_por (b := !r3) (r := r12 != r14) rfl rfl (fun hb => gd_of (c := !(!r3)) (by first | exact hb | (rw [hb]; rfl) | simp_all) (B (r12 != r14)))) ?_
   refine d_nil ?_
   refine W.cond ((!r3) || (r12 != r14)) rfl (fun c209z => ?_) (fun c209z => ?_)
   ·replace hM := M.e_t hM c209z
    refine W.seq ?_
    refine W.region rfl ?_
    refine s_val (x_as (v := B false) rfl) ?_
    refine s_nil ?_
    refine W.ret ?_
    have hr_ := M.e_pure hM
    exact ⟨_, resE_tmp rfl, ⟨false, hr_, rfl, (H.pick [] (by decide) rfl)⟩⟩
   ·replace hM := M.e_f hM c209z
    refine W.skip ?_
    refine W.seq ?_
    refine W.region rfl ?_
    refine s_val (x_ld (p := .pointer (some ⟨b_4, 0, none⟩)) (v := .agg #[I r0, u0_3]) rfl (ldb_ag (ds := [I r0, u0_3]) Ag25 Sz25 (H.blk (k := 6) rfl) rfl rfl)) ?_
    obtain ⟨r211z, hx210z, hM⟩ := M.e_bind hM
    refine s_call cf21 [.agg #[I r0, u0_3]] rfl (level_Moves_ok r0 r1 (Reads.of (k := 7) rfl ownLe) (ownSl (H.get (k := 7) rfl)) hx210z _ (St.give (T := [cOwn (α := Line) 34 u0_10 r15, cOwn (α := Line) 133 u0_8 r012, cOwn (α := Line) 133 u0_7 r13, cBlk b_9 [I r002, u0_8] 64, cBlk b_6 [I r00, u0_5] 25, cOwn (α := Line) 34 u0_5 r01, cBlk b_4 [I r0, u0_3] 25, cOwn (α := Line) 34 u0_3 r1, cBlk b_2 [I m_.mark, I m_.day] 50, cBlk b_1 [I n_Marks, v_n_Lines] 25]) H rfl)) ?_
    rintro vq w212z ⟨r04, r16, u0_11, hr213z, hvq, H2_⟩
    subst hr213z
    subst vq
    try dsimp only at hM
    replace H : St w w212z [cOwn (α := Mv) 50 u0_11 r04, cOwn (α := Line) 34 u0_10 r15, cOwn (α := Line) 133 u0_8 r012, cOwn (α := Line) 133 u0_7 r13, cBlk b_9 [I r002, u0_8] 64, cBlk b_6 [I r00, u0_5] 25, cOwn (α := Line) 34 u0_5 r01, cBlk b_4 [I r0, u0_3] 25, cOwn (α := Line) 34 u0_3 r1, cBlk b_2 [I m_.mark, I m_.day] 50, cBlk b_1 [I n_Marks, v_n_Lines] 25] R := H.back H2_ rfl
    clear H2_
    refine s_val (x_mv (v := .tuple #[u0_11, I r16]) rfl) ?_
    refine s_val (x_ext (vs := [u0_11, I r16]) (v := u0_11) rfl rfl) ?_
    refine s_val (x_ext (vs := [u0_11, I r16]) (v := I r16) rfl rfl) ?_
    refine s_val (x_as (v := u0_11) rfl) ?_
    refine s_val (x_as (v := I r16) rfl) ?_
    refine s_nil ?_
    refine W.seq ?_
    refine W.region rfl ?_
    refine s_val (x_ld (p := .pointer (some ⟨b_1, 0, none⟩)) (v := .agg #[I n_Marks, v_n_Lines]) rfl (ldb_ag (ds := [I n_Marks, v_n_Lines]) Ag25 Sz25 (H.blk (k := 10) rfl) rfl rfl)) ?_
    obtain ⟨r215z, hx214z, hM⟩ := M.e_bind hM
    refine s_call cf28 [.agg #[I n_Marks, v_n_Lines]] rfl (nilometerlaw01_Net_ok n_Marks n_Lines (hC_n_Lines.app _) hs_n_Lines hx214z _ (St.give (T := [cOwn (α := Mv) 50 u0_11 r04, cOwn (α := Line) 34 u0_10 r15, cOwn (α := Line) 133 u0_8 r012, cOwn (α := Line) 133 u0_7 r13, cBlk b_9 [I r002, u0_8] 64, cBlk b_6 [I r00, u0_5] 25, cOwn (α := Line) 34 u0_5 r01, cBlk b_4 [I r0, u0_3] 25, cOwn (α := Line) 34 u0_3 r1, cBlk b_2 [I m_.mark, I m_.day] 50, cBlk b_1 [I n_Marks, v_n_Lines] 25]) H rfl)) ?_
    rintro vq w216z ⟨r05, r17, u0_12, hr217z, hvq, H2_⟩
    subst hr217z
    subst vq
    try dsimp only at hM
    replace H : St w w216z [cOwn (α := Line) 133 u0_12 r17, cOwn (α := Mv) 50 u0_11 r04, cOwn (α := Line) 34 u0_10 r15, cOwn (α := Line) 133 u0_8 r012, cOwn (α := Line) 133 u0_7 r13, cBlk b_9 [I r002, u0_8] 64, cBlk b_6 [I r00, u0_5] 25, cOwn (α := Line) 34 u0_5 r01, cBlk b_4 [I r0, u0_3] 25, cOwn (α := Line) 34 u0_3 r1, cBlk b_2 [I m_.mark, I m_.day] 50, cBlk b_1 [I n_Marks, v_n_Lines] 25] R := H.back H2_ rfl
    clear H2_
    obtain ⟨r219z, hx218z, hM⟩ := M.e_bind hM
    refine s_call cf31 [.agg #[I r05, u0_12]] rfl (nilometerref01_Moves_ok r05 r17 (Reads.of (k := 0) rfl ownLe) (ownSl (H.get (k := 0) rfl)) hx218z _ (St.give (T := [cOwn (α := Line) 133 u0_12 r17, cOwn (α := Mv) 50 u0_11 r04, cOwn (α := Line) 34 u0_10 r15, cOwn (α := Line) 133 u0_8 r012, cOwn (α := Line) 133 u0_7 r13, cBlk b_9 [I r002, u0_8] 64, cBlk b_6 [I r00, u0_5] 25, cOwn (α := Line) 34 u0_5 r01, cBlk b_4 [I r0, u0_3] 25, cOwn (α := Line) 34 u0_3 r1, cBlk b_2 [I m_.mark, I m_.day] 50, cBlk b_1 [I n_Marks, v_n_Lines] 25]) H rfl)) ?_
    rintro vq w220z ⟨r06, r18, u0_13, hr221z, hvq, H2_⟩
    subst hr221z
    subst vq
    try dsimp only at hM
    replace H : St w w220z [cOwn (α := Mv) 68 u0_13 r06, cOwn (α := Line) 133 u0_12 r17, cOwn (α := Mv) 50 u0_11 r04, cOwn (α := Line) 34 u0_10 r15, cOwn (α := Line) 133 u0_8 r012, cOwn (α := Line) 133 u0_7 r13, cBlk b_9 [I r002, u0_8] 64, cBlk b_6 [I r00, u0_5] 25, cOwn (α := Line) 34 u0_5 r01, cBlk b_4 [I r0, u0_3] 25, cOwn (α := Line) 34 u0_3 r1, cBlk b_2 [I m_.mark, I m_.day] 50, cBlk b_1 [I n_Marks, v_n_Lines] 25] R := H.back H2_ rfl
    clear H2_
    refine s_val (x_mv (v := .tuple #[u0_13, I r18]) rfl) ?_
    refine s_val (x_ext (vs := [u0_13, I r18]) (v := u0_13) rfl rfl) ?_
    refine s_val (x_ext (vs := [u0_13, I r18]) (v := I r18) rfl rfl) ?_
    refine s_val (x_as (v := u0_13) rfl) ?_
    refine s_val (x_as (v := I r18) rfl) ?_
    refine s_nil ?_
    refine W.seq ?_
    refine W.seq ?_
    refine W.region rfl ?_
    refine s_val (x_mv (v := u0_11) rfl) ?_
    have hl222z := ((ownSl (H.get (k := 2) rfl))).len_le
    refine s_val (x_lenS T46.und rfl (ownSl (H.get (k := 2) rfl))) ?_
    refine s_val (x_mv (v := u0_13) rfl) ?_
    have hl223z := ((ownSl (H.get (k := 0) rfl))).len_le
    refine s_val (x_lenS T71.und rfl (ownSl (H.get (k := 0) rfl))) ?_
    refine s_val (x_cmp (kd := .i64) (a := (r04.length : Int)) (b := (r06.length : Int)) (r := (r04.length : Int) != (r06.length : Int)) rfl rfl rfl) ?_
    refine s_val (x_mv (v := B ((r04.length : Int) != (r06.length : Int))) rfl) ?_
    refine g_val (!((r04.length : Int) != (r06.length : Int))) (gy_f rfl) (fun hg => x_mv (v := I r16) rfl) ?_
    refine g_val (!((r04.length : Int) != (r06.length : Int))) (gy_f rfl) (fun hg => x_mv (v := I r18) rfl) ?_
    refine g_val (!((r04.length : Int) != (r06.length : Int))) (gy_f rfl) (fun hg => x_cmp (kd := .i64) (a := r16) (b := r18) (r := r16 != r18) (gd_of (c := !((r04.length : Int) != (r06.length : Int))) hg (I r16)) (gd_of (c := !((r04.length : Int) != (r06.length : Int))) hg (I r18)) rfl) ?_
    refine s_val (x_por (b := (r04.length : Int) != (r06.length : Int)) (r := r16 != r18) rfl rfl (fun hb => gd_of (c := !((r04.length : Int) != (r06.length : Int))) (by first | exact hb | (rw [hb]; rfl) | simp_all) (B (r16 != r18)))) ?_
    refine s_nil ?_
    refine W.cond (((r04.length : Int) != (r06.length : Int)) || (r16 != r18)) rfl (fun c224z => ?_) (fun c224z => ?_)
    ·replace hM := M.e_t hM c224z
     refine W.seq ?_
     refine W.region rfl ?_
     refine s_val (x_as (v := B false) rfl) ?_
     refine s_nil ?_
     refine W.ret ?_
     have hr_ := M.e_pure hM
     exact ⟨_, resE_tmp rfl, ⟨false, hr_, rfl, (H.pick [] (by decide) rfl)⟩⟩
    ·replace hM := M.e_f hM c224z
     refine W.skip ?_
     refine W.seq ?_
     refine W.seq ?_
     refine W.region rfl ?_
     refine s_val (x_mv (v := u0_11) rfl) ?_
     have hl225z := ((ownSl (H.get (k := 2) rfl))).len_le
     refine s_val (x_lenS T46.und rfl (ownSl (H.get (k := 2) rfl))) ?_
     refine s_val (x_mv (v := I 0) rfl) ?_
     refine s_nil ?_
     refine W.block ?_
     obtain ⟨ex226z, hi227z, hk228z⟩ := M.e_bind hM
     obtain ⟨m0_, hi227z⟩ := M.e_iter hi227z
     refine W.loop (fun m σ W => ∃ (s : Nat) (ρ : Env), σ = upds ρ [(2, .pointer (some ⟨b_1, 0, none⟩)), (5, .pointer (some ⟨b_4, 0, none⟩)), (10, u0_11), (11, u0_13), (67, I (r04.length : Int)), (68, I (s : Int))] ∧ M.iterN (m_nilometerlaw01_LevelMoves_b0 r04 r06) m s = some ex226z ∧ St w W [cOwn (α := Mv) 68 u0_13 r06, cOwn (α := Line) 133 u0_12 r17, cOwn (α := Mv) 50 u0_11 r04, cOwn (α := Line) 34 u0_10 r15, cOwn (α := Line) 133 u0_8 r012, cOwn (α := Line) 133 u0_7 r13, cBlk b_9 [I r002, u0_8] 64, cBlk b_6 [I r00, u0_5] 25, cOwn (α := Line) 34 u0_5 r01, cBlk b_4 [I r0, u0_3] 25, cOwn (α := Line) 34 u0_3 r1, cBlk b_2 [I m_.mark, I m_.day] 50, cBlk b_1 [I n_Marks, v_n_Lines] 25] R) ?_ ?_
     ·exact ⟨_, 0, _, upds_of _ _ ⟨rfl, rfl, rfl, rfl, rfl, rfl, trivial⟩, hi227z, H⟩
     ·rintro m231z σ w229z ⟨s, ρ, rfl, hI230z, H⟩
      obtain ⟨m232z, lt233z, x234z, hM, hN235z⟩ := M.e_iterN hI230z
      simp only [m_nilometerlaw01_LevelMoves_b0] at hM
      clear hI230z
      refine W.seq ?_
      refine W.region rfl ?_
      refine s_val (x_cmp (kd := .i64) (a := (s : Int)) (b := (r04.length : Int)) (r := decide ((s : Int) < (r04.length : Int))) rfl rfl rfl) ?_
      refine s_nil ?_
      refine W.seq ?_
      refine W.cond (decide ((s : Int) < (r04.length : Int))) rfl (fun c236z => ?_) (fun c236z => ?_)
      ·replace hM := M.e_t hM c236z
       simp only [decide_eq_true_eq, decide_eq_false_iff_not, beq_iff_eq, bne_iff_ne, beq_eq_false_iff_ne, bne_eq_false_iff_eq, ne_eq, Decidable.not_not] at c236z
       refine W.skip ?_
       refine W.seq ?_
       refine W.block ?_
       refine W.seq ?_
       refine W.region rfl ?_
       refine s_val (x_mv (v := I (s : Int)) rfl) ?_
       refine s_val (x_as (v := I (s : Int)) rfl) ?_
       refine s_nil ?_
       refine W.seq ?_
       refine W.draw (fun W => St w W [cOwn (α := Mv) 68 u0_13 r06, cOwn (α := Line) 133 u0_12 r17, cOwn (α := Mv) 50 u0_11 r04, cOwn (α := Line) 34 u0_10 r15, cOwn (α := Line) 133 u0_8 r012, cOwn (α := Line) 133 u0_7 r13, cBlk b_9 [I r002, u0_8] 64, cBlk b_6 [I r00, u0_5] 25, cOwn (α := Line) 34 u0_5 r01, cBlk b_4 [I r0, u0_3] 25, cOwn (α := Line) 34 u0_3 r1, cBlk b_2 [I m_.mark, I m_.day] 50, cBlk b_1 [I n_Marks, v_n_Lines] 25] R) [(0, true), (1, true), (2, true), (3, true), (4, true), (5, true), (6, true), (7, true), (8, true)] mixed (by decide +kernel) rfl ?_
       intro w237z hx_
       replace H : St w w237z [cOwn (α := Mv) 68 u0_13 r06, cOwn (α := Line) 133 u0_12 r17, cOwn (α := Mv) 50 u0_11 r04, cOwn (α := Line) 34 u0_10 r15, cOwn (α := Line) 133 u0_8 r012, cOwn (α := Line) 133 u0_7 r13, cBlk b_9 [I r002, u0_8] 64, cBlk b_6 [I r00, u0_5] 25, cOwn (α := Line) 34 u0_5 r01, cBlk b_4 [I r0, u0_3] 25, cOwn (α := Line) 34 u0_3 r1, cBlk b_2 [I m_.mark, I m_.day] 50, cBlk b_1 [I n_Marks, v_n_Lines] 25] R := H.ext hx_
       clear hx_
       refine ⟨(H.pick [0, 1, 2, 3, 4, 5, 6, 7, 8, 9, 10, 11, 12] (by decide) rfl), ?_⟩
       refine d_q rfl (fun w' H => x_mv (v := u0_11) rfl) ?_
       refine d_q rfl (fun w' H => x_mv (v := I (s : Int)) rfl) ?_
       obtain ⟨sd238z, hM⟩ := M.e_grd hM
       simp only [Bool.and_eq_true, decide_eq_true_eq] at sd238z
       refine d_q rfl (fun w' H => x_ix (a := u0_11) (b := I (s : Int)) (v := vat u0_11 2 (Int.toNat (s : Int))) rfl rfl (Sl.ix (α := Mv) T46.und T46.size (ownSl (H.get (k := 2) rfl)) (by omega) (by omega))) ?_
       refine d_q rfl (fun w' H => x_ld (p := vat u0_11 2 (Int.toNat (s : Int))) (v := .agg #[I ((r04.getD s default).mark), I ((r04.getD s default).day)]) rfl (ld_ag Ag50 Sz50 (At.mono (Mv_atA (ownSl (H.get (k := 2) rfl)) (i := (s : Int)) (by omega) (by omega)) (ownLe _ (H.get (k := 2) rfl))))) ?_
       refine d_q rfl (fun w' H => x_mv (v := u0_13) rfl) ?_
       refine d_q rfl (fun w' H => x_mv (v := I (s : Int)) rfl) ?_
       obtain ⟨sd239z, hM⟩ := M.e_grd hM
       simp only [Bool.and_eq_true, decide_eq_true_eq] at sd239z
       refine d_q rfl (fun w' H => x_ix (a := u0_13) (b := I (s : Int)) (v := vat u0_13 2 (Int.toNat (s : Int))) rfl rfl (Sl.ix (α := Mv) T71.und T71.size (ownSl (H.get (k := 0) rfl)) (by omega) (by omega))) ?_
       refine d_q rfl (fun w' H => x_ld (p := vat u0_13 2 (Int.toNat (s : Int))) (v := .agg #[I ((r06.getD s default).mark), I ((r06.getD s default).day)]) rfl (ld_ag Ag68 Sz68 (At.mono (Mv_atA (ownSl (H.get (k := 0) rfl)) (i := (s : Int)) (by omega) (by omega)) (ownLe _ (H.get (k := 0) rfl))))) ?_
       refine d_q rfl (fun w' H => x_neS (eqT68 (r04.getD s default) (r06.getD s default) _) gdT68 rfl rfl) ?_
       refine d_nil ?_
       refine W.cond (!(decide ((r04.getD s default) = (r06.getD s default)))) rfl (fun c240z => ?_) (fun c240z => ?_)
       ·replace hM := M.e_t hM c240z
        refine W.seq ?_
        refine W.region rfl ?_
        refine s_val (x_as (v := B false) rfl) ?_
        refine s_nil ?_
        refine W.ret ?_
        have hX241z := M.e_inr hM hN235z
        subst hX241z
        replace hM := hk228z
        try dsimp only at hM
        have hr_ := M.e_pure hM
        exact ⟨_, resE_tmp rfl, ⟨false, hr_, rfl, (H.pick [] (by decide) rfl)⟩⟩
       ·replace hM := M.e_f hM c240z
        refine W.skip ?_
        refine W.region rfl ?_
        refine s_val (x_ari (a := (s : Int)) (b := 1) (r := (s : Int) + 1) rfl rfl rfl (by omega)) ?_
        refine s_val (x_mv (v := I ((s : Int) + 1)) rfl) ?_
        refine s_nil ?_
        exact ⟨m232z, lt233z, s + 1, _, upds_of _ _ ⟨rfl, rfl, rfl, rfl, rfl, rfl, trivial⟩, M.e_inl hM hN235z, H⟩
      ·replace hM := M.e_f hM c236z
       simp only [decide_eq_true_eq, decide_eq_false_iff_not, beq_iff_eq, bne_iff_ne, beq_eq_false_iff_ne, bne_eq_false_iff_eq, ne_eq, Decidable.not_not] at c236z
       refine W.exit ?_
       have hX242z := M.e_inr hM hN235z
       subst hX242z
       replace hM := hk228z
       try dsimp only at hM
       refine W.seq ?_
       refine W.region rfl ?_
       refine s_val (x_ld (p := .pointer (some ⟨b_4, 0, none⟩)) (v := .agg #[I r0, u0_3]) rfl (ldb_ag (ds := [I r0, u0_3]) Ag25 Sz25 (H.blk (k := 9) rfl) rfl rfl)) ?_
       obtain ⟨r244z, hx243z, hM⟩ := M.e_bind hM
       refine s_call cf32 [.agg #[I r0, u0_3]] rfl (level_Convict_ok r0 r1 (Reads.of (k := 10) rfl ownLe) (ownSl (H.get (k := 10) rfl)) hx243z _ (St.give (T := [cOwn (α := Mv) 68 u0_13 r06, cOwn (α := Line) 133 u0_12 r17, cOwn (α := Mv) 50 u0_11 r04, cOwn (α := Line) 34 u0_10 r15, cOwn (α := Line) 133 u0_8 r012, cOwn (α := Line) 133 u0_7 r13, cBlk b_9 [I r002, u0_8] 64, cBlk b_6 [I r00, u0_5] 25, cOwn (α := Line) 34 u0_5 r01, cBlk b_4 [I r0, u0_3] 25, cOwn (α := Line) 34 u0_3 r1, cBlk b_2 [I m_.mark, I m_.day] 50, cBlk b_1 [I n_Marks, v_n_Lines] 25]) H rfl)) ?_
       rintro vq w245z ⟨r07, r19, hr246z, hvq, H2_⟩
       subst hr246z
       subst vq
       try dsimp only at hM
       replace H : St w w245z [cOwn (α := Mv) 68 u0_13 r06, cOwn (α := Line) 133 u0_12 r17, cOwn (α := Mv) 50 u0_11 r04, cOwn (α := Line) 34 u0_10 r15, cOwn (α := Line) 133 u0_8 r012, cOwn (α := Line) 133 u0_7 r13, cBlk b_9 [I r002, u0_8] 64, cBlk b_6 [I r00, u0_5] 25, cOwn (α := Line) 34 u0_5 r01, cBlk b_4 [I r0, u0_3] 25, cOwn (α := Line) 34 u0_3 r1, cBlk b_2 [I m_.mark, I m_.day] 50, cBlk b_1 [I n_Marks, v_n_Lines] 25] R := H.back H2_ rfl
       clear H2_
       refine s_val (x_mv (v := .tuple #[I r07, I r19]) rfl) ?_
       refine s_val (x_ext (vs := [I r07, I r19]) (v := I r07) rfl rfl) ?_
       refine s_val (x_ext (vs := [I r07, I r19]) (v := I r19) rfl rfl) ?_
       refine s_val (x_as (v := I r07) rfl) ?_
       refine s_val (x_as (v := I r19) rfl) ?_
       refine s_nil ?_
       refine W.seq ?_
       refine W.region rfl ?_
       refine s_val (x_ld (p := .pointer (some ⟨b_1, 0, none⟩)) (v := .agg #[I n_Marks, v_n_Lines]) rfl (ldb_ag (ds := [I n_Marks, v_n_Lines]) Ag25 Sz25 (H.blk (k := 12) rfl) rfl rfl)) ?_
       obtain ⟨r248z, hx247z, hM⟩ := M.e_bind hM
       refine s_call cf28 [.agg #[I n_Marks, v_n_Lines]] rfl (nilometerlaw01_Net_ok n_Marks n_Lines (hC_n_Lines.app _) hs_n_Lines hx247z _ (St.give (T := [cOwn (α := Mv) 68 u0_13 r06, cOwn (α := Line) 133 u0_12 r17, cOwn (α := Mv) 50 u0_11 r04, cOwn (α := Line) 34 u0_10 r15, cOwn (α := Line) 133 u0_8 r012, cOwn (α := Line) 133 u0_7 r13, cBlk b_9 [I r002, u0_8] 64, cBlk b_6 [I r00, u0_5] 25, cOwn (α := Line) 34 u0_5 r01, cBlk b_4 [I r0, u0_3] 25, cOwn (α := Line) 34 u0_3 r1, cBlk b_2 [I m_.mark, I m_.day] 50, cBlk b_1 [I n_Marks, v_n_Lines] 25]) H rfl)) ?_
       rintro vq w249z ⟨r08, r110, u0_14, hr250z, hvq, H2_⟩
       subst hr250z
       subst vq
       try dsimp only at hM
       replace H : St w w249z [cOwn (α := Line) 133 u0_14 r110, cOwn (α := Mv) 68 u0_13 r06, cOwn (α := Line) 133 u0_12 r17, cOwn (α := Mv) 50 u0_11 r04, cOwn (α := Line) 34 u0_10 r15, cOwn (α := Line) 133 u0_8 r012, cOwn (α := Line) 133 u0_7 r13, cBlk b_9 [I r002, u0_8] 64, cBlk b_6 [I r00, u0_5] 25, cOwn (α := Line) 34 u0_5 r01, cBlk b_4 [I r0, u0_3] 25, cOwn (α := Line) 34 u0_3 r1, cBlk b_2 [I m_.mark, I m_.day] 50, cBlk b_1 [I n_Marks, v_n_Lines] 25] R := H.back H2_ rfl
       clear H2_
       obtain ⟨r252z, hx251z, hM⟩ := M.e_bind hM
       refine s_call cf33 [.agg #[I r08, u0_14]] rfl (nilometerref01_Convict_ok r08 r110 (Reads.of (k := 0) rfl ownLe) (ownSl (H.get (k := 0) rfl)) hx251z _ (St.give (T := [cOwn (α := Line) 133 u0_14 r110, cOwn (α := Mv) 68 u0_13 r06, cOwn (α := Line) 133 u0_12 r17, cOwn (α := Mv) 50 u0_11 r04, cOwn (α := Line) 34 u0_10 r15, cOwn (α := Line) 133 u0_8 r012, cOwn (α := Line) 133 u0_7 r13, cBlk b_9 [I r002, u0_8] 64, cBlk b_6 [I r00, u0_5] 25, cOwn (α := Line) 34 u0_5 r01, cBlk b_4 [I r0, u0_3] 25, cOwn (α := Line) 34 u0_3 r1, cBlk b_2 [I m_.mark, I m_.day] 50, cBlk b_1 [I n_Marks, v_n_Lines] 25]) H rfl)) ?_
       rintro vq w253z ⟨r09, r111, hr254z, hvq, H2_⟩
       subst hr254z
       subst vq
       try dsimp only at hM
       replace H : St w w253z [cOwn (α := Line) 133 u0_14 r110, cOwn (α := Mv) 68 u0_13 r06, cOwn (α := Line) 133 u0_12 r17, cOwn (α := Mv) 50 u0_11 r04, cOwn (α := Line) 34 u0_10 r15, cOwn (α := Line) 133 u0_8 r012, cOwn (α := Line) 133 u0_7 r13, cBlk b_9 [I r002, u0_8] 64, cBlk b_6 [I r00, u0_5] 25, cOwn (α := Line) 34 u0_5 r01, cBlk b_4 [I r0, u0_3] 25, cOwn (α := Line) 34 u0_3 r1, cBlk b_2 [I m_.mark, I m_.day] 50, cBlk b_1 [I n_Marks, v_n_Lines] 25] R := H.back H2_ rfl
       clear H2_
       refine s_val (x_mv (v := .tuple #[I r09, I r111]) rfl) ?_
       refine s_val (x_ext (vs := [I r09, I r111]) (v := I r09) rfl rfl) ?_
       refine s_val (x_ext (vs := [I r09, I r111]) (v := I r111) rfl rfl) ?_
       refine s_val (x_as (v := I r09) rfl) ?_
       refine s_val (x_as (v := I r111) rfl) ?_
       refine s_nil ?_
       refine W.seq ?_
       refine W.region rfl ?_
       refine s_val (x_mv (v := I r07) rfl) ?_
       refine s_val (x_mv (v := I r09) rfl) ?_
       refine s_val (x_cmp (kd := .i64) (a := r07) (b := r09) (r := r07 == r09) rfl rfl rfl) ?_
       refine s_val (x_mv (v := B (r07 == r09)) rfl) ?_
       refine g_val (r07 == r09) (gy_t rfl) (fun hg => x_mv (v := I r19) rfl) ?_
       refine g_val (r07 == r09) (gy_t rfl) (fun hg => x_mv (v := I r111) rfl) ?_
       refine g_val (r07 == r09) (gy_t rfl) (fun hg => x_cmp (kd := .i64) (a := r19) (b := r111) (r := r19 == r111) (gd_of (c := r07 == r09) hg (I r19)) (gd_of (c := r07 == r09) hg (I r111)) rfl) ?_
       refine s_val (x_pand (b := r07 == r09) (r := r19 == r111) rfl (fun hb => gd_of (c := r07 == r09) (by first | exact hb | (rw [hb]; rfl) | simp_all) (B (r19 == r111))) rfl) ?_
       refine s_val (x_mv (v := B ((r07 == r09) && (r19 == r111))) rfl) ?_
       refine g_val ((r07 == r09) && (r19 == r111)) (gy_t rfl) (fun hg => x_ld (p := .pointer (some ⟨b_4, 0, none⟩)) (v := .agg #[I r0, u0_3]) rfl (ldb_ag (ds := [I r0, u0_3]) Ag25 Sz25 (H.blk (k := 10) rfl) rfl rfl)) ?_
       refine g_val ((r07 == r09) && (r19 == r111)) (gy_t rfl) (fun hg => x_ld (p := .pointer (some ⟨b_1, 0, none⟩)) (v := .agg #[I n_Marks, v_n_Lines]) rfl (ldb_ag (ds := [I n_Marks, v_n_Lines]) Ag25 Sz25 (H.blk (k := 13) rfl) rfl rfl)) ?_
       obtain ⟨r4, hx255z, hM⟩ := M.e_bind hM
       refine t_gcall ((r07 == r09) && (r19 == r111)) (gy_t rfl) cf29 (B r4) (fun _ => [.agg #[I r0, u0_3], .agg #[I n_Marks, v_n_Lines]]) (fun hg => lst2 (gd_of (c := ((r07 == r09) && (r19 == r111))) hg (.agg #[I r0, u0_3])) (gd_of (c := ((r07 == r09) && (r19 == r111))) hg (.agg #[I n_Marks, v_n_Lines]))) H (fun hg => (nilometerlaw01_same_ok r0 r1 n_Marks n_Lines (Reads.of (k := 11) rfl ownLe) (ownSl (H.get (k := 11) rfl)) (hC_n_Lines.app _) hs_n_Lines (M.e_opt hx255z hg) _ (H.give (A := []) rfl)).mono fun v_ w_ ⟨y_, hr_, hv_, H_⟩ => by subst hr_; exact ⟨hv_, H.via H_⟩) ?_
       intro w256z H
       refine s_val (x_pand (b := ((r07 == r09) && (r19 == r111))) (r := r4) rfl (fun hb => gd_of (c := ((r07 == r09) && (r19 == r111))) (by first | exact hb | (rw [hb]; rfl) | simp_all) (B r4)) rfl) ?_
       refine s_val (x_mv (v := B (((r07 == r09) && (r19 == r111)) && r4)) rfl) ?_
       obtain ⟨r5, hx257z, hM⟩ := M.e_bind hM
       refine t_gcall (((r07 == r09) && (r19 == r111)) && r4) (gy_t rfl) cf18 (B r5) (fun _ => []) (fun _ => rfl) H (fun hg => (nilometerlaw01_awake_ok (M.e_opt hx257z hg) _ (H.give (A := []) rfl)).mono fun v_ w_ ⟨y_, hr_, hv_, H_⟩ => by subst hr_; exact ⟨hv_, H.via H_⟩) ?_
       intro w258z H
       refine s_val (x_pand (b := (((r07 == r09) && (r19 == r111)) && r4)) (r := r5) rfl (fun hb => gd_of (c := (((r07 == r09) && (r19 == r111)) && r4)) (by first | exact hb | (rw [hb]; rfl) | simp_all) (B r5)) rfl) ?_
       refine s_val (x_as (v := B ((((r07 == r09) && (r19 == r111)) && r4) && r5)) rfl) ?_
       refine s_nil ?_
       refine W.ret ?_
       have hr_ := M.e_pure hM
       exact ⟨_, resE_tmp rfl, ⟨((((r07 == r09) && (r19 == r111)) && r4) && r5), hr_, rfl, (H.pick [] (by decide) rfl)⟩⟩

end Go.Proofs.Ytclhljenjphofaa
namespace Go.Nm
namespace M
variable {α β σ ρ : Type}
def Out (m : M α) (Q : α → Prop) : Prop := ∃ r, m.Ends r ∧ Q r
theorem o_of {m : M α} {a : α} {Q : α → Prop} (h : m.Ends a) (q : Q a) : m.Out Q := ⟨a, h, q⟩
theorem o_pure {a : α} {Q : α → Prop} (h : Q a) : (pure a).Out Q := ⟨a, i_pure, h⟩
theorem o_mono {m : M α} {P Q : α → Prop} (h : m.Out P) (k : ∀ a, P a → Q a) : m.Out Q := by
  obtain ⟨a, h1, h2⟩ := h
  exact ⟨a, h1, k a h2⟩
theorem o_bind {m : M α} {k : α → M β} {P : α → Prop} {Q : β → Prop} (h : m.Out P) (h' : ∀ a, P a → (k a).Out Q) : (bind m k).Out Q := by
  obtain ⟨a, h1, h2⟩ := h
  obtain ⟨b, h3, h4⟩ := h' a h2
  exact ⟨b, i_bind h1 h3, h4⟩
theorem o_bindE {m : M α} {k : α → M β} {a : α} {Q : β → Prop} (h : m.Ends a) (h' : (k a).Out Q) : (bind m k).Out Q := o_bind (o_of (Q := fun x => x = a) h rfl) (fun _ e => by subst e; exact h')
theorem o_grd {b : Bool} {k : M α} {Q : α → Prop} (hb : b = true) (h : k.Out Q) : (grd b k).Out Q := by subst hb; exact h
theorem o_grdD {p : Prop} [Decidable p] {k : M α} {Q : α → Prop} (hp : p) (h : k.Out Q) : (grd (decide p) k).Out Q := o_grd (decide_eq_true hp) h
theorem o_if {b : Bool} {x y : M α} {Q : α → Prop} (h : b = true → x.Out Q) (h' : b = false → y.Out Q) : (bif b then x else y).Out Q := by
  cases b with
  | true => exact h rfl
  | false => exact h' rfl
theorem o_t {b : Bool} {x y : M α} {Q : α → Prop} (hb : b = true) (h : x.Out Q) : (bif b then x else y).Out Q := by subst hb; exact h
theorem o_f {b : Bool} {x y : M α} {Q : α → Prop} (hb : b = false) (h : y.Out Q) : (bif b then x else y).Out Q := by subst hb; exact h
/-- What a round leaves. -/
def Rd (J : Nat → σ → Prop) (Q : ρ → Prop) (m : Nat) : σ ⊕ ρ → Prop
  | .inl s => ∃ m', m' < m ∧ J m' s
  | .inr r => Q r
theorem o_iter {body : σ → M (σ ⊕ ρ)} {Q : ρ → Prop} (J : Nat → σ → Prop) (round : ∀ m s, J m s → (body s).Out (Rd J Q m)) : ∀ (m : Nat) (s : σ), J m s → (iter body s).Out Q := by
  intro m
  induction m using Nat.strongRecOn with
  | _ m ih =>
    intro s hs
    obtain ⟨x, h1, h2⟩ := round m s hs
    cases x with
    | inl s' =>
      obtain ⟨m', hlt, hj⟩ := h2
      obtain ⟨r, h3, h4⟩ := ih m' hlt s' hj
      exact ⟨r, i_next h1 h3, h4⟩
    | inr r => exact ⟨r, i_stop h1, h2⟩
/-- A loop that counts from 0 to n. -/
theorem o_for {body : σ → M (σ ⊕ ρ)} {Q : ρ → Prop} (n : Nat) (J : Nat → σ → Prop) (round : ∀ i s, i < n → J i s → (body s).Out (fun x => match x with | .inl s' => J (i + 1) s' | .inr r => Q r))
    (last : ∀ s, J n s → (body s).Out (fun x => match x with | .inl _ => False | .inr r => Q r)) {s : σ} (h : J 0 s) : (iter body s).Out Q := by
  refine o_iter (fun m s => ∃ i, i ≤ n ∧ m = n - i ∧ J i s) ?_ n s ⟨0, Nat.zero_le _, rfl, h⟩
  rintro m s ⟨i, hi, rfl, hj⟩
  by_cases e : i < n
  · refine o_mono (round i s e hj) ?_
    intro x hx
    cases x with
    | inl s' => exact ⟨n - (i + 1), by omega, i + 1, e, rfl, hx⟩
    | inr r => exact hx
  · obtain rfl : i = n := by omega
    refine o_mono (last s hj) ?_
    intro x hx
    cases x with
    | inl s' => exact hx.elim
    | inr r => exact hx
end M
theorem M.i_f {α : Type} {b : Bool} {x y : M α} {r : α} (hb : b = false) (h : y.Ends r) : (bif b then x else y).Ends r := by subst hb; exact h
theorem M.i_t {α : Type} {b : Bool} {x y : M α} {r : α} (hb : b = true) (h : x.Ends r) : (bif b then x else y).Ends r := by subst hb; exact h
theorem take_succ_D {α : Type} (l : List α) (i : Nat) (h : i < l.length) (d : α) : l.take i ++ [l.getD i d] = l.take (i + 1) := by
  rw [List.take_succ_eq_append_getElem h]
  simp [List.getD, h]
theorem gset {α : Type} (l : List α) (i j : Nat) (x d : α) (h : i < l.length) : (l.set i x).getD j d = if j = i then x else l.getD j d := by
  simp only [List.getD_eq_getElem?_getD, List.getElem?_set]
  by_cases e : i = j
  · subst e; simp [h]
  · rw [if_neg e, if_neg (fun h => e h.symm)]
theorem getD_el {α : Type} (l : List α) {k : Nat} (h : k < l.length) (d : α) : l.getD k d = l[k] := by rw [List.getD_eq_getElem?_getD, List.getElem?_eq_getElem h, Option.getD_some]
theorem gOr {c : Bool} {p : Prop} [Decidable p] (hp : p) : (!c || decide p) = true := by rw [decide_eq_true hp, Bool.or_true]
theorem gOr2 {c : Bool} {p q : Prop} [Decidable p] [Decidable q] (hp : p) (hq : q) : (!c || (decide p && decide q)) = true := by rw [decide_eq_true hp, decide_eq_true hq]; cases c <;> rfl
theorem gA2 {p q : Prop} [Decidable p] [Decidable q] (hp : p) (hq : q) : (decide p && decide q) = true := by rw [decide_eq_true hp, decide_eq_true hq]; rfl
theorem nodup_bound : ∀ (n : Nat) (l : List Int), l.Nodup → (∀ x ∈ l, 0 ≤ x ∧ x < n) → l.length ≤ n
  | 0, l, _, hb => by
    cases l with
    | nil => exact Nat.le_refl _
    | cons x l => have := hb x (by simp); omega
  | n + 1, l, hn, hb => by
    by_cases hm : (n : Int) ∈ l
    · have h1 : (l.erase (n : Int)).length = l.length - 1 := List.length_erase_of_mem hm
      have h2 := nodup_bound n (l.erase (n : Int)) (hn.erase _) (fun x hx => by
        have hx' := (List.Nodup.mem_erase_iff hn).1 hx
        have := hb x hx'.2
        have := hx'.1
        omega)
      have := List.length_pos_of_mem hm
      omega
    · have := nodup_bound n l hn (fun x hx => by
        have := hb x hx
        have : x ≠ n := fun e => hm (e ▸ hx)
        omega)
      omega
theorem mem_getD {α : Type} {l : List α} {x : α} (h : x ∈ l) (d : α) : ∃ i, i < l.length ∧ l.getD i d = x := by
  obtain ⟨i, hi, e⟩ := List.getElem_of_mem h
  exact ⟨i, hi, by rw [getD_el l hi d]; exact e⟩
end Go.Nm
namespace Go.Nm
/-- A leg leads from a mark to another one, and can rise so much. -/
def Ed (ls : List Line) (a b c : Int) : Prop := ∃ l, l ∈ ls ∧ ((l.src = a ∧ l.dst = b ∧ c = l.err + l.rise) ∨ (l.dst = a ∧ l.src = b ∧ c = l.err - l.rise))
/-- Heights agree with all lines. -/
def Feas (ls : List Line) (h : Int → Int) : Prop := ∀ l, l ∈ ls → l.rise - l.err ≤ h l.dst - h l.src ∧ h l.dst - h l.src ≤ l.rise + l.err
inductive Wk (ls : List Line) (a : Int) : List Int → Int → Prop
  | one : Wk ls a [a] 0
  | snoc {m b : Int} {vs : List Int} {c e : Int} (w : Wk ls a (m :: vs) c) (he : Ed ls m b e) : Wk ls a (b :: m :: vs) (c + e)
variable {ls : List Line} {h : Int → Int} {a b c : Int}
theorem Feas.ed (hF : Feas ls h) (e : Ed ls a b c) : h b - h a ≤ c := by
  obtain ⟨l, hl, ⟨rfl, rfl, rfl⟩ | ⟨rfl, rfl, rfl⟩⟩ := e
  · have := hF l hl; omega
  · have := hF l hl; omega
theorem feas_of (hE : ∀ a b c, Ed ls a b c → h b - h a ≤ c) : Feas ls h := fun l hl => by
  have h1 := hE l.src l.dst _ ⟨l, hl, .inl ⟨rfl, rfl, rfl⟩⟩
  have h2 := hE l.dst l.src _ ⟨l, hl, .inr ⟨rfl, rfl, rfl⟩⟩
  omega
theorem Ed.rev (e : Ed ls a b c) : ∃ c', Ed ls b a c' := by
  obtain ⟨l, hl, ⟨rfl, rfl, rfl⟩ | ⟨rfl, rfl, rfl⟩⟩ := e
  · exact ⟨_, l, hl, .inr ⟨rfl, rfl, rfl⟩⟩
  · exact ⟨_, l, hl, .inl ⟨rfl, rfl, rfl⟩⟩
theorem Ed.sub {ks : List Line} (e : Ed ls a b c) (hs : ∀ l, l ∈ ls → l ∈ ks) : Ed ks a b c := by
  obtain ⟨l, hl, h⟩ := e
  exact ⟨l, hs l hl, h⟩
theorem Wk.sub {ks : List Line} {vs : List Int} (w : Wk ls a vs c) (hs : ∀ l, l ∈ ls → l ∈ ks) : Wk ks a vs c := by
  induction w with
  | one => exact .one
  | snoc _ he ih => exact .snoc ih (he.sub hs)
theorem Wk.feas (hF : Feas ls h) {vs : List Int} (w : Wk ls a vs c) : ∀ b, vs.head? = some b → h b - h a ≤ c := by
  induction w with
  | one => intro b hb; simp at hb; subst hb; omega
  | snoc _ he ih =>
    intro b hb
    simp at hb
    subst hb
    have h1 := ih _ rfl
    have h2 := hF.ed he
    omega
theorem Wk.le (hF : Feas ls h) {vs : List Int} (w : Wk ls a (b :: vs) c) : h b - h a ≤ c := w.feas hF b rfl
theorem Wk.ne {c : Int} (w : Wk ls a [] c) : False := by cases w
theorem Wk.last {vs : List Int} (w : Wk ls a vs c) : vs.getLast? = some a := by
  induction w with
  | one => rfl
  | snoc _ _ ih => rw [List.getLast?_cons_cons]; exact ih
/-- The end of a walk, put behind another one. -/
theorem Wk.cut : ∀ (xs : List Int) {v : Int} {ys : List Int} {c : Int}, Wk ls a (xs ++ v :: ys) c → ∃ c1, Wk ls a (v :: ys) c1 ∧ ∀ (a' : Int) (zs : List Int) (c2 : Int), Wk ls a' (v :: zs) c2 → Wk ls a' (xs ++ v :: zs) (c2 + (c - c1))
  | [], v, ys, c, w => ⟨c, w, fun a' zs c2 w2 => by rw [show c2 + (c - c) = c2 by omega]; exact w2⟩
  | [x], v, ys, c, w => by
    cases w with
    | snoc w he =>
      refine ⟨_, w, fun a' zs c2 w2 => ?_⟩
      rename_i c0 e
      rw [show c2 + (c0 + e - c0) = c2 + e by omega]
      exact .snoc w2 he
  | x :: y :: xs, v, ys, c, w => by
    cases w with
    | snoc w he =>
      rename_i c0 e
      obtain ⟨c1, h1, h2⟩ := Wk.cut (y :: xs) w
      refine ⟨c1, h1, fun a' zs c2 w2 => ?_⟩
      have := h2 a' zs c2 w2
      rw [show c2 + (c0 + e - c1) = c2 + (c0 - c1) + e by omega]
      exact .snoc this he
theorem Wk.app {m : Int} {vs ws : List Int} {c d : Int} (w : Wk ls a (m :: vs) c) (w' : Wk ls m (b :: ws) d) : ∃ us, Wk ls a (b :: us) (c + d) := by
  generalize hl : b :: ws = l at w'
  induction w' generalizing b ws with
  | one => cases hl; exact ⟨vs, by rw [Int.add_zero]; exact w⟩
  | snoc w2 he ih =>
    cases hl
    obtain ⟨us, hu⟩ := ih rfl
    exact ⟨_, by rw [← Int.add_assoc]; exact .snoc hu he⟩
theorem Wk.edge (e : Ed ls a b c) : Wk ls a [b, a] c := by
  have := Wk.snoc (.one (ls := ls) (a := a)) e
  rwa [Int.zero_add] at this
/-- Who can go can go back. -/
theorem Wk.back {vs : List Int} (w : Wk ls a vs c) : ∀ b, vs.head? = some b → ∃ us d, Wk ls b (a :: us) d := by
  induction w with
  | one => intro b hb; simp at hb; subst hb; exact ⟨[], 0, .one⟩
  | snoc _ he ih =>
    intro b hb
    simp at hb
    subst hb
    obtain ⟨c', hr⟩ := he.rev
    obtain ⟨us, d, hw⟩ := ih _ rfl
    obtain ⟨vs, hv⟩ := (Wk.edge hr).app hw
    exact ⟨vs, _, hv⟩
theorem not_nodup : ∀ (l : List Int), ¬ l.Nodup → ∃ xs v ys zs, l = xs ++ v :: (ys ++ v :: zs)
  | [], h => absurd List.nodup_nil h
  | x :: l, h => by
    by_cases hx : x ∈ l
    · obtain ⟨ys, zs, rfl⟩ := List.append_of_mem hx
      exact ⟨[], x, ys, zs, rfl⟩
    · obtain ⟨xs, v, ys, zs, e⟩ := not_nodup l (fun hn => h (List.nodup_cons.2 ⟨hx, hn⟩))
      exact ⟨x :: xs, v, ys, zs, by rw [e]; rfl⟩
/-- A walk without a mark twice can rise no more, if some heights agree. -/
theorem Wk.short (hF : Feas ls h) : ∀ (k : Nat) {vs : List Int} {b c : Int}, vs.length ≤ k → Wk ls a (b :: vs) c → ∃ vs' c', Wk ls a (b :: vs') c' ∧ c' ≤ c ∧ (b :: vs').Nodup
  | 0, vs, b, c, hk, w => by
    have : vs = [] := List.length_eq_zero_iff.1 (Nat.le_zero.1 hk)
    subst this
    exact ⟨[], c, w, Int.le_refl _, by simp⟩
  | k + 1, vs, b, c, hk, w => by
    by_cases hn : (b :: vs).Nodup
    · exact ⟨vs, c, w, Int.le_refl _, hn⟩
    · obtain ⟨xs, v, ys, zs, e⟩ := not_nodup _ hn
      rw [e] at w
      obtain ⟨c1, w1, t1⟩ := Wk.cut xs w
      obtain ⟨c2, w2, t2⟩ := Wk.cut (v :: ys) (v := v) (ys := zs) w1
      have w3 := t2 v [] 0 .one
      have h3 : 0 ≤ c1 - c2 := by have := Wk.le hF w3; omega
      have w4 := t1 a zs c2 w2
      have hlen : (xs ++ v :: zs).length ≤ k + 1 := by
        have := congrArg List.length e
        simp at this hk ⊢
        omega
      cases xs with
      | nil =>
        simp only [List.nil_append] at e w4 hlen
        have hb : b = v := (List.cons.inj e).1
        subst hb
        obtain ⟨vs', c', g1, g2, g3⟩ := Wk.short hF k (by simpa using hlen) w4
        exact ⟨vs', c', g1, by omega, g3⟩
      | cons x xs =>
        simp only [List.cons_append] at e w4 hlen
        have hb : b = x := (List.cons.inj e).1
        subst hb
        obtain ⟨vs', c', g1, g2, g3⟩ := Wk.short hF k (by simpa using hlen) w4
        exact ⟨vs', c', g1, by omega, g3⟩
/-- All lines lie between marks. -/
def Rng (n : Int) (ls : List Line) : Prop := ∀ l, l ∈ ls → (0 ≤ l.src ∧ l.src < n) ∧ (0 ≤ l.dst ∧ l.dst < n)
theorem Ed.rng {n : Int} (hR : Rng n ls) (e : Ed ls a b c) : (0 ≤ a ∧ a < n) ∧ (0 ≤ b ∧ b < n) := by
  obtain ⟨l, hl, ⟨rfl, rfl, rfl⟩ | ⟨rfl, rfl, rfl⟩⟩ := e
  · exact hR l hl
  · exact ⟨(hR l hl).2, (hR l hl).1⟩
theorem Wk.rng {n : Int} (hR : Rng n ls) (ha : 0 ≤ a ∧ a < n) {vs : List Int} (w : Wk ls a vs c) : ∀ v, v ∈ vs → 0 ≤ v ∧ v < n := by
  induction w with
  | one => intro v hv; simp at hv; subst hv; exact ha
  | snoc _ he ih =>
    intro v hv
    rcases List.mem_cons.1 hv with rfl | hv
    · exact (he.rng hR).2
    · exact ih v hv
/-- A shortest walk has fewer legs than there are marks. -/
theorem Wk.few {n : Nat} (hF : Feas ls h) (hR : Rng n ls) (ha : 0 ≤ a ∧ a < n) {vs : List Int} (w : Wk ls a (b :: vs) c) : ∃ vs' c', Wk ls a (b :: vs') c' ∧ c' ≤ c ∧ (b :: vs').Nodup ∧ vs'.length + 1 ≤ n := by
  obtain ⟨vs', c', g1, g2, g3⟩ := Wk.short hF _ (Nat.le_refl _) w
  exact ⟨vs', c', g1, g2, g3, nodup_bound n _ g3 (g1.rng hR ha)⟩
/-- What a walk can rise lies between bounds, as long as a leg's does. -/
theorem Wk.size (hB : ∀ a b c, Ed ls a b c → -1010000 ≤ c ∧ c ≤ 1010000) {vs : List Int} (w : Wk ls a vs c) : -(1010000 * (vs.length : Int)) + 1010000 ≤ c ∧ c ≤ 1010000 * (vs.length : Int) - 1010000 := by
  induction w with
  | one => simp
  | @snoc m b vs c e _ he ih =>
    have h1 := hB _ _ _ he
    simp only [List.length_cons, Int.natCast_succ] at ih ⊢
    omega
/-- The greatest difference. -/
structure IsDist (ls : List Line) (a b d : Int) : Prop where
  has : ∃ vs, Wk ls a (b :: vs) d
  le : ∀ vs c, Wk ls a (b :: vs) c → d ≤ c
def Tied (ls : List Line) (a b : Int) : Prop := ∃ vs c, Wk ls a (b :: vs) c
theorem IsDist.tied {d : Int} (h : IsDist ls a b d) : Tied ls a b := let ⟨vs, w⟩ := h.has; ⟨vs, d, w⟩
theorem Tied.refl (ls : List Line) (a : Int) : Tied ls a a := ⟨[], 0, .one⟩
theorem Tied.symm (t : Tied ls a b) : Tied ls b a := by
  obtain ⟨vs, c, w⟩ := t
  obtain ⟨us, d, h⟩ := w.back b rfl
  exact ⟨us, d, h⟩
theorem Tied.trans {m : Int} (t : Tied ls a m) (u : Tied ls m b) : Tied ls a b := by
  obtain ⟨vs, c, w⟩ := t
  obtain ⟨us, d, w'⟩ := u
  obtain ⟨xs, h⟩ := w.app w'
  exact ⟨xs, _, h⟩
theorem Tied.ed (e : Ed ls a b c) : Tied ls a b := ⟨_, _, Wk.edge e⟩
theorem least_nat {p : Nat → Prop} (h : ∃ n, p n) : ∃ n, p n ∧ ∀ k, p k → n ≤ k := by
  obtain ⟨n, hn⟩ := h
  induction n using Nat.strongRecOn with
  | _ n ih =>
    by_cases hc : ∃ k, k < n ∧ p k
    · obtain ⟨k, hk, hp⟩ := hc
      exact ih k hk hp
    · exact ⟨n, hn, fun k hk => by
        rcases Nat.lt_or_ge k n with hlt | hge
        · exact absurd ⟨k, hlt, hk⟩ hc
        · exact hge⟩
theorem IsDist.uniq {d d' : Int} (h1 : IsDist ls a b d) (h2 : IsDist ls a b d') : d = d' := by
  obtain ⟨vs, w⟩ := h1.has
  obtain ⟨us, w'⟩ := h2.has
  have := h1.le _ _ w'
  have := h2.le _ _ w
  omega
theorem IsDist.self (hF : Feas ls h) : IsDist ls a a 0 := ⟨⟨[], .one⟩, fun _ _ w => by have := w.le hF; omega⟩
theorem IsDist.step {m d e : Int} (h1 : IsDist ls a m d) (he : Ed ls m b e) {d' : Int} (h2 : IsDist ls a b d') : d' ≤ d + e := by
  obtain ⟨vs, w⟩ := h1.has
  exact h2.le _ _ (.snoc w he)
theorem IsDist.feas {d : Int} (hF : Feas ls h) (h1 : IsDist ls a b d) : h b - h a ≤ d := by
  obtain ⟨vs, w⟩ := h1.has
  exact w.le hF
end Go.Nm
namespace Go.Nm
/-- A net as it may be. -/
structure NetOk (n : Int) (ls : List Line) : Prop where
  marks : 1 ≤ n ∧ n ≤ 12
  few : ls.length ≤ 30
  rng : Rng n ls
  ne : ∀ l, l ∈ ls → l.src ≠ l.dst
  day : ∀ l, l ∈ ls → 0 ≤ l.day ∧ l.day ≤ 40000
  rise : ∀ l, l ∈ ls → -1000000 ≤ l.rise ∧ l.rise ≤ 1000000
  err : ∀ l, l ∈ ls → 0 ≤ l.err ∧ l.err ≤ 10000
variable {ls : List Line} {n a b c : Int} {h : Int → Int}
theorem NetOk.ed (hN : NetOk n ls) : ∀ a b c, Ed ls a b c → -1010000 ≤ c ∧ c ≤ 1010000 := by
  rintro a b c ⟨l, hl, ⟨_, _, rfl⟩ | ⟨_, _, rfl⟩⟩
  · have := hN.rise l hl; have := hN.err l hl; omega
  · have := hN.rise l hl; have := hN.err l hl; omega
/-- What is known of a row at work. -/
structure BF (ls : List Line) (n a : Int) (D : Int → Int) (k : Int) : Prop where
  top : ∀ v, 0 ≤ v → v < n → D v ≤ 1099511627776
  snd : ∀ v, 0 ≤ v → v < n → D v < 1099511627776 → ∃ vs, Wk ls a (v :: vs) (D v)
  low : ∀ v, 0 ≤ v → v < n → -(1010000 * k) ≤ D v
  own : D a ≤ 0
  up : ∀ v, 0 ≤ v → v < n → D v < 1099511627776 → D v ≤ 1010000 * k
theorem BF.init (ls : List Line) (n a : Int) : BF ls n a (fun v => if v = a then 0 else 1099511627776) 0 where
  top v _ _ := by first | (split <;> omega) | (dsimp only; split <;> omega)
  snd v _ _ hv := by
    try dsimp only at hv ⊢
    split at hv
    · rename_i e; subst e; rw [if_pos rfl]; exact ⟨[], .one⟩
    · omega
  low v _ _ := by first | (split <;> omega) | (dsimp only; split <;> omega)
  own := by rw [if_pos rfl]; exact Int.le_refl _
  up v _ _ := by first | (split <;> omega) | (dsimp only; split <;> omega)
theorem BF.congr {D D' : Int → Int} {k : Int} (hB : BF ls n a D k) (ha : 0 ≤ a ∧ a < n) (hN : Rng n ls) (e : ∀ v, 0 ≤ v → v < n → D' v = D v) : BF ls n a D' k where
  top v h0 h1 := by rw [e v h0 h1]; exact hB.top v h0 h1
  snd v h0 h1 := by rw [e v h0 h1]; exact hB.snd v h0 h1
  low v h0 h1 := by rw [e v h0 h1]; exact hB.low v h0 h1
  own := by rw [e a ha.1 ha.2]; exact hB.own
  up v h0 h1 := by rw [e v h0 h1]; exact hB.up v h0 h1
theorem BF.mono {D : Int → Int} {k k' : Int} (hB : BF ls n a D k) (hk : k ≤ k') : BF ls n a D k' := ⟨hB.top, hB.snd, fun v h0 h1 => by have := hB.low v h0 h1; omega, hB.own, fun v h0 h1 h2 => by have := hB.up v h0 h1 h2; omega⟩
theorem BF.relax {D : Int → Int} {k m g e : Int} (hB : BF ls n a D k) (hk : 0 ≤ k) (he : Ed ls m g e) (hb : -1010000 ≤ e ∧ e ≤ 1010000) (hm : 0 ≤ m ∧ m < n) (hg : 0 ≤ g ∧ g < n) (h1 : D m < 1099511627776) (h2 : D m + e < D g) : BF ls n a (fun v => if v = g then D m + e else D v) (k + 1) where
  top v h0 h3 := by
    try dsimp only
    split
    · have := hB.top g hg.1 hg.2; omega
    · exact hB.top v h0 h3
  snd v h0 h3 hv := by
    try dsimp only at hv ⊢
    split at hv
    · rename_i e; subst e
      rw [if_pos rfl]
      obtain ⟨vs, w⟩ := hB.snd m hm.1 hm.2 h1
      exact ⟨_, .snoc w he⟩
    · rename_i e; rw [if_neg e]; exact hB.snd v h0 h3 hv
  low v h0 h3 := by
    try dsimp only
    split
    · have := hB.low m hm.1 hm.2; omega
    · have := hB.low v h0 h3; omega
  own := by
    try dsimp only
    split
    · rename_i e; subst e; have := hB.own; omega
    · exact hB.own
  up v h0 h3 hv := by
    try dsimp only at hv ⊢
    split at hv
    · rename_i e; rw [if_pos e]; have := hB.up m hm.1 hm.2 h1; omega
    · rename_i e; rw [if_neg e]; have := hB.up v h0 h3 hv; omega
/-- Walks of so many legs are told. -/
def Cov (ls : List Line) (a : Int) (D : Int → Int) (r : Nat) : Prop := ∀ vs b c, Wk ls a (b :: vs) c → vs.length ≤ r → D b ≤ c
theorem Cov.zero {D : Int → Int} (h : D a ≤ 0) : Cov ls a D 0 := by
  intro vs b c w hl
  have : vs = [] := List.length_eq_zero_iff.1 (Nat.le_zero.1 hl)
  subst this
  cases w
  exact h
theorem Cov.next {D D' : Int → Int} {r : Nat} (hN : NetOk n ls) (hr : r ≤ 1000) (hC : Cov ls a D r) (ha : 0 ≤ a ∧ a < n) (hle : ∀ v, 0 ≤ v → v < n → D' v ≤ D v) (hE : ∀ m g e, Ed ls m g e → D m < 1099511627776 → D' g ≤ D m + e) : Cov ls a D' (r + 1) := by
  intro vs b c w hl
  cases w with
  | one => exact Int.le_trans (hle _ ha.1 ha.2) (hC [] _ _ .one (Nat.zero_le _))
  | snoc w he =>
    rename_i m ws c0 e
    have h1 := hC _ _ _ w (by simpa using hl)
    have h2 := w.size hN.ed
    simp only [List.length_cons] at h2 hl
    have h3 : D m < 1099511627776 := by omega
    have := hE _ _ _ he h3
    omega
/-- At the end. -/
structure Done (ls : List Line) (n a : Int) (D : Int → Int) : Prop where
  far : ∀ v, 0 ≤ v → v < n → D v ≠ 1099511627776 → D v < 1099511627776
  dist : ∀ v, 0 ≤ v → v < n → D v < 1099511627776 → IsDist ls a v (D v)
  tied : ∀ v, 0 ≤ v → v < n → Tied ls a v → D v < 1099511627776
theorem BF.done {D : Int → Int} {k : Int} {r N : Nat} (hN : NetOk n ls) (hF : Feas ls h) (e : (N : Int) = n) (ha : 0 ≤ a ∧ a < n) (hB : BF ls n a D k) (hC : Cov ls a D r) (hr : N ≤ r + 1) : Done ls n a D := by
  have hle : ∀ vs b c, Wk ls a (b :: vs) c → D b ≤ c ∧ D b < 1099511627776 := by
    intro vs b c w
    obtain ⟨vs', c', w', h1, h2, h3⟩ := w.few (n := N) hF (by rw [e]; exact hN.rng) (by rw [e]; exact ha)
    have h4 := hC _ _ _ w' (by omega)
    have h5 := w'.size hN.ed
    simp only [List.length_cons] at h5
    have := hN.marks
    exact ⟨by omega, by omega⟩
  refine ⟨fun v h0 h1 h2 => ?_, fun v h0 h1 h2 => ⟨hB.snd v h0 h1 h2, fun vs c w => (hle vs v c w).1⟩, fun v h0 h1 ⟨vs, c, w⟩ => (hle vs v c w).2⟩
  have := hB.top v h0 h1
  omega
/-- Rows that no leg makes less. -/
structure Tight (ls : List Line) (n : Int) (T : Int → Int → Int) : Prop where
  leg : ∀ a m g e, 0 ≤ a → a < n → Ed ls m g e → T a m < 1099511627776 → T a g ≤ T a m + e
  zero : ∀ a, 0 ≤ a → a < n → T a a = 0
theorem Tight.feas {T : Int → Int → Int} (hN : NetOk n ls) (hS : Tight ls n T) (ht : ∀ a v, 0 ≤ a → a < n → 0 ≤ v → v < n → T a v ≤ 1099511627776) (f : Int → Int)
    (hf : ∀ v, 0 ≤ v → v < n → (0 ≤ f v ∧ f v < n) ∧ T (f v) v < 1099511627776 ∧ ∀ u, 0 ≤ u → u < f v → ¬ T u v < 1099511627776) (hb : ∀ a m g e, 0 ≤ a → a < n → Ed ls m g e → T a m < 1099511627776 → T a m + e < 1099511627776) : Feas ls (fun v => T (f v) v) := by
  refine feas_of fun m g e he => ?_
  have hr := he.rng hN.rng
  have hm := hf m hr.1.1 hr.1.2
  have hg := hf g hr.2.1 hr.2.2
  have step : ∀ u v, Ed ls u v e ∨ (∃ e', Ed ls u v e') → True := fun _ _ _ => trivial
  have same : f m = f g := by
    have key : ∀ u v e', Ed ls u v e' → f v ≤ f u := by
      intro u v e' h'
      have hr' := h'.rng hN.rng
      have h1 := hf u hr'.1.1 hr'.1.2
      have h2 := hf v hr'.2.1 hr'.2.2
      have h3 := hS.leg _ _ _ _ h1.1.1 h1.1.2 h' h1.2.1
      have h4 := hb _ _ _ _ h1.1.1 h1.1.2 h' h1.2.1
      rcases Int.lt_or_le (f u) (f v) with hlt | hge
      · exact absurd (by omega) (h2.2.2 (f u) h1.1.1 hlt)
      · exact hge
    obtain ⟨e', hr'⟩ := he.rev
    have := key _ _ _ he
    have := key _ _ _ hr'
    omega
  try dsimp only
  have h3 := hS.leg (f m) m g e hm.1.1 hm.1.2 he hm.2.1
  rw [← same]
  omega
/-! ### Legs, and the last legs of shortest walks -/
def LegOk (ls : List Line) (g : Leg) : Prop := 0 ≤ g.line ∧ g.line < (ls.length : Int)
def lnOf (ls : List Line) (g : Leg) : Line := ls.getD (Int.toNat g.line) default
def sOf (ls : List Line) (g : Leg) : Int := legEnd g.back (lnOf ls g)
def gOf (ls : List Line) (g : Leg) : Int := legEnd (!g.back) (lnOf ls g)
def rOf (ls : List Line) (g : Leg) : Int := bif g.back then (lnOf ls g).err - (lnOf ls g).rise else (lnOf ls g).err + (lnOf ls g).rise
theorem LegOk.mem {g : Leg} (h : LegOk ls g) : lnOf ls g ∈ ls := by
  unfold lnOf
  have hl : Int.toNat g.line < ls.length := by have := h.1; have := h.2; omega
  rw [getD_el ls hl]
  exact List.getElem_mem hl
theorem LegOk.ed {g : Leg} (h : LegOk ls g) : Ed ls (sOf ls g) (gOf ls g) (rOf ls g) := by
  refine ⟨lnOf ls g, h.mem, ?_⟩
  unfold sOf gOf rOf legEnd
  cases g.back with
  | true => exact .inr ⟨rfl, rfl, rfl⟩
  | false => exact .inl ⟨rfl, rfl, rfl⟩
theorem leg_of (he : Ed ls a b c) : ∃ (i : Nat) (k : Bool), i < ls.length ∧ sOf ls ⟨i, k⟩ = a ∧ gOf ls ⟨i, k⟩ = b ∧ rOf ls ⟨i, k⟩ = c := by
  obtain ⟨l, hl, h⟩ := he
  obtain ⟨i, hi, rfl⟩ := mem_getD hl default
  rcases h with ⟨rfl, rfl, rfl⟩ | ⟨rfl, rfl, rfl⟩
  · exact ⟨i, false, hi, rfl, rfl, rfl⟩
  · exact ⟨i, true, hi, rfl, rfl, rfl⟩
/-- The last legs lead back to the first mark. -/
inductive Ch (ls : List Line) (a : Int) (by_ : Int → Leg) : Int → Prop
  | root : Ch ls a by_ a
  | up {v : Int} (hv : v ≠ a) (h : Ch ls a by_ (sOf ls (by_ v))) : Ch ls a by_ v
structure ByOk (ls : List Line) (n a : Int) (D : Int → Int) (by_ : Int → Leg) : Prop where
  leg : ∀ v, 0 ≤ v → v < n → v ≠ a → D v < 1099511627776 → LegOk ls (by_ v) ∧ gOf ls (by_ v) = v ∧ D (sOf ls (by_ v)) + rOf ls (by_ v) ≤ D v ∧ D (sOf ls (by_ v)) < 1099511627776
  chn : ∀ h, Feas ls h → ∀ v, 0 ≤ v → v < n → D v < 1099511627776 → Ch ls a by_ v
theorem ByOk.init (ls : List Line) (n a : Int) (by_ : Int → Leg) : ByOk ls n a (fun v => if v = a then 0 else 1099511627776) by_ where
  leg v _ _ hv h := by rw [if_neg hv] at h; omega
  chn h _ v _ _ hd := by
    by_cases e : v = a
    · subst e; exact .root
    · rw [if_neg e] at hd; omega
theorem Ch.congr {by_ by' : Int → Leg} (e : ∀ v, 0 ≤ v → v < n → by' v = by_ v) (hR : ∀ v, 0 ≤ v → v < n → v ≠ a → Ch ls a by_ v → 0 ≤ sOf ls (by_ v) ∧ sOf ls (by_ v) < n) {v : Int} (h0 : 0 ≤ v ∧ v < n) (h : Ch ls a by_ v) : Ch ls a by' v := by
  induction h with
  | root => exact .root
  | @up v hv hc ih => exact .up hv (by rw [e v h0.1 h0.2]; exact ih (hR v h0.1 h0.2 hv (.up hv hc)))
theorem ByOk.congr {D D' : Int → Int} {by_ by' : Int → Leg} (hN : NetOk n ls) (hB : ByOk ls n a D by_) (e : ∀ v, 0 ≤ v → v < n → D' v = D v) (e' : ∀ v, 0 ≤ v → v < n → by' v = by_ v) : ByOk ls n a D' by' where
  leg v h0 h1 hv hd := by
    rw [e v h0 h1] at hd ⊢
    rw [e' v h0 h1]
    obtain ⟨h2, h3, h4, h5⟩ := hB.leg v h0 h1 hv hd
    have hr := (h2.ed.rng hN.rng).1
    rw [e _ hr.1 hr.2]
    exact ⟨h2, h3, h4, h5⟩
  chn h hF v h0 h1 hd := by
    rw [e v h0 h1] at hd
    have hc := hB.chn h hF v h0 h1 hd
    have key : ∀ v, Ch ls a by_ v → 0 ≤ v → v < n → D v < 1099511627776 → Ch ls a by' v := by
      intro v hc
      induction hc with
      | root => exact fun _ _ _ => .root
      | @up v hv hc ih =>
        intro h0 h1 hd
        obtain ⟨h2, h3, h4, h5⟩ := hB.leg v h0 h1 hv hd
        have hr := (h2.ed.rng hN.rng).1
        exact .up hv (by rw [e' v h0 h1]; exact ih hr.1 hr.2 h5)
    exact key v hc h0 h1 hd
theorem ByOk.relax {D : Int → Int} {by_ : Int → Leg} {k : Int} {x : Leg} (hN : NetOk n ls) (hB : ByOk ls n a D by_) (hD : BF ls n a D k) (hx : LegOk ls x) (h1 : D (sOf ls x) < 1099511627776) (h2 : D (sOf ls x) + rOf ls x < D (gOf ls x)) :
    ByOk ls n a (fun v => if v = gOf ls x then D (sOf ls x) + rOf ls x else D v) (fun v => if v = gOf ls x then x else by_ v) := by
  have he := hx.ed
  have hr := he.rng hN.rng
  have hne : sOf ls x ≠ gOf ls x := by
    unfold sOf gOf legEnd
    have := hN.ne _ hx.mem
    cases x.back with
    | true => exact fun e => this e.symm
    | false => exact this
  have hle : ∀ v, (if v = gOf ls x then D (sOf ls x) + rOf ls x else D v) ≤ D v := fun v => by
    split
    · rename_i e; rw [e]; omega
    · exact Int.le_refl _
  refine ⟨fun v h0 h3 hv hd => ?_, fun h hF v h0 h3 hd => ?_⟩
  · by_cases e : v = gOf ls x
    · subst e
      simp only [if_true] at hd ⊢
      rw [if_neg hne]
      exact ⟨hx, trivial, Int.le_refl _, h1⟩
    · simp only [if_neg e] at hd ⊢
      obtain ⟨g1, g2, g3, g4⟩ := hB.leg v h0 h3 hv hd
      have := hle (sOf ls (by_ v))
      exact ⟨g1, g2, by omega, by omega⟩
  · -- the last legs lead to the first mark without the one that is turned
    have hga : gOf ls x ≠ a := by
      intro e
      obtain ⟨vs, w⟩ := hD.snd _ hr.1.1 hr.1.2 h1
      have q1 := (Wk.snoc w he).le hF
      have q2 := hD.own
      rw [e] at q1 h2
      omega
    have key : ∀ u, Ch ls a by_ u → 0 ≤ u → u < n → D u < 1099511627776 → ∀ vs c, Wk ls u (sOf ls x :: vs) c → D u + c ≤ D (sOf ls x) → Ch ls a (fun v => if v = gOf ls x then x else by_ v) u := by
      intro u hc
      induction hc with
      | root => exact fun _ _ _ _ _ _ _ => .root
      | @up u hu hc ih =>
        intro h0 h3 hd vs c w hle
        obtain ⟨g1, g2, g3, g4⟩ := hB.leg u h0 h3 hu hd
        have hr' := (g1.ed.rng hN.rng).1
        have hug : u ≠ gOf ls x := by
          intro e
          have q1 := (Wk.snoc w he).le hF
          rw [e] at q1 hle
          omega
        refine .up hu ?_
        rw [if_neg hug]
        have e1 := g1.ed
        rw [g2] at e1
        obtain ⟨us, hw⟩ := (Wk.edge e1).app w
        exact ih hr'.1 hr'.2 g4 us _ hw (by omega)
    have hm : Ch ls a (fun v => if v = gOf ls x then x else by_ v) (sOf ls x) := key _ (hB.chn h hF _ hr.1.1 hr.1.2 h1) hr.1.1 hr.1.2 h1 [] 0 .one (by omega)
    have hg : Ch ls a (fun v => if v = gOf ls x then x else by_ v) (gOf ls x) := .up hga (by rw [if_pos rfl]; exact hm)
    have all : ∀ u, Ch ls a by_ u → Ch ls a (fun v => if v = gOf ls x then x else by_ v) u := by
      intro u hc
      induction hc with
      | root => exact .root
      | @up u hu hc ih =>
        by_cases e : u = gOf ls x
        · rw [e]; exact hg
        · exact .up hu (by rw [if_neg e]; exact ih)
    by_cases e : v = gOf ls x
    · rw [e]; exact hg
    · simp only [if_neg e] at hd
      exact all v (hB.chn h hF v h0 h3 hd)
end Go.Nm
namespace Go.Proofs.Ytclhljenjphofaa
open Go Go.Nm
variable {ls : List Line} {n : Int}
theorem start_ends {g : Leg} (hg : LegOk ls g) : (m_level_survey_start n ls g).Ends (sOf ls g) := by
  unfold m_level_survey_start
  exact M.i_grd (gA2 hg.1 hg.2) M.i_pure
theorem goal_ends {g : Leg} (hg : LegOk ls g) : (m_level_survey_goal n ls g).Ends (gOf ls g) := by
  unfold m_level_survey_goal
  exact M.i_grd (gA2 hg.1 hg.2) M.i_pure
theorem rise_ends {N : Int} (hN : NetOk N ls) {g : Leg} (hg : LegOk ls g) : (m_level_survey_rise n ls g).Ends (rOf ls g) := by
  unfold m_level_survey_rise
  have h1 := hN.rise _ hg.mem
  have h2 := hN.err _ hg.mem
  unfold lnOf at h1 h2
  refine M.i_grd (gA2 hg.1 hg.2) (M.i_if (fun hb => ?_) (fun hb => ?_))
  · unfold rOf; rw [hb]
    exact M.i_grd (gA2 (by omega) (by omega)) M.i_pure
  · unfold rOf; rw [hb]
    exact M.i_grd (gA2 (by omega) (by omega)) M.i_pure
theorem sum2_ends {x y : Int} (h1 : -1000000000000000 ≤ x ∧ x ≤ 1000000000000000) (h2 : -1000000000000000 ≤ y ∧ y ≤ 1000000000000000) : (m_level_sum [x, y]).Ends (x + y) := by
  unfold m_level_sum
  refine M.i_bind (a := x + y) ?_ M.i_pure
  refine M.i_next (s' := (0 + x, 0 + 1)) ?_ (M.i_next (s' := (0 + x + y, 0 + 1 + 1)) ?_ (M.i_stop ?_))
  · simp only [m_level_sum_b0]
    exact M.i_t (by simp) (M.i_grd (by simp) (M.i_grd (gA2 (by simp; omega) (by simp; omega)) M.i_pure))
  · simp only [m_level_sum_b0]
    exact M.i_t (by simp) (M.i_grd (by simp) (M.i_grd (gA2 (by simp; omega) (by simp; omega)) M.i_pure))
  · simp only [m_level_sum_b0]
    rw [show x + y = 0 + x + y by omega]
    exact M.i_f (by simp) M.i_pure
/-- A walk over the legs that begin at a mark. -/
theorem legs_out {S X : Type} {bd : S → Leg → M (S ⊕ X)} {m : Int} (J : Nat → S → Prop) (QX : X → Prop)
    (step : ∀ (i : Nat) (k : Bool) (s : S), i < ls.length → sOf ls ⟨i, k⟩ = m → J (2 * i + k.toNat) s → (bd s ⟨i, k⟩).Out (fun r => match r with | .inl s' => J (2 * i + k.toNat + 1) s' | .inr x => QX x))
    (skip : ∀ (i : Nat) (k : Bool) (s : S), i < ls.length → sOf ls ⟨i, k⟩ ≠ m → J (2 * i + k.toNat) s → J (2 * i + k.toNat + 1) s)
    {s : S} (h : J 0 s) : (m_level_survey_legs_1 (M.yl bd) (.inl s) n ls m).Out (fun r => match r with | .inl s' => J (2 * ls.length) s' | .inr x => QX x) := by
  unfold m_level_survey_legs_1
  refine M.o_bind (P := fun y => match y with | .inl t => ∃ x, t = .inr x ∧ QX x | .inr t => ∃ s, t = .inl s ∧ J (2 * ls.length) s) ?_ ?_
  · refine M.o_for ls.length (fun i st => st.1 = i ∧ ∃ s, st.2 = .inl s ∧ J (2 * i) s) ?_ ?_ ⟨rfl, s, rfl, h⟩
    · rintro i ⟨s2, t⟩ hi ⟨rfl, s, rfl, hJ⟩
      dsimp only at hi hJ
      have one : ∀ (k : Bool) (s : S), J (2 * s2 + k.toNat) s → (M.bind (m_level_survey_start n ls ⟨s2, k⟩) fun r2 => M.bind (M.opt (r2 == m) (M.yl bd (.inl s) ⟨s2, k⟩) (false, .inl s)) fun (go, t) =>
          bif ((r2 == m) && (!go)) then (M.pure (.inr (.inl t))) else (M.pure (.inl (k.toNat + 1, t)))).Out
          (fun y : ((Nat × (S ⊕ X)) ⊕ ((S ⊕ X) ⊕ (S ⊕ X))) => match y with | .inl st => st.1 = k.toNat + 1 ∧ ∃ s, st.2 = .inl s ∧ J (2 * s2 + (k.toNat + 1)) s | .inr (.inl t) => ∃ x, t = .inr x ∧ QX x | .inr (.inr _) => False) := by
        intro k s hJ
        refine M.o_bindE (start_ends ⟨by show (0 : Int) ≤ (s2 : Int); omega, by show (s2 : Int) < _; omega⟩) ?_
        by_cases hm : sOf ls ⟨s2, k⟩ = m
        · have hb : (sOf ls ⟨s2, k⟩ == m) = true := by rw [beq_iff_eq]; exact hm
          rw [hb]
          refine M.o_bind (P := fun y => match y.1 with | true => ∃ s, y.2 = .inl s ∧ J (2 * s2 + k.toNat + 1) s | false => ∃ x, y.2 = .inr x ∧ QX x) ?_ ?_
          · refine M.o_bind (step s2 k s hi hm hJ) ?_
            rintro (s' | x) hs
            · exact M.o_pure ⟨s', rfl, hs⟩
            · exact M.o_pure ⟨x, rfl, hs⟩
          · rintro ⟨go, t⟩ hy
            cases go with
            | true => exact M.o_pure ⟨rfl, hy⟩
            | false => exact M.o_pure hy
        · have hb : (sOf ls ⟨s2, k⟩ == m) = false := by rw [beq_eq_false_iff_ne]; exact hm
          rw [hb]
          refine M.o_bindE (a := (false, .inl s)) (M.i_opt (fun h => by cases h) (fun _ => rfl)) ?_
          exact M.o_pure ⟨rfl, s, rfl, skip s2 k s hi hm hJ⟩
      simp only [m_level_survey_legs_1_b2]
      refine M.o_t (by simpa using hi) ?_
      refine M.o_bind (P := fun y => match y with | .inl t => ∃ x, t = .inr x ∧ QX x | .inr t => ∃ s, t = .inl s ∧ J (2 * (s2 + 1)) s) ?_ ?_
      · refine M.o_for 2 (fun j st => st.1 = j ∧ ∃ s, st.2 = .inl s ∧ J (2 * s2 + j) s) ?_ ?_ ⟨rfl, s, rfl, hJ⟩
        · rintro j ⟨s3, t⟩ hj ⟨rfl, s, rfl, hJ⟩
          dsimp only at hj hJ
          simp only [m_level_survey_legs_1_b1]
          refine M.o_t (by simp; omega) (M.o_grd (by simp; omega) ?_)
          rcases (show s3 = 0 ∨ s3 = 1 by omega) with rfl | rfl
          · exact M.o_mono (one false s hJ) (fun y hy => by rcases y with st | t | t; exact hy; exact hy; exact hy.elim)
          · exact M.o_mono (one true s hJ) (fun y hy => by rcases y with st | t | t; exact hy; exact hy; exact hy.elim)
        · rintro ⟨s3, t⟩ ⟨rfl, s, rfl, hJ⟩
          simp only [m_level_survey_legs_1_b1]
          exact M.o_f (by simp) (M.o_pure ⟨s, rfl, hJ⟩)
      · rintro (t | t) hy
        · exact M.o_pure hy
        · exact M.o_pure ⟨rfl, hy⟩
    · rintro ⟨s2, t⟩ ⟨rfl, s, rfl, hJ⟩
      simp only [m_level_survey_legs_1_b2]
      exact M.o_f (by simp) (M.o_pure ⟨s, rfl, hJ⟩)
  · rintro (t | t) hy
    · obtain ⟨x, rfl, hx⟩ := hy
      exact M.o_pure hx
    · obtain ⟨s, rfl, hs⟩ := hy
      exact M.o_pure hs
end Go.Proofs.Ytclhljenjphofaa
namespace Go.Nm
def rw_ (can : List Int) (a v : Int) : Int := can.getD (Int.toNat a * 13 + Int.toNat v) 0
def rb_ (by_ : List Leg) (a v : Int) : Leg := by_.getD (Int.toNat a * 13 + Int.toNat v) default
variable {ls : List Line} {n a : Int}
structure FI (ls : List Line) (n a : Int) (can0 : List Int) (by0 : List Leg) (k : Int) (can : List Int) (by_ : List Leg) : Prop where
  lc : can.length = 169
  lb : by_.length = 169
  oth : ∀ i, (i < Int.toNat a * 13 ∨ Int.toNat a * 13 + 13 ≤ i) → can.getD i 0 = can0.getD i 0 ∧ by_.getD i default = by0.getD i default
  bf : BF ls n a (rw_ can a) k
  bo : ByOk ls n a (rw_ can a) (rb_ by_ a)
theorem FI.mono {can0 can : List Int} {by0 by_ : List Leg} {k k' : Int} (h : FI ls n a can0 by0 k can by_) (hk : k ≤ k') : FI ls n a can0 by0 k' can by_ := ⟨h.lc, h.lb, h.oth, h.bf.mono hk, h.bo⟩
theorem rw_set {can : List Int} (hl : can.length = 169) {a g : Int} (ha : 0 ≤ a ∧ a < 12) (hg : 0 ≤ g ∧ g < 13) (x : Int) (v : Int) (h0 : 0 ≤ v) (h1 : v < 13) : rw_ (can.set (Int.toNat a * 13 + Int.toNat g) x) a v = if v = g then x else rw_ can a v := by
  unfold rw_
  rw [gset _ _ _ _ _ (by omega)]
  by_cases e : v = g
  · rw [if_pos e, if_pos (by rw [e])]
  · rw [if_neg e, if_neg (by omega)]
theorem rb_set {by_ : List Leg} (hl : by_.length = 169) {a g : Int} (ha : 0 ≤ a ∧ a < 12) (hg : 0 ≤ g ∧ g < 13) (x : Leg) (v : Int) (h0 : 0 ≤ v) (h1 : v < 13) : rb_ (by_.set (Int.toNat a * 13 + Int.toNat g) x) a v = if v = g then x else rb_ by_ a v := by
  unfold rb_
  rw [gset _ _ _ _ _ (by omega)]
  by_cases e : v = g
  · rw [if_pos e, if_pos (by rw [e])]
  · rw [if_neg e, if_neg (by omega)]
theorem FI.relax {can0 can : List Int} {by0 by_ : List Leg} {k : Int} {x : Leg} (hN : NetOk n ls) (ha : 0 ≤ a ∧ a < n) (h : FI ls n a can0 by0 k can by_) (hk : 0 ≤ k) (hx : LegOk ls x) (h1 : rw_ can a (sOf ls x) < 1099511627776) (h2 : rw_ can a (sOf ls x) + rOf ls x < rw_ can a (gOf ls x)) :
    FI ls n a can0 by0 (k + 1) (can.set (Int.toNat a * 13 + Int.toNat (gOf ls x)) (rw_ can a (sOf ls x) + rOf ls x)) (by_.set (Int.toNat a * 13 + Int.toNat (gOf ls x)) x) := by
  have hm := hN.marks
  have hr := hx.ed.rng hN.rng
  have e1 : ∀ v, 0 ≤ v → v < n → rw_ (can.set (Int.toNat a * 13 + Int.toNat (gOf ls x)) (rw_ can a (sOf ls x) + rOf ls x)) a v = if v = gOf ls x then rw_ can a (sOf ls x) + rOf ls x else rw_ can a v := fun v h0 h3 => rw_set h.lc (by omega) (by omega) _ v h0 (by omega)
  have e2 : ∀ v, 0 ≤ v → v < n → rb_ (by_.set (Int.toNat a * 13 + Int.toNat (gOf ls x)) x) a v = if v = gOf ls x then x else rb_ by_ a v := fun v h0 h3 => rb_set h.lb (by omega) (by omega) _ v h0 (by omega)
  refine ⟨by rw [List.length_set]; exact h.lc, by rw [List.length_set]; exact h.lb, fun i hi => ?_, ?_, ?_⟩
  · rw [gset _ _ _ _ _ (by rw [h.lc]; omega), gset _ _ _ _ _ (by rw [h.lb]; omega), if_neg (by omega), if_neg (by omega)]
    exact h.oth i hi
  · exact (h.bf.relax hk hx.ed (hN.ed _ _ _ hx.ed) hr.1 hr.2 h1 h2).congr ha hN.rng e1
  · exact (h.bo.relax hN h.bf hx h1 h2).congr hN e1 e2
/-- These legs make nothing less than they did when the round began. -/
def Rlx (ls : List Line) (D0 D : Int → Int) (pr : Nat → Bool → Prop) : Prop := ∀ (i : Nat) (k : Bool), i < ls.length → pr i k → D0 (sOf ls ⟨i, k⟩) < 1099511627776 → D (gOf ls ⟨i, k⟩) ≤ D0 (sOf ls ⟨i, k⟩) + rOf ls ⟨i, k⟩
theorem Rlx.le {D0 D D' : Int → Int} {pr pr' : Nat → Bool → Prop} (hR : Rng n ls) (h : Rlx ls D0 D pr) (hle : ∀ v, 0 ≤ v → v < n → D' v ≤ D v) (hp : ∀ i k, i < ls.length → pr' i k → pr i k) : Rlx ls D0 D' pr' := fun i k hi hpr hd => by
  have hx : LegOk ls ⟨i, k⟩ := ⟨by show (0 : Int) ≤ (i : Int); omega, by show (i : Int) < _; omega⟩
  have hr := (hx.ed.rng hR).2
  have := h i k hi (hp i k hi hpr) hd
  have := hle _ hr.1 hr.2
  omega
theorem Rlx.all {D0 D : Int → Int} (h : Rlx ls D0 D (fun _ _ => True)) : ∀ m g e, Ed ls m g e → D0 m < 1099511627776 → D g ≤ D0 m + e := by
  intro m g e he hd
  obtain ⟨i, k, hi, rfl, rfl, rfl⟩ := leg_of he
  exact h i k hi trivial hd
end Go.Nm
namespace Go.Proofs.Ytclhljenjphofaa
open Go Go.Nm
variable {ls : List Line} {n a : Int}
theorem ij {i : Nat} {k : Bool} (hi : i < ls.length) : LegOk ls ⟨i, k⟩ := ⟨by show (0 : Int) ≤ (i : Int); omega, by show (i : Int) < _; omega⟩
/-- One leg. -/
theorem fill_leg (hN : NetOk n ls) (ha : 0 ≤ a ∧ a < n) {can0 can : List Int} {by0 by_ : List Leg} {k : Int} {m i : Nat} {b : Bool} (hi : i < ls.length) (hs : sOf ls ⟨i, b⟩ = (m : Int)) (hk : 0 ≤ k ∧ k ≤ 100000) (h : FI ls n a can0 by0 k can by_) (hd : rw_ can a m < 1099511627776) :
    (m_level_survey_fill_b4 n ls a m (can, by_) ⟨i, b⟩).Out (fun r => match r with | .inl s => FI ls n a can0 by0 (k + 1) s.1 s.2 ∧ (∀ v, 0 ≤ v → v < n → rw_ s.1 a v ≤ rw_ can a v) ∧ rw_ s.1 a (gOf ls ⟨i, b⟩) ≤ rw_ can a m + rOf ls ⟨i, b⟩ | .inr _ => False) := by
  have hx : LegOk ls ⟨i, b⟩ := ij hi
  have hr := hx.ed.rng hN.rng
  have hm := hN.marks
  have hc := hN.ed _ _ _ hx.ed
  have hlo := h.bf.low m (by omega) (by rw [← hs]; exact hr.1.2)
  simp only [m_level_survey_fill_b4]
  refine M.o_bindE (rise_ends hN hx) ?_
  refine M.o_bindE (a := rw_ can a m + rOf ls ⟨i, b⟩) (sum2_ends (x := can.getD (Int.toNat a * 13 + m) 0) (by unfold rw_ at hlo hd; rw [Int.toNat_natCast] at hlo hd; omega) (by omega)) ?_
  refine M.o_bindE (goal_ends hx) ?_
  refine M.o_grd (gA2 (by omega) (by omega)) ?_
  refine M.o_if (fun hb => ?_) (fun hb => ?_)
  · have hb := of_decide_eq_true hb
    refine M.o_bindE (goal_ends hx) (M.o_bindE (goal_ends hx) (M.o_grd (gA2 (by omega) (by omega)) (M.o_grd (gA2 (by omega) (by omega)) (M.o_pure ?_))))
    have h1 := h.relax hN ha hk.1 hx (by rw [hs]; exact hd) (by rw [hs]; exact hb)
    rw [hs] at h1
    have e1 : ∀ v, 0 ≤ v → v < n → rw_ (can.set (Int.toNat a * 13 + Int.toNat (gOf ls ⟨i, b⟩)) (rw_ can a m + rOf ls ⟨i, b⟩)) a v = if v = gOf ls ⟨i, b⟩ then rw_ can a m + rOf ls ⟨i, b⟩ else rw_ can a v := fun v h0 h3 => rw_set h.lc (by omega) (by omega) _ v h0 (by omega)
    refine ⟨h1, fun v h0 h3 => ?_, ?_⟩
    · dsimp only
      rw [e1 v h0 h3]
      split
      · rename_i e
        rw [e]
        exact Int.le_of_lt hb
      · exact Int.le_refl _
    · dsimp only
      rw [e1 _ hr.2.1 hr.2.2, if_pos rfl]
      exact Int.le_refl _
  · have hb := of_decide_eq_false hb
    refine M.o_pure ⟨h.mono (by omega), fun v _ _ => Int.le_refl _, ?_⟩
    dsimp only
    unfold rw_ at *
    omega
/-- The legs at a mark. -/
theorem fill_mark (hN : NetOk n ls) (ha : 0 ≤ a ∧ a < n) {can0 can : List Int} {by0 by_ : List Leg} {k : Int} {m : Nat} (hm : (m : Int) < n) (hk : 0 ≤ k ∧ k ≤ 90000) (h : FI ls n a can0 by0 k can by_) {D0 : Int → Int} (hle : ∀ v, 0 ≤ v → v < n → rw_ can a v ≤ D0 v) (hR : Rlx ls D0 (rw_ can a) (fun i b => sOf ls ⟨i, b⟩ < (m : Int))) (hd : rw_ can a m < 1099511627776) :
    (m_level_survey_legs_1 (M.yl (m_level_survey_fill_b4 n ls a m)) (.inl (can, by_)) n ls m).Out (fun r => match r with | .inl s => FI ls n a can0 by0 (k + 60) s.1 s.2 ∧ (∀ v, 0 ≤ v → v < n → rw_ s.1 a v ≤ D0 v) ∧ Rlx ls D0 (rw_ s.1 a) (fun i b => sOf ls ⟨i, b⟩ < (m : Int) + 1) | .inr _ => False) := by
  have hf := hN.few
  refine M.o_mono (legs_out (m := (m : Int)) (fun idx s => FI ls n a can0 by0 (k + idx) s.1 s.2 ∧ (∀ v, 0 ≤ v → v < n → rw_ s.1 a v ≤ D0 v) ∧ rw_ s.1 a m < 1099511627776 ∧ Rlx ls D0 (rw_ s.1 a) (fun i b => sOf ls ⟨i, b⟩ < (m : Int) ∨ (sOf ls ⟨i, b⟩ = (m : Int) ∧ 2 * i + b.toNat < idx))) (fun _ => False) ?_ ?_ (s := (can, by_)) ⟨h.mono (by omega), hle, hd, hR.le hN.rng (fun v _ _ => Int.le_refl _) (fun i b _ hp => by rcases hp with hp | ⟨_, hp⟩; exact hp; omega)⟩) ?_
  · rintro i b ⟨s, s2⟩ hi hs ⟨hF, hle, hd, hR⟩
    dsimp only at hF hle hd hR
    have hb2 : b.toNat ≤ 1 := by cases b <;> decide
    refine M.o_mono (fill_leg hN ha hi hs (by omega) hF hd) ?_
    rintro (⟨t, t2⟩ | x) hy
    · obtain ⟨h1, h2, h3⟩ := hy
      dsimp only at h1 h2 h3 ⊢
      refine ⟨h1.mono (by omega), fun v h0 h4 => Int.le_trans (h2 v h0 h4) (hle v h0 h4), Int.lt_of_le_of_lt (h2 m (by omega) hm) hd, fun i' b' hi' hp hd0 => ?_⟩
      have hr' := ((ij (k := b') hi').ed.rng hN.rng).2
      by_cases e : sOf ls ⟨i', b'⟩ < (m : Int) ∨ (sOf ls ⟨i', b'⟩ = (m : Int) ∧ 2 * i' + b'.toNat < 2 * i + b.toNat)
      · have := hR i' b' hi' e hd0
        have := h2 _ hr'.1 hr'.2
        omega
      · have hb3 : b'.toNat ≤ 1 := by cases b' <;> decide
        have e2 : i' = i ∧ b' = b := by
          have : 2 * i' + b'.toNat = 2 * i + b.toNat := by omega
          refine ⟨by omega, ?_⟩
          have : b'.toNat = b.toNat := by omega
          cases b <;> cases b' <;> simp_all
        obtain ⟨rfl, rfl⟩ := e2
        rw [hs] at hd0 ⊢
        have := hle m (by omega) hm
        omega
    · exact hy.elim
  · rintro i b ⟨s, s2⟩ hi hs ⟨hF, hle, hd, hR⟩
    refine ⟨hF.mono (by omega), hle, hd, hR.le hN.rng (fun v _ _ => Int.le_refl _) (fun i' b' hi' hp => ?_)⟩
    rcases hp with hp | ⟨hp, hp2⟩
    · exact .inl hp
    · have hb2 : b.toNat ≤ 1 := by cases b <;> decide
      have hb3 : b'.toNat ≤ 1 := by cases b' <;> decide
      refine .inr ⟨hp, ?_⟩
      rcases Nat.lt_or_ge (2 * i' + b'.toNat) (2 * i + b.toNat) with h | h
      · exact h
      · exfalso
        have : 2 * i' + b'.toNat = 2 * i + b.toNat := by omega
        have e1 : i' = i := by omega
        subst e1
        have e2 : b' = b := by
          have : b'.toNat = b.toNat := by omega
          cases b <;> cases b' <;> simp_all
        subst e2
        exact hs hp
  · rintro (s | x) hy
    · obtain ⟨h1, h2, h3, h4⟩ := hy
      refine ⟨h1.mono (by omega), h2, h4.le hN.rng (fun v _ _ => Int.le_refl _) (fun i b hi hp => ?_)⟩
      have hb2 : b.toNat ≤ 1 := by cases b <;> decide
      by_cases e : sOf ls ⟨i, b⟩ < (m : Int)
      · exact .inl e
      · exact .inr ⟨by omega, by omega⟩
    · exact hy.elim
/-- A row. -/
theorem fill_out (hN : NetOk n ls) (ha : 0 ≤ a ∧ a < n) {can : List Int} {by_ : List Leg} (lc : can.length = 169) (lb : by_.length = 169) (h0 : ∀ v, 0 ≤ v → v < n → rw_ can a v = if v = a then 0 else 1099511627776) :
    (m_level_survey_fill n ls can by_ a).Out (fun r => FI ls n a can by_ 8640 r.1 r.2 ∧ Cov ls a (rw_ r.1 a) (Int.toNat n)) := by
  have hm := hN.marks
  have hI : FI ls n a can by_ 0 can by_ := ⟨lc, lb, fun _ _ => ⟨rfl, rfl⟩, (BF.init ls n a).congr ha hN.rng h0, (ByOk.init ls n a (rb_ by_ a)).congr hN h0 (fun _ _ _ => rfl)⟩
  unfold m_level_survey_fill
  refine M.o_grd (gA2 (by omega) (by omega)) ?_
  refine M.o_bind (P := fun r => FI ls n a can by_ 8640 r.1 r.2 ∧ Cov ls a (rw_ r.1 a) (Int.toNat n)) ?_ (fun y hy => M.o_pure hy)
  refine M.o_for (Int.toNat n) (fun r st => st.2.2 = r ∧ FI ls n a can by_ (720 * r) st.1 st.2.1 ∧ Cov ls a (rw_ st.1 a) r) ?_ ?_ (s := (can, by_, 0)) ⟨rfl, hI.mono (by simp), Cov.zero (by rw [h0 a ha.1 ha.2, if_pos rfl]; exact Int.le_refl _)⟩
  · rintro r ⟨c, y, r'⟩ hr ⟨rfl, hF, hC⟩
    dsimp only at hr hF hC
    simp only [m_level_survey_fill_b6]
    refine M.o_t (by simp; omega) ?_
    refine M.o_bind (P := fun q => FI ls n a can by_ (720 * (r' + 1)) q.1 q.2 ∧ Cov ls a (rw_ q.1 a) (r' + 1)) ?_ ?_
    · refine M.o_for (Int.toNat n) (fun m st => st.1 = m ∧ FI ls n a can by_ (720 * r' + 60 * m) st.2.1 st.2.2 ∧ (∀ v, 0 ≤ v → v < n → rw_ st.2.1 a v ≤ rw_ c a v) ∧ Rlx ls (rw_ c a) (rw_ st.2.1 a) (fun i b => sOf ls ⟨i, b⟩ < (m : Int))) ?_ ?_ (s := (0, c, y)) ⟨rfl, hF.mono (by simp), fun v _ _ => Int.le_refl _, fun i b hi hp _ => by have := ((ij (k := b) hi).ed.rng hN.rng).1; omega⟩
      · rintro m ⟨m', s, s2⟩ hmn ⟨rfl, hF, hle, hR⟩
        dsimp only at hmn hF hle hR
        simp only [m_level_survey_fill_b5]
        refine M.o_t (by simp; omega) (M.o_grd (gA2 (by omega) (by omega)) (M.o_if (fun hb => ?_) (fun hb => ?_)))
        · have hb := beq_iff_eq.1 hb
          refine M.o_grd (gA2 (by omega) (by omega)) (M.o_pure ⟨rfl, hF.mono (by omega), hle, fun i b hi hp hd => ?_⟩)
          by_cases e : sOf ls ⟨i, b⟩ < (m' : Int)
          · exact hR i b hi e hd
          · exfalso
            have e2 : sOf ls ⟨i, b⟩ = (m' : Int) := by omega
            have := hle m' (by omega) (by omega)
            rw [e2] at hd
            unfold rw_ at this hd
            rw [Int.toNat_natCast] at this hd
            omega
        · have hb := beq_eq_false_iff_ne.1 hb
          have htop := hF.bf.top m' (by omega) (by omega)
          have hd : rw_ s a m' < 1099511627776 := by
            unfold rw_ at htop ⊢
            rw [Int.toNat_natCast] at htop ⊢
            omega
          refine M.o_bindE (a := (m' : Int)) M.i_pure ?_
          refine M.o_bind (fill_mark hN ha (m := m') (by omega) (by omega) hF hle hR hd) ?_
          rintro (⟨t, t2⟩ | x) hy
          · refine M.o_grd (gA2 (by omega) (by omega)) (M.o_pure ⟨rfl, hy.1.mono (by omega), hy.2.1, hy.2.2.le hN.rng (fun v _ _ => Int.le_refl _) (fun i b _ hp => by omega)⟩)
          · exact hy.elim
      · rintro ⟨m', s, s2⟩ ⟨rfl, hF, hle, hR⟩
        dsimp only at hF hle hR
        simp only [m_level_survey_fill_b5]
        refine M.o_f (by simp; omega) (M.o_pure ⟨hF.mono (by omega), ?_⟩)
        refine hC.next hN (by omega) ha hle ?_
        refine Rlx.all (hR.le hN.rng (fun v _ _ => Int.le_refl _) (fun i b hi _ => ?_))
        have := ((ij (k := b) hi).ed.rng hN.rng).1
        omega
    · rintro ⟨q, q2⟩ ⟨h1, h2⟩
      exact M.o_grd (gA2 (by omega) (by omega)) (M.o_pure ⟨rfl, h1.mono (by omega), h2⟩)
  · rintro ⟨c, y, r'⟩ ⟨rfl, hF, hC⟩
    simp only [m_level_survey_fill_b6]
    exact M.o_f (by simp; omega) (M.o_pure ⟨hF.mono (by omega), hC⟩)
end Go.Proofs.Ytclhljenjphofaa
namespace Go.Nm
variable {ls : List Line} {n a : Int}
theorem Cov.congr {D D' : Int → Int} {r : Nat} (hR : Rng n ls) (ha : 0 ≤ a ∧ a < n) (h : Cov ls a D r) (e : ∀ v, 0 ≤ v → v < n → D' v = D v) : Cov ls a D' r := fun vs b c w hl => by
  have := w.rng hR ha b (by simp)
  rw [e b this.1 this.2]
  exact h vs b c w hl
def Agr (ls : List Line) : Prop := ∃ h, Feas ls h
structure Row (ls : List Line) (n a : Int) (D : Int → Int) (by_ : Int → Leg) : Prop where
  bf : BF ls n a D 8640
  cov : Cov ls a D (Int.toNat n)
  bo : ByOk ls n a D by_
theorem Row.congr {D D' : Int → Int} {b b' : Int → Leg} (hN : NetOk n ls) (ha : 0 ≤ a ∧ a < n) (h : Row ls n a D b) (e : ∀ v, 0 ≤ v → v < n → D' v = D v) (e' : ∀ v, 0 ≤ v → v < n → b' v = b v) : Row ls n a D' b' :=
  ⟨h.bf.congr ha hN.rng e, h.cov.congr hN.rng ha e, h.bo.congr hN e e'⟩
structure Wkd (ls : List Line) (n : Int) (can : List Int) (by_ : List Leg) : Prop where
  lc : can.length = 169
  lb : by_.length = 169
  row : ∀ a, 0 ≤ a → a < n → Row ls n a (rw_ can a) (rb_ by_ a)
theorem Wkd.done {can : List Int} {by_ : List Leg} (hN : NetOk n ls) (hW : Wkd ls n can by_) (hA : Agr ls) (ha : 0 ≤ a ∧ a < n) : Done ls n a (rw_ can a) := by
  obtain ⟨h, hF⟩ := hA
  have hr := hW.row a ha.1 ha.2
  have hm := hN.marks
  exact hr.bf.done (N := Int.toNat n) hN hF (by omega) ha hr.cov (by omega)
def Rx (ls : List Line) (can : List Int) (a : Int) (x : Leg) : Prop := rw_ can a (sOf ls x) < 1099511627776 ∧ rw_ can a (sOf ls x) + rOf ls x < rw_ can a (gOf ls x)
theorem Wkd.agr_no {can : List Int} {by_ : List Leg} (hN : NetOk n ls) (hW : Wkd ls n can by_) (hA : Agr ls) (ha : 0 ≤ a ∧ a < n) {x : Leg} (hx : LegOk ls x) : ¬ Rx ls can a x := by
  rintro ⟨h1, h2⟩
  have hD := hW.done hN hA ha
  have hr := hx.ed.rng hN.rng
  have d1 := hD.dist _ hr.1.1 hr.1.2 h1
  have ht : Tied ls a (gOf ls x) := d1.tied.trans (.ed hx.ed)
  have d2 := hD.dist _ hr.2.1 hr.2.2 (hD.tied _ hr.2.1 hr.2.2 ht)
  have := d1.step hx.ed d2
  omega
theorem Wkd.agr_zero {can : List Int} {by_ : List Leg} (hN : NetOk n ls) (hW : Wkd ls n can by_) (hA : Agr ls) (ha : 0 ≤ a ∧ a < n) : rw_ can a a = 0 := by
  have hD := hW.done hN hA ha
  have h1 := (hW.row a ha.1 ha.2).bf.own
  obtain ⟨h, hF⟩ := hA
  exact (hD.dist a ha.1 ha.2 (by omega)).uniq (.self hF)
theorem Wkd.agr_of {can : List Int} {by_ : List Leg} (hN : NetOk n ls) (hW : Wkd ls n can by_) (h1 : ∀ a, 0 ≤ a → a < n → ∀ x, LegOk ls x → ¬ Rx ls can a x) (h2 : ∀ a, 0 ≤ a → a < n → ¬ rw_ can a a < 0) :
    ∃ f : Int → Int, (∀ v, 0 ≤ v → v < n → (0 ≤ f v ∧ f v < n) ∧ rw_ can (f v) v < 1099511627776 ∧ ∀ u, 0 ≤ u → u < f v → ¬ rw_ can u v < 1099511627776) ∧ Feas ls (fun v => rw_ can (f v) v) := by
  have hS : Tight ls n (rw_ can) := by
    refine ⟨fun a m g e h0 h3 he hd => ?_, fun a h0 h3 => ?_⟩
    · obtain ⟨i, k, hi, rfl, rfl, rfl⟩ := leg_of he
      have := h1 a h0 h3 ⟨i, k⟩ ⟨by show (0 : Int) ≤ (i : Int); omega, by show (i : Int) < _; omega⟩
      unfold Rx at this
      omega
    · have := h2 a h0 h3
      have := (hW.row a h0 h3).bf.own
      omega
  have hex : ∀ v, 0 ≤ v → v < n → ∃ u : Nat, ((u : Int) < n ∧ rw_ can u v < 1099511627776) ∧ ∀ k : Nat, ((k : Int) < n ∧ rw_ can k v < 1099511627776) → u ≤ k := by
    intro v h0 h3
    refine least_nat ⟨v.toNat, by omega, ?_⟩
    rw [Int.toNat_of_nonneg h0, hS.zero v h0 h3]
    omega
  refine ⟨fun v => if h : 0 ≤ v ∧ v < n then (((hex v h.1 h.2).choose : Nat) : Int) else 0, ?_, ?_⟩
  · intro v h0 h3
    dsimp only
    rw [dif_pos ⟨h0, h3⟩]
    obtain ⟨⟨g1, g2⟩, g3⟩ := (hex v h0 h3).choose_spec
    refine ⟨⟨by omega, g1⟩, g2, fun u hu0 hu1 hu => ?_⟩
    have := g3 u.toNat (by rw [Int.toNat_of_nonneg hu0]; exact ⟨by omega, hu⟩)
    omega
  · refine hS.feas hN (fun a v h0 h3 h4 h5 => (hW.row a h0 h3).bf.top v h4 h5) _ ?_ (fun a m g e h0 h3 he hd => ?_)
    · intro v h0 h3
      try dsimp only
      rw [dif_pos ⟨h0, h3⟩]
      obtain ⟨⟨g1, g2⟩, g3⟩ := (hex v h0 h3).choose_spec
      refine ⟨⟨by omega, g1⟩, g2, fun u hu0 hu1 hu => ?_⟩
      have := g3 u.toNat (by rw [Int.toNat_of_nonneg hu0]; exact ⟨by omega, hu⟩)
      omega
    · have hr := he.rng hN.rng
      have := (hW.row a h0 h3).bf.up m hr.1.1 hr.1.2 hd
      have := hN.ed _ _ _ he
      omega
end Go.Nm
namespace Go.Proofs.Ytclhljenjphofaa
open Go Go.Nm
variable {ls : List Line} {n a : Int}
theorem rw_nat (can : List Int) (i j : Nat) : rw_ can i j = can.getD (i * 13 + j) 0 := by unfold rw_; rw [Int.toNat_natCast, Int.toNat_natCast]
theorem worked_out (hN : NetOk n ls) : (m_level_worked n ls).Out (fun r => r.1 = n ∧ Wkd ls n r.2.1 r.2.2) := by
  have hm := hN.marks
  unfold m_level_worked
  refine M.o_bind (P := fun c => c.length = 169 ∧ ∀ i j : Nat, (i : Int) < n → (j : Int) < n → c.getD (i * 13 + j) 0 = if j = i then 0 else 1099511627776) ?_ ?_
  · refine M.o_for (Int.toNat n) (fun i st => st.2 = i ∧ st.1.length = 169 ∧ ∀ i' j : Nat, i' < i → (j : Int) < n → st.1.getD (i' * 13 + j) 0 = if j = i' then 0 else 1099511627776) ?_ ?_ (s := (List.replicate 169 0, 0)) ⟨rfl, List.length_replicate, fun i' j h => by omega⟩
    · rintro i ⟨c, i0⟩ hi ⟨rfl, hl, hc⟩
      dsimp only at hi hl hc
      simp only [m_level_worked_b2]
      refine M.o_t (by simp; omega) ?_
      refine M.o_bind (P := fun d => d.length = 169 ∧ (∀ i' j : Nat, i' < i0 → (j : Int) < n → d.getD (i' * 13 + j) 0 = if j = i' then 0 else 1099511627776) ∧ ∀ j : Nat, (j : Int) < n → d.getD (i0 * 13 + j) 0 = 1099511627776) ?_ ?_
      · refine M.o_for (Int.toNat n) (fun j st => st.2 = j ∧ st.1.length = 169 ∧ (∀ i' j : Nat, i' < i0 → (j : Int) < n → st.1.getD (i' * 13 + j) 0 = if j = i' then 0 else 1099511627776) ∧ ∀ j' : Nat, j' < j → st.1.getD (i0 * 13 + j') 0 = 1099511627776) ?_ ?_ (s := (c, 0)) ⟨rfl, hl, hc, fun j h => by omega⟩
        · rintro j ⟨d, j0⟩ hj ⟨rfl, hl, hd, he⟩
          dsimp only at hj hl hd he
          simp only [m_level_worked_b1]
          refine M.o_t (by simp; omega) (M.o_grd (gA2 (by omega) (by omega)) (M.o_grd (gA2 (by omega) (by omega)) (M.o_grd (gA2 (by omega) (by omega)) (M.o_pure ⟨rfl, by simpa using hl, fun i' j h1 h2 => ?_, fun j' h1 => ?_⟩))))
          · dsimp only
            rw [gset _ _ _ _ _ (by omega), if_neg (by omega)]
            exact hd i' j h1 h2
          · dsimp only
            rw [gset _ _ _ _ _ (by omega)]
            by_cases e : j' = j0
            · rw [e, if_pos rfl]
            · rw [if_neg (by omega)]; exact he j' (by omega)
        · rintro ⟨d, j0⟩ ⟨rfl, hl, hd, he⟩
          simp only [m_level_worked_b1]
          exact M.o_f (by simp; omega) (M.o_pure ⟨hl, hd, fun j h => he j (by omega)⟩)
      · rintro d ⟨hl, hd, he⟩
        refine M.o_grd (gA2 (by omega) (by omega)) (M.o_grd (gA2 (by omega) (by omega)) (M.o_pure ⟨rfl, by simpa using hl, fun i' j h1 h2 => ?_⟩))
        dsimp only
        rw [gset _ _ _ _ _ (by omega)]
        by_cases e : i' = i0
        · subst e
          by_cases e2 : j = i'
          · subst e2; rw [if_pos rfl, if_pos rfl]
          · rw [if_neg (by omega), if_neg e2]; exact he j h2
        · rw [if_neg (by omega)]; exact hd i' j (by omega) h2
    · rintro ⟨c, i0⟩ ⟨rfl, hl, hc⟩
      simp only [m_level_worked_b2]
      exact M.o_f (by simp; omega) (M.o_pure ⟨hl, fun i j h1 h2 => hc i j (by omega) h2⟩)
  · rintro c ⟨hl, hc⟩
    refine M.o_bind (P := fun r => Wkd ls n r.1 r.2) ?_ (fun r hr => M.o_pure ⟨rfl, hr⟩)
    refine M.o_for (Int.toNat n) (fun i st => st.2.2 = i ∧ st.1.length = 169 ∧ st.2.1.length = 169 ∧ (∀ a : Nat, a < i → Row ls n a (rw_ st.1 a) (rb_ st.2.1 a)) ∧ ∀ a j : Nat, i ≤ a → (a : Int) < n → (j : Int) < n → st.1.getD (a * 13 + j) 0 = if j = a then 0 else 1099511627776) ?_ ?_ (s := (c, List.replicate 169 default, 0)) ⟨rfl, hl, List.length_replicate, fun a h => by omega, fun a j _ h1 h2 => hc a j h1 h2⟩
    · rintro i ⟨c, y, i0⟩ hi ⟨rfl, hl, hy, hd, hc⟩
      dsimp only at hi hl hy hd hc
      simp only [m_level_worked_b3]
      refine M.o_t (by simp; omega) ?_
      refine M.o_bind (fill_out hN (a := (i0 : Int)) (by omega) hl hy ?_) ?_
      · intro v h0 h1
        have := hc i0 v.toNat (Nat.le_refl _) (by omega) (by omega)
        unfold rw_
        rw [Int.toNat_natCast, this]
        by_cases e : v = (i0 : Int)
        · rw [if_pos e, if_pos (by omega)]
        · rw [if_neg e, if_neg (by omega)]
      · rintro ⟨q, q2⟩ ⟨hF, hC⟩
        refine M.o_grd (gA2 (by omega) (by omega)) (M.o_pure ⟨rfl, hF.lc, hF.lb, fun a h => ?_, fun a j h1 h2 h3 => ?_⟩)
        · by_cases e : a = i0
          · subst e; exact ⟨hF.bf, hC, hF.bo⟩
          · refine (hd a (by omega)).congr hN (by omega) (fun v h0 h1 => ?_) (fun v h0 h1 => ?_)
            · have := (hF.oth (a * 13 + v.toNat) (by rw [Int.toNat_natCast]; omega)).1
              unfold rw_; rw [Int.toNat_natCast]; exact this
            · have := (hF.oth (a * 13 + v.toNat) (by rw [Int.toNat_natCast]; omega)).2
              unfold rb_; rw [Int.toNat_natCast]; exact this
        · have := (hF.oth (a * 13 + j) (by rw [Int.toNat_natCast]; omega)).1
          dsimp only
          rw [this]
          exact hc a j (by omega) h2 h3
    · rintro ⟨c, y, i0⟩ ⟨rfl, hl, hy, hd, hc⟩
      simp only [m_level_worked_b3]
      refine M.o_f (by simp; omega) (M.o_pure ⟨hl, hy, fun a h0 h1 => ?_⟩)
      have := hd a.toNat (by omega)
      rwa [Int.toNat_of_nonneg h0] at this
theorem open_out (hN : NetOk n ls) {can : List Int} {by_ : List Leg} (hW : Wkd ls n can by_) : (m_level_survey_open n ls can by_).Out (fun b => b = true ↔ ¬ Agr ls) := by
  have hm := hN.marks
  have leg : ∀ (m i : Nat) (b : Bool), i < ls.length → sOf ls ⟨i, b⟩ = (m : Int) → (m_level_survey_open_b5 n ls can m () ⟨i, b⟩).Out (fun r => match r with | .inl _ => ∀ a, 0 ≤ a → a < n → ¬ Rx ls can a ⟨i, b⟩ | .inr _ => ∃ a, (0 ≤ a ∧ a < n) ∧ Rx ls can a ⟨i, b⟩) := by
    intro m i b hi hs
    have hx : LegOk ls ⟨i, b⟩ := ij hi
    have hr := hx.ed.rng hN.rng
    have hc := hN.ed _ _ _ hx.ed
    simp only [m_level_survey_open_b5]
    refine M.o_bind (P := fun y => match y with | .inl _ => ∃ a, (0 ≤ a ∧ a < n) ∧ Rx ls can a ⟨i, b⟩ | .inr _ => ∀ a, 0 ≤ a → a < n → ¬ Rx ls can a ⟨i, b⟩) ?_ (fun y hy => by rcases y with y | y <;> exact M.o_pure hy)
    refine M.o_for (Int.toNat n) (fun k s => s = k ∧ ∀ a : Nat, a < k → ¬ Rx ls can a ⟨i, b⟩) ?_ ?_ (s := 0) ⟨rfl, fun a h => by omega⟩
    · rintro k s hk ⟨rfl, hJ⟩
      have e0 : rw_ can s (sOf ls ⟨i, b⟩) = can.getD (s * 13 + m) 0 := by rw [hs]; exact rw_nat can s m
      have e1 : rw_ can s (gOf ls ⟨i, b⟩) = can.getD (s * 13 + Int.toNat (gOf ls ⟨i, b⟩)) 0 := by unfold rw_; rw [Int.toNat_natCast]
      have hlo := (hW.row s (by omega) (by omega)).bf.low (sOf ls ⟨i, b⟩) hr.1.1 hr.1.2
      rw [e0] at hlo
      simp only [m_level_survey_open_b4]
      refine M.o_t (by simp; omega) (M.o_grd (gA2 (by omega) (by omega)) (M.o_grd (gA2 (by omega) (by omega)) ?_))
      by_cases hd : can.getD (s * 13 + m) 0 < 1099511627776
      · have hd' : decide (can.getD (s * 13 + m) 0 < 1099511627776) = true := decide_eq_true hd
        rw [hd']
        refine M.o_bindE (a := rOf ls ⟨i, b⟩) (M.i_opt (fun _ => rise_ends hN hx) (fun h => by cases h)) (M.o_grd (gOr2 (by omega) (by omega)) (M.o_bindE (a := gOf ls ⟨i, b⟩) (M.i_opt (fun _ => goal_ends hx) (fun h => by cases h)) (M.o_grd (gOr2 (by omega) (by omega)) ?_)))
        by_cases h2 : can.getD (s * 13 + m) 0 + rOf ls ⟨i, b⟩ < can.getD (s * 13 + Int.toNat (gOf ls ⟨i, b⟩)) 0
        · exact M.o_t (by rw [Bool.true_and]; exact decide_eq_true h2) (M.o_pure ⟨s, by omega, by unfold Rx; rw [e0, e1]; exact ⟨hd, h2⟩⟩)
        · refine M.o_f (by rw [Bool.true_and]; exact decide_eq_false h2) (M.o_grd (gA2 (by omega) (by omega)) (M.o_pure ⟨rfl, fun a h => ?_⟩))
          by_cases e : a = s
          · rw [e]; unfold Rx; rw [e0, e1]; exact fun h => h2 h.2
          · exact hJ a (by omega)
      · have hd' : decide (can.getD (s * 13 + m) 0 < 1099511627776) = false := decide_eq_false hd
        rw [hd']
        refine M.o_bindE (a := 0) (M.i_opt (fun h => by cases h) (fun _ => rfl)) (M.o_grd (by simp) (M.o_bindE (a := 0) (M.i_opt (fun h => by cases h) (fun _ => rfl)) (M.o_grd (by simp) ?_)))
        refine M.o_f (by simp) (M.o_grd (gA2 (by omega) (by omega)) (M.o_pure ⟨rfl, fun a h => ?_⟩))
        by_cases e : a = s
        · rw [e]; unfold Rx; rw [e0]; exact fun h => hd h.1
        · exact hJ a (by omega)
    · rintro s ⟨rfl, hJ⟩
      simp only [m_level_survey_open_b4]
      refine M.o_f (by simp; omega) (M.o_pure fun a h0 h1 => ?_)
      have := hJ a.toNat (by omega)
      rwa [Int.toNat_of_nonneg h0] at this
  have no_of : (∃ x, LegOk ls x ∧ ∃ a, (0 ≤ a ∧ a < n) ∧ Rx ls can a x) → ¬ Agr ls := by
    rintro ⟨x, hx, a, ha, hR⟩ hA
    exact hW.agr_no hN hA ha hx hR
  unfold m_level_survey_open
  refine M.o_bind (P := fun y => match y with | .inl _ => ¬ Agr ls | .inr _ => Agr ls) ?_ (fun y hy => by
    rcases y with y | y
    · exact M.o_pure ⟨fun _ => hy, fun _ => rfl⟩
    · exact M.o_pure ⟨fun h => (by cases h), fun h => absurd hy h⟩)
  refine M.o_for (Int.toNat n) (fun m s => s = m ∧ (∀ i b, i < ls.length → sOf ls ⟨i, b⟩ < (m : Int) → ∀ a, 0 ≤ a → a < n → ¬ Rx ls can a ⟨i, b⟩) ∧ ∀ a : Nat, a < m → ¬ rw_ can a a < 0) ?_ ?_ (s := 0) ⟨rfl, fun i b hi h => by have := ((ij (k := b) hi).ed.rng hN.rng).1; omega, fun a h => by omega⟩
  · rintro m s hmn ⟨rfl, h1, h2⟩
    simp only [m_level_survey_open_b6]
    refine M.o_t (by simp; omega) (M.o_bindE (a := (s : Int)) M.i_pure ?_)
    refine M.o_bind (legs_out (m := (s : Int)) (fun idx _ => ∀ i b, i < ls.length → sOf ls ⟨i, b⟩ = (s : Int) → 2 * i + b.toNat < idx → ∀ a, 0 ≤ a → a < n → ¬ Rx ls can a ⟨i, b⟩) (fun _ => ¬ Agr ls) ?_ ?_ (s := ()) (fun i b _ _ h => by omega)) ?_
    · intro i b _ hi hs hJ
      refine M.o_mono (leg s i b hi hs) ?_
      rintro (x | x) hx
      · intro i' b' hi' hs' hlt
        by_cases e : 2 * i' + b'.toNat < 2 * i + b.toNat
        · exact hJ i' b' hi' hs' e
        · have hb2 : b.toNat ≤ 1 := by cases b <;> decide
          have hb3 : b'.toNat ≤ 1 := by cases b' <;> decide
          have e1 : i' = i := by omega
          subst e1
          have e2 : b' = b := by
            have : b'.toNat = b.toNat := by omega
            cases b <;> cases b' <;> simp_all
          subst e2
          exact hx
      · exact no_of ⟨_, ij hi, hx⟩
    · intro i b _ hi hs hJ i' b' hi' hs' hlt
      refine hJ i' b' hi' hs' ?_
      have hb2 : b.toNat ≤ 1 := by cases b <;> decide
      have hb3 : b'.toNat ≤ 1 := by cases b' <;> decide
      rcases Nat.lt_or_ge (2 * i' + b'.toNat) (2 * i + b.toNat) with h | h
      · exact h
      · exfalso
        have e1 : i' = i := by omega
        subst e1
        have e2 : b' = b := by
          have : b'.toNat = b.toNat := by omega
          cases b <;> cases b' <;> simp_all
        subst e2
        exact hs hs'
    · rintro (x | x) hx
      · refine M.o_grd (gA2 (by omega) (by omega)) ?_
        by_cases hd : rw_ can s s < 0
        · refine M.o_t (decide_eq_true (by rw [← rw_nat]; exact hd)) (M.o_pure fun hA => ?_)
          have := hW.agr_zero hN hA (a := (s : Int)) (by omega)
          omega
        · refine M.o_f (decide_eq_false (by rw [← rw_nat]; exact hd)) (M.o_grd (gA2 (by omega) (by omega)) (M.o_pure ⟨rfl, fun i b hi h => ?_, fun a h => ?_⟩))
          · by_cases e : sOf ls ⟨i, b⟩ < (s : Int)
            · exact h1 i b hi e
            · have hb2 : b.toNat ≤ 1 := by cases b <;> decide
              exact hx i b hi (by omega) (by omega)
          · by_cases e : a = s
            · rw [e]; exact hd
            · exact h2 a (by omega)
      · exact M.o_pure hx
  · rintro s ⟨rfl, h1, h2⟩
    simp only [m_level_survey_open_b6]
    refine M.o_f (by simp; omega) (M.o_pure ?_)
    obtain ⟨f, _, hF⟩ := hW.agr_of hN (fun a h0 h3 x hx => by
      obtain ⟨l, k⟩ := x
      have hx' := hx
      obtain ⟨l0, l1⟩ := hx
      dsimp only at l0 l1
      have e : l = ((l.toNat : Nat) : Int) := by omega
      rw [e] at hx' ⊢
      exact h1 l.toNat k (by omega) (by have := (hx'.ed.rng hN.rng).1; omega) a h0 h3) (fun a h0 h3 => by
      have := h2 a.toNat (by omega)
      rwa [Int.toNat_of_nonneg h0] at this)
    exact ⟨_, hF⟩
end Go.Proofs.Ytclhljenjphofaa
namespace Go.Nm
/-- A line, as it may be in a net. -/
def okLine (n : Int) (l : Line) : Bool := (((((decide (0 ≤ l.src) && decide (l.src ≤ n - 1)) && (decide (0 ≤ l.dst) && decide (l.dst ≤ n - 1))) && (l.src != l.dst)) && (decide (0 ≤ l.day) && decide (l.day ≤ 40000))) && (decide (-1000000 ≤ l.rise) && decide (l.rise ≤ 1000000))) && (decide (0 ≤ l.err) && decide (l.err ≤ 10000))
def chkE (n : Int) (ls : List Line) : Int := bif (!(decide (1 ≤ n) && decide (n ≤ 12))) || decide (30 < (ls.length : Int)) then 3 else bif !(ls.all (okLine n)) then 20 else 0
theorem okLine_iff {n : Int} {l : Line} : okLine n l = true ↔ ((((((0 ≤ l.src ∧ l.src ≤ n - 1) ∧ (0 ≤ l.dst ∧ l.dst ≤ n - 1)) ∧ l.src ≠ l.dst) ∧ (0 ≤ l.day ∧ l.day ≤ 40000)) ∧ (-1000000 ≤ l.rise ∧ l.rise ≤ 1000000)) ∧ (0 ≤ l.err ∧ l.err ≤ 10000)) := by
  unfold okLine
  simp only [Bool.and_eq_true, decide_eq_true_eq, bne_iff_ne, ne_eq]
theorem chk_ok {n : Int} {ls : List Line} : chkE n ls = 0 ↔ NetOk n ls := by
  unfold chkE
  cases h1 : (!(decide (1 ≤ n) && decide (n ≤ 12))) || decide (30 < (ls.length : Int)) with
  | true =>
    simp only [Bool.or_eq_true, Bool.not_eq_true', Bool.and_eq_false_iff, decide_eq_false_iff_not, decide_eq_true_eq] at h1
    refine ⟨fun h => by simp at h, fun h => ?_⟩
    have := h.marks
    have := h.few
    omega
  | false =>
    simp only [Bool.or_eq_false_iff, Bool.not_eq_false', Bool.and_eq_true, decide_eq_false_iff_not, decide_eq_true_eq] at h1
    cases h2 : ls.all (okLine n) with
    | true =>
      rw [List.all_eq_true] at h2
      have h3 := fun l hl => okLine_iff.1 (h2 l hl)
      exact ⟨fun _ => ⟨h1.1, by omega, fun l hl => by have := h3 l hl; omega, fun l hl => (h3 l hl).1.1.1.2, fun l hl => (h3 l hl).1.1.2, fun l hl => (h3 l hl).1.2, fun l hl => (h3 l hl).2⟩, fun _ => rfl⟩
    | false =>
      rw [List.all_eq_false] at h2
      obtain ⟨l, hl, h3⟩ := h2
      refine ⟨fun h => by simp at h, fun h => absurd (okLine_iff.2 ?_) h3⟩
      have := h.rng l hl
      exact ⟨⟨⟨⟨⟨⟨this.1.1, by omega⟩, ⟨this.2.1, by omega⟩⟩, h.ne l hl⟩, h.day l hl⟩, h.rise l hl⟩, h.err l hl⟩
/-- What is said of two marks. -/
structure Btw (ls : List Line) (a b : Int) (r : Int × Int × Int) : Prop where
  no : ¬ Agr ls → r = (0, 0, 7)
  far : Agr ls → ¬ Tied ls a b → r = (0, 0, 5)
  yes : Agr ls → Tied ls a b → r.2.2 = 0 ∧ IsDist ls a b r.2.1 ∧ IsDist ls b a (-r.1)
end Go.Nm
namespace Go.Proofs.Ytclhljenjphofaa
open Go Go.Nm
variable {ls : List Line} {n a : Int}
theorem in_ends (x lo hi : Int) : (m_level_in x lo hi).Ends (decide (lo ≤ x) && decide (x ≤ hi)) := M.i_pure
theorem index_line {f : Line → M Bool} {q : Line → Bool} (h : ∀ x, x ∈ ls → (f x).Ends (q x)) : (m_slices_IndexFunc_level_Line ls f).Out (fun r => decide (0 ≤ r) = ls.any q) := by
  unfold m_slices_IndexFunc_level_Line
  refine M.o_bind (P := fun y => match y with | .inl r => decide (0 ≤ r) = ls.any q | .inr _ => ls.any q = false) ?_ (fun y hy => by
    rcases y with y | y
    · exact M.o_pure hy
    · exact M.o_pure (by rw [hy]; rfl))
  refine M.o_for ls.length (fun i s => s = i ∧ (ls.take i).any q = false) ?_ ?_ (s := 0) ⟨rfl, by simp⟩
  · rintro i s hi ⟨rfl, hJ⟩
    simp only [m_slices_IndexFunc_level_Line_b0]
    refine M.o_t (by simpa using hi) (M.o_grd (by simpa using hi) (M.o_bindE (h (ls.getD s default) (by rw [getD_el ls hi]; exact List.getElem_mem hi)) (M.o_if (fun hb => ?_) (fun hb => ?_))))
    · refine M.o_pure ?_
      dsimp only
      rw [show ls.any q = true from List.any_eq_true.2 ⟨_, by rw [getD_el ls hi]; exact List.getElem_mem hi, hb⟩]
      exact decide_eq_true (by omega)
    · refine M.o_pure ⟨rfl, ?_⟩
      rw [← take_succ_D ls s hi default, List.any_append, hJ]
      simp only [List.any_cons, List.any_nil, Bool.or_false, Bool.false_or]
      exact hb
  · rintro s ⟨rfl, hJ⟩
    simp only [m_slices_IndexFunc_level_Line_b0]
    rw [List.take_length] at hJ
    exact M.o_f (by simp) (M.o_pure hJ)
theorem every_line {so : Line → M Bool} {p : Line → Bool} (h : ∀ x, x ∈ ls → (so x).Ends (p x)) : (m_level_every_level_Line ls so).Ends (ls.all p) := by
  unfold m_level_every_level_Line m_slices_ContainsFunc_level_Line
  obtain ⟨r, h1, h2⟩ := index_line (ls := ls) (f := fun x => m_level_every_level_Line__1 x so) (q := fun x => !(p x)) (fun x hx => by unfold m_level_every_level_Line__1; exact M.i_bind (h x hx) M.i_pure)
  refine M.i_bind (M.i_bind h1 M.i_pure) ?_
  rw [h2, List.any_eq_not_all_not]
  simp only [Bool.not_not]
  exact M.i_pure
theorem check_ends (n : Int) (ls : List Line) : (m_level_Check n ls).Ends (chkE n ls) := by
  unfold m_level_Check chkE
  refine M.i_bind (in_ends _ _ _) (M.i_if (fun hb => ?_) (fun hb => ?_))
  · rw [hb]; exact M.i_pure
  · rw [hb]
    simp only [Bool.or_eq_false_iff, Bool.not_eq_false', Bool.and_eq_true, decide_eq_false_iff_not, decide_eq_true_eq] at hb
    refine M.i_bind (every_line (p := okLine n) fun l _ => ?_) (M.i_if (fun h2 => by rw [h2]; exact M.i_pure) (fun h2 => by rw [h2]; exact M.i_pure))
    have mk : ∀ x : Int, (m_level_Check_1 x n ls).Ends (decide (0 ≤ x) && decide (x ≤ n - 1)) := fun x => by
      unfold m_level_Check_1
      exact M.i_grd (gA2 (by omega) (by omega)) (M.i_bind (in_ends _ _ _) M.i_pure)
    unfold m_level_Check_2
    have opt : ∀ {c : Bool} {m : M Bool} {b : Bool}, m.Ends b → (M.opt c m false).Ends (c && b) := fun {c m b} h => M.i_opt (fun e => by rw [e, Bool.true_and]; exact h) (fun e => by rw [e]; rfl)
    refine M.i_bind (mk l.src) (M.i_bind (opt (mk l.dst)) (M.i_bind (opt (in_ends _ _ _)) (M.i_bind (opt (in_ends _ _ _)) (M.i_bind (opt (in_ends _ _ _)) ?_))))
    have e : okLine n l = _ := rfl
    unfold okLine
    generalize (decide (0 ≤ l.src) && decide (l.src ≤ n - 1)) = b1
    generalize (decide (0 ≤ l.dst) && decide (l.dst ≤ n - 1)) = b2
    generalize (l.src != l.dst) = b3
    generalize (decide (0 ≤ l.day) && decide (l.day ≤ 40000)) = b4
    generalize (decide (-1000000 ≤ l.rise) && decide (l.rise ≤ 1000000)) = b5
    generalize (decide (0 ≤ l.err) && decide (l.err ≤ 10000)) = b6
    cases b1 <;> cases b2 <;> cases b3 <;> cases b4 <;> cases b5 <;> cases b6 <;> exact M.i_pure
theorem opened_out (hN : NetOk n ls) : (m_level_opened n ls).Out (fun y => ∃ can by_, y = .inr (n, can, by_, 0) ∧ Wkd ls n can by_) := by
  unfold m_level_opened
  refine M.o_bindE (check_ends n ls) ?_
  rw [chk_ok.2 hN]
  refine M.o_f (by decide) (M.o_bind (worked_out hN) ?_)
  rintro ⟨r0, c, b⟩ ⟨rfl, hW⟩
  exact M.o_pure ⟨c, b, rfl, hW⟩
end Go.Proofs.Ytclhljenjphofaa
namespace Go.Nm
variable {ls : List Line} {n : Int}
/-- A line, of whose mark from a day on is another one. -/
def pt1 (n mk d : Int) (l : Line) : Line := if l.day < d then l else { l with src := if l.src = mk then n else l.src, dst := if l.dst = mk then n else l.dst }
def ptL (n : Int) (m : Mv) (ls : List Line) : List Line := ls.map (pt1 n m.mark m.day)
theorem pt1_day (n mk d : Int) (l : Line) : (pt1 n mk d l).day = l.day ∧ (pt1 n mk d l).rise = l.rise ∧ (pt1 n mk d l).err = l.err := by
  unfold pt1
  split <;> exact ⟨rfl, rfl, rfl⟩
theorem pt1_ends (n mk d : Int) (l : Line) : (pt1 n mk d l).src = (if l.day < d then l.src else if l.src = mk then n else l.src) ∧ (pt1 n mk d l).dst = (if l.day < d then l.dst else if l.dst = mk then n else l.dst) := by
  unfold pt1
  split <;> exact ⟨rfl, rfl⟩
theorem ptL_ok {m : Mv} (hN : NetOk n ls) (h : n < 12) (hm : 0 ≤ m.mark ∧ m.mark < n) : NetOk (n + 1) (ptL n m ls) := by
  have hk := hN.marks
  have mem : ∀ l, l ∈ ptL n m ls → ∃ k, k ∈ ls ∧ l = pt1 n m.mark m.day k := fun l hl => by
    obtain ⟨k, hk, e⟩ := List.mem_map.1 hl
    exact ⟨k, hk, e.symm⟩
  refine ⟨by omega, by unfold ptL; rw [List.length_map]; exact hN.few, fun l hl => ?_, fun l hl => ?_, fun l hl => ?_, fun l hl => ?_, fun l hl => ?_⟩ <;> obtain ⟨k, hk, rfl⟩ := mem l hl
  · have := hN.rng k hk
    obtain ⟨e1, e2⟩ := pt1_ends n m.mark m.day k
    rw [e1, e2]
    constructor <;> split <;> (try split) <;> omega
  · have h1 := hN.rng k hk
    have h2 := hN.ne k hk
    obtain ⟨e1, e2⟩ := pt1_ends n m.mark m.day k
    rw [e1, e2]
    split
    · exact h2
    · split <;> split <;> omega
  · rw [(pt1_day n m.mark m.day k).1]; exact hN.day k hk
  · rw [(pt1_day n m.mark m.day k).2.1]; exact hN.rise k hk
  · rw [(pt1_day n m.mark m.day k).2.2]; exact hN.err k hk
/-- Lines that are changed one by one. -/
structure Don (f : Line → Line) (ls : List Line) (i : Nat) (l : List Line) : Prop where
  len : l.length = ls.length
  el : ∀ j, j < ls.length → l.getD j default = if j < i then f (ls.getD j default) else ls.getD j default
theorem Don.zero (f : Line → Line) (ls : List Line) : Don f ls 0 ls := ⟨rfl, fun j _ => by rw [if_neg (by omega)]⟩
theorem Don.here {f : Line → Line} {i : Nat} {l : List Line} (h : Don f ls i l) (hi : i < ls.length) : l.getD i default = ls.getD i default := by rw [h.el i hi, if_neg (by omega)]
theorem Don.set {f : Line → Line} {i : Nat} {l : List Line} {x : Line} (h : Don f ls i l) (hi : i < ls.length) (hx : x = f (ls.getD i default)) : Don f ls (i + 1) (l.set i x) := by
  refine ⟨by rw [List.length_set]; exact h.len, fun j hj => ?_⟩
  rw [gset _ _ _ _ _ (by rw [h.len]; exact hi)]
  by_cases e : j = i
  · subst e
    rw [if_pos rfl, if_pos (by omega), hx]
  · rw [if_neg e, h.el j hj]
    by_cases e2 : j < i
    · rw [if_pos e2, if_pos (by omega)]
    · rw [if_neg e2, if_neg (by omega)]
theorem Don.same {f : Line → Line} {i : Nat} {l : List Line} (h : Don f ls i l) (hi : i < ls.length) (hx : f (ls.getD i default) = ls.getD i default) : Don f ls (i + 1) l := by
  refine ⟨h.len, fun j hj => ?_⟩
  rw [h.el j hj]
  by_cases e : j = i
  · subst e
    rw [if_neg (by omega), if_pos (by omega), hx]
  · by_cases e2 : j < i
    · rw [if_pos e2, if_pos (by omega)]
    · rw [if_neg e2, if_neg (by omega)]
theorem Don.fin {f : Line → Line} {i : Nat} {l : List Line} (h : Don f ls i l) (hi : i = ls.length) : l = ls.map f := by
  subst hi
  refine List.ext_getElem (by rw [List.length_map]; exact h.len) fun j h1 h2 => ?_
  have h3 : j < ls.length := by rw [List.length_map] at h2; exact h2
  have := h.el j h3
  rw [if_pos h3, getD_el l h1, getD_el ls h3] at this
  rw [this, List.getElem_map]
/-- Days from which on a mark can have moved. -/
def Dy (ls : List Line) (mk d : Int) : Prop := (d = 1 ∨ ∃ l, l ∈ ls ∧ (l.src = mk ∨ l.dst = mk) ∧ d = l.day + 1) ∧ d ≠ 40001
theorem mem_insK {l : List Int} {k x : Int} : x ∈ insK l k ↔ x ∈ l ∨ x = k := by
  unfold insK
  cases hc : l.contains k with
  | true =>
    have hc : k ∈ l := by simpa using hc
    exact ⟨fun h => .inl h, fun h => by rcases h with h | rfl; exact h; exact hc⟩
  | false => simp
theorem len_insK (l : List Int) (k : Int) : (insK l k).length ≤ l.length + 1 := by
  unfold insK
  cases l.contains k with
  | true => exact Nat.le_succ _
  | false => simp
/-- The moves that are found: one for each mark that can have moved, with the first day. -/
structure MvOk (n : Int) (ls : List Line) (i : Int) (l : List Mv) : Prop where
  len : (l.length : Int) ≤ i
  each : ∀ m, m ∈ l → (0 ≤ m.mark ∧ m.mark < i) ∧ Dy ls m.mark m.day ∧ Agr (ptL n m ls)
  asc : l.Pairwise (fun a b => a.mark < b.mark)
  all : ∀ mk d, 0 ≤ mk → mk < i → Dy ls mk d → Agr (ptL n ⟨mk, d⟩ ls) → ∃ m, m ∈ l ∧ m.mark = mk ∧ m.day ≤ d
theorem Dy.rng {mk d : Int} (hN : NetOk n ls) (h : Dy ls mk d) : 1 ≤ d ∧ d ≤ 40000 := by
  obtain ⟨rfl | ⟨l, hl, _, rfl⟩, h2⟩ := h
  · omega
  · have := hN.day l hl
    omega
end Go.Nm
namespace Go.Proofs.Ytclhljenjphofaa
open Go Go.Nm
variable {ls : List Line} {n : Int}
theorem parted_any (hn : 0 ≤ n ∧ n ≤ 12) (h2 : ls.length ≤ 30) (m : Mv) : (m_level_parted n ls m).Ends (n + 1, ptL n m ls) := by
  have out : (m_level_parted n ls m).Out (fun r => r = (n + 1, ptL n m ls)) := by
    unfold m_level_parted
    refine M.o_grd (gA2 (by omega) (by omega)) (M.o_grdD (by omega) ?_)
    refine M.o_bind (P := fun y => y.2 = ptL n m ls) ?_ (fun y hy => M.o_pure (by rw [hy]))
    refine M.o_for ls.length (fun i st => st.1 = i ∧ Don (pt1 n m.mark m.day) ls i st.2) ?_ ?_ ⟨rfl, Don.zero _ _⟩
    · rintro i ⟨s, l⟩ hi ⟨rfl, hD⟩
      dsimp only at hi hD
      simp only [m_level_parted_b0]
      have g : ∀ x, (l.set s x).getD s default = x := fun x => by rw [gset _ _ _ _ _ (by rw [hD.len]; exact hi), if_pos rfl]
      simp only [g, List.set_set, hD.here hi]
      have hl := hD.len
      refine M.o_t (by simpa using hi) (M.o_grdD (by omega) (M.o_if (fun hb => ?_) (fun hb => ?_)))
      · refine M.o_pure ⟨rfl, hD.same hi ?_⟩
        have hb := of_decide_eq_true hb
        unfold pt1
        rw [if_pos hb]
      · have hb := of_decide_eq_false hb
        refine M.o_if (fun h1 => ?_) (fun h1 => ?_)
        · have h1 := beq_iff_eq.1 h1
          refine M.o_if (fun h2 => ?_) (fun h2 => ?_)
          · have h2 := beq_iff_eq.1 h2
            refine M.o_pure ⟨rfl, hD.set hi ?_⟩
            unfold pt1
            rw [if_neg hb, if_pos h1, if_pos h2]
          · have h2 := beq_eq_false_iff_ne.1 h2
            refine M.o_pure ⟨rfl, hD.set hi ?_⟩
            unfold pt1
            rw [if_neg hb, if_pos h1, if_neg h2]
        · have h1 := beq_eq_false_iff_ne.1 h1
          refine M.o_if (fun h2 => ?_) (fun h2 => ?_)
          · have h2 := beq_iff_eq.1 h2
            refine M.o_pure ⟨rfl, hD.set hi ?_⟩
            unfold pt1
            rw [if_neg hb, if_neg h1, if_pos h2]
          · have h2 := beq_eq_false_iff_ne.1 h2
            refine M.o_pure ⟨rfl, hD.same hi ?_⟩
            unfold pt1
            rw [if_neg hb, if_neg h1, if_neg h2]
    · rintro ⟨s, l⟩ ⟨rfl, hD⟩
      simp only [m_level_parted_b0]
      exact M.o_f (by simp) (M.o_pure (hD.fin rfl))
  obtain ⟨r, h, rfl⟩ := out
  exact h
theorem parted_ends (hn : 0 ≤ n ∧ n ≤ 12) (h : 0 < ls.length) (h2 : ls.length ≤ 30) (m : Mv) : (m_level_parted n ls m).Ends (n + 1, ptL n m ls) := parted_any hn h2 m
theorem days_out (hN : NetOk n ls) (N mk : Int) : (m_level_survey_days N ls mk).Out (fun r => r.Pairwise (· ≤ ·) ∧ ∀ d, d ∈ r ↔ Dy ls mk d) := by
  have few := hN.few
  unfold m_level_survey_days
  refine M.o_bindE (a := mk) (by unfold m_level_survey_legs; exact M.i_pure) ?_
  refine M.o_bind (P := fun y => match y with | .inl mp => mp.Nodup ∧ mp.length ≤ 1 + 2 * ls.length ∧ ∀ d, d ∈ mp ↔ (d = 1 ∨ ∃ l, l ∈ ls ∧ (l.src = mk ∨ l.dst = mk) ∧ d = l.day + 1) | .inr _ => False) ?_ ?_
  · refine M.o_mono (legs_out (ls := ls) (n := N) (m := mk) (fun c mp => mp.Nodup ∧ mp.length ≤ 1 + c ∧ 1 ∈ mp ∧ (∀ d, d ∈ mp → (d = 1 ∨ ∃ l, l ∈ ls ∧ (l.src = mk ∨ l.dst = mk) ∧ d = l.day + 1)) ∧ ∀ (i : Nat) (k : Bool), 2 * i + k.toNat < c → i < ls.length → sOf ls ⟨i, k⟩ = mk → (ls.getD i default).day + 1 ∈ mp) (fun _ => False) ?_ ?_ ?_) ?_
    · rintro i k s hi hs ⟨j1, j2, j3, j4, j5⟩
      unfold m_level_survey_days_b0
      have hl : ls.getD i default ∈ ls := by rw [getD_el ls hi]; exact List.getElem_mem hi
      have hd := hN.day _ hl
      have e0 : Int.toNat (i : Int) = i := Int.toNat_natCast i
      refine M.o_grd (gA2 (by show (0 : Int) ≤ (i : Int); omega) (by show (i : Int) < _; omega)) ?_
      dsimp only
      rw [e0]
      refine M.o_grd (gA2 (by omega) (by omega)) (M.o_pure ⟨insK_once j1 _, ?_, mem_insK.2 (.inl j3), fun d hd => ?_, fun i' k' hlt hi' hs' => ?_⟩)
      · have := len_insK s ((ls.getD i default).day + 1)
        omega
      · rcases mem_insK.1 hd with hd | rfl
        · exact j4 d hd
        · refine .inr ⟨_, hl, ?_, rfl⟩
          unfold sOf legEnd lnOf at hs
          dsimp only at hs
          rw [e0] at hs
          cases k with
          | true => exact .inr hs
          | false => exact .inl hs
      · by_cases e : 2 * i' + k'.toNat < 2 * i + k.toNat
        · exact mem_insK.2 (.inl (j5 i' k' e hi' hs'))
        · have b1 := Bool.toNat_le k
          have b2 := Bool.toNat_le k'
          obtain rfl : i' = i := by omega
          exact mem_insK.2 (.inr rfl)
    · rintro i k s hi hs ⟨j1, j2, j3, j4, j5⟩
      refine ⟨j1, by omega, j3, j4, fun i' k' hlt hi' hs' => ?_⟩
      by_cases e : 2 * i' + k'.toNat < 2 * i + k.toNat
      · exact j5 i' k' e hi' hs'
      · have b1 := Bool.toNat_le k
        have b2 := Bool.toNat_le k'
        obtain rfl : i' = i := by omega
        have : k' = k := by cases k <;> cases k' <;> simp at * <;> omega
        subst this
        exact absurd hs' hs
    · refine ⟨by decide, by decide, by decide, fun d hd => .inl ?_, fun i k h => by omega⟩
      simpa [insK] using hd
    · rintro (mp | x) hy
      · obtain ⟨j1, j2, j3, j4, j5⟩ := hy
        refine ⟨j1, by omega, fun d => ⟨j4 d, ?_⟩⟩
        rintro (rfl | ⟨l, hl, hm, rfl⟩)
        · exact j3
        · obtain ⟨i, hi, rfl⟩ := mem_getD hl default
          have e0 : Int.toNat (i : Int) = i := Int.toNat_natCast i
          rcases hm with hm | hm
          · exact j5 i false (by simp; omega) hi (by unfold sOf legEnd lnOf; dsimp only; rw [e0]; exact hm)
          · exact j5 i true (by simp; omega) hi (by unfold sOf legEnd lnOf; dsimp only; rw [e0]; exact hm)
      · exact hy
  · rintro (mp | x) hy
    · obtain ⟨h1, h2, h3⟩ := hy
      have hE : ∀ d, d ∈ mp.erase 40001 ↔ Dy ls mk d := fun d => by
        rw [h1.mem_erase_iff, h3 d]
        exact ⟨fun h => ⟨h.2, h.1⟩, fun h => ⟨h.2, h.1⟩⟩
      refine M.o_grd (gA2 (fun d hd => ?_) ?_) (M.o_pure ⟨isort_asc _, fun d => ?_⟩)
      · have := ((hE d).1 hd).rng hN
        omega
      · have := List.length_erase_le (a := (40001 : Int)) (l := mp)
        omega
      · rw [(isort_perm _).mem_iff]
        exact hE d
    · exact hy.elim
theorem moves_in (hN : NetOk n ls) (hn : n < 12) (h : 0 < ls.length) {mk : Nat} (hm : (mk : Int) < n) {bs : List Mv} {ds : List Int} (hb : bs.length ≤ 12) (hbs : ∀ m, m ∈ bs → m.mark < (mk : Int)) :
    (M.iter (m_level_Moves_b2 n ls mk ds) (0, bs)).Out (fun y => (y.2 = bs ∧ ∀ j, j < ds.length → ¬ Agr (ptL n ⟨mk, ds.getD j 0⟩ ls)) ∨ ∃ k, k < ds.length ∧ y.2 = bs ++ [⟨mk, ds.getD k 0⟩] ∧ Agr (ptL n ⟨mk, ds.getD k 0⟩ ls) ∧ ∀ j, j < k → ¬ Agr (ptL n ⟨mk, ds.getD j 0⟩ ls)) := by
  have hk := hN.marks
  refine M.o_for ds.length (fun i st => st.1 = i ∧ ((st.2 = bs ∧ ∀ j, j < i → ¬ Agr (ptL n ⟨mk, ds.getD j 0⟩ ls)) ∨ ∃ k, k < i ∧ st.2 = bs ++ [⟨mk, ds.getD k 0⟩] ∧ Agr (ptL n ⟨mk, ds.getD k 0⟩ ls) ∧ ∀ j, j < k → ¬ Agr (ptL n ⟨mk, ds.getD j 0⟩ ls))) ?_ ?_ ⟨rfl, .inl ⟨rfl, fun j hj => by omega⟩⟩
  · rintro i ⟨s, l⟩ hi ⟨rfl, hJ⟩
    dsimp only at hi hJ
    have hll : l.length ≤ 13 := by
      rcases hJ with ⟨rfl, _⟩ | ⟨k, _, rfl, _⟩
      · omega
      · simp; omega
    simp only [m_level_Moves_b2]
    refine M.o_t (by simpa using hi) (M.o_grd (by simpa using hi) (M.o_grd (gA2 (by omega) (by omega)) (M.o_grd ?_ ?_)))
    · by_cases e : 0 ≤ (l.length : Int) - 1
      · exact gOr2 e (by omega)
      · rw [decide_eq_false e]; rfl
    · rcases hJ with ⟨rfl, hJ⟩ | ⟨k, hks, rfl, hA, hJ⟩
      · refine M.o_f ?_ ?_
        · by_cases e : 0 ≤ (l.length : Int) - 1
          · have hne : l.getD (Int.toNat ((l.length : Int) - 1)) default ∈ l := by
              have : Int.toNat ((l.length : Int) - 1) < l.length := by omega
              rw [getD_el l this]
              exact List.getElem_mem this
            have := hbs _ hne
            rw [Bool.and_eq_false_iff]
            refine .inr (decide_eq_false fun e2 => ?_)
            rw [e2] at this
            dsimp only at this
            omega
          · rw [decide_eq_false e]; rfl
        · refine M.o_bindE (parted_ends (by omega) h hN.few _) ?_
          dsimp only
          have hN2 := ptL_ok (m := ⟨(mk : Int), ds.getD s 0⟩) hN hn ⟨by dsimp only; omega, hm⟩
          refine M.o_bind (worked_out hN2) ?_
          rintro ⟨r0, c, b⟩ ⟨rfl, hW⟩
          refine M.o_bind (open_out hN2 hW) ?_
          intro r hr
          refine M.o_if (fun hb => ?_) (fun hb => ?_)
          · refine M.o_grdD (by simp only [List.length_cons, List.length_nil]; omega) (M.o_pure ⟨rfl, .inr ⟨s, by omega, rfl, ?_, hJ⟩⟩)
            refine Classical.byContradiction fun hc => ?_
            rw [hr.2 hc] at hb
            cases hb
          · refine M.o_pure ⟨rfl, .inl ⟨rfl, fun j hj => ?_⟩⟩
            by_cases e : j = s
            · subst e
              exact hr.1 (by simpa using hb)
            · exact hJ j (by omega)
      · refine M.o_t ?_ (M.o_pure ⟨rfl, .inr ⟨k, by omega, rfl, hA, hJ⟩⟩)
        have e : Int.toNat (((bs ++ [(⟨mk, ds.getD k 0⟩ : Mv)]).length : Int) - 1) = bs.length := by simp
        have e2 : ∀ x : Mv, (bs ++ [x]).getD bs.length default = x := fun x => by simp [List.getD_eq_getElem?_getD]
        rw [e, e2]
        exact gA2 (by simp) rfl
  · rintro ⟨s, l⟩ ⟨rfl, hJ⟩
    simp only [m_level_Moves_b2]
    exact M.o_f (by simp) (M.o_pure hJ)
theorem moves_out (hN : NetOk n ls) : (m_level_Moves n ls).Out (fun y => (Agr ls → y = ([], 8)) ∧ (¬ Agr ls → n = 12 → y = ([], 3)) ∧ (¬ Agr ls → n < 12 → y.2 = 0 ∧ MvOk n ls n y.1)) := by
  have hk := hN.marks
  unfold m_level_Moves
  refine M.o_bind (opened_out hN) ?_
  rintro y ⟨c, b, rfl, hW⟩
  dsimp only
  refine M.o_f (by decide) (M.o_bind (open_out hN hW) ?_)
  intro r hr
  cases r with
  | false =>
    have hA : Agr ls := Classical.byContradiction fun h => by have := hr.2 h; cases this
    exact M.o_t rfl (M.o_pure ⟨fun _ => rfl, fun h => absurd hA h, fun h => absurd hA h⟩)
  | true =>
    have hA := hr.1 rfl
    refine M.o_f rfl (M.o_if (fun hb => ?_) (fun hb => ?_))
    · have hb := beq_iff_eq.1 hb
      exact M.o_pure ⟨fun h => absurd h hA, fun _ _ => rfl, fun _ h => by omega⟩
    · have hb := beq_eq_false_iff_ne.1 hb
      have hl : 0 < ls.length := by
        cases ls with
        | nil => exact absurd ⟨fun _ => 0, fun l hl => by cases hl⟩ hA
        | cons => simp
      refine M.o_bind (P := fun y => MvOk n ls n y.2) ?_ (fun y hy => M.o_pure ⟨fun h => absurd h hA, fun _ h => by omega, fun _ _ => ⟨rfl, hy⟩⟩)
      refine M.o_for (Int.toNat n) (fun i st => st.1 = i ∧ MvOk n ls i st.2) ?_ ?_ ⟨rfl, ⟨by simp, by simp, .nil, fun mk d h1 h2 => by omega⟩⟩
      · rintro i ⟨s, l⟩ hi ⟨rfl, hJ⟩
        dsimp only at hi hJ
        simp only [m_level_Moves_b3]
        refine M.o_t (decide_eq_true (by omega)) (M.o_bind (days_out hN n s) ?_)
        rintro ds ⟨hasc, hds⟩
        have hlen := hJ.len
        refine M.o_bind (moves_in hN (by omega) hl (mk := s) (ds := ds) (by omega) (by omega) (fun m hm => (hJ.each m hm).1.2)) ?_
        rintro ⟨l2, l5⟩ hy
        dsimp only at hy ⊢
        refine M.o_grd (gA2 (by omega) (by omega)) (M.o_pure ⟨rfl, ?_⟩)
        dsimp only
        have at_ : ∀ d, Dy ls (s : Int) d → ∃ j, j < ds.length ∧ ds.getD j 0 = d := fun d hd => mem_getD ((hds d).2 hd) 0
        rcases hy with ⟨rfl, hno⟩ | ⟨k, hks, rfl, hAk, hno⟩
        · refine ⟨by omega, fun m hm => ?_, hJ.asc, fun mk d h0 h1 hd hag => ?_⟩
          · have := hJ.each m hm
            exact ⟨by omega, this.2⟩
          · by_cases e : mk = s
            · subst e
              obtain ⟨j, hj, rfl⟩ := at_ d hd
              exact absurd hag (hno j hj)
            · exact hJ.all mk d h0 (by omega) hd hag
        · have hkd : Dy ls (s : Int) (ds.getD k 0) := (hds _).1 (by rw [getD_el ds hks]; exact List.getElem_mem hks)
          refine ⟨by simp; omega, fun m hm => ?_, ?_, fun mk d h0 h1 hd hag => ?_⟩
          · rcases List.mem_append.1 hm with hm | hm
            · have := hJ.each m hm
              exact ⟨by omega, this.2⟩
            · obtain rfl : m = ⟨(s : Int), ds.getD k 0⟩ := by simpa using hm
              exact ⟨⟨by dsimp only; omega, by dsimp only; omega⟩, hkd, hAk⟩
          · rw [List.pairwise_append]
            refine ⟨hJ.asc, by simp, fun a ha b hb => ?_⟩
            obtain rfl : b = ⟨(s : Int), ds.getD k 0⟩ := by simpa using hb
            exact (hJ.each a ha).1.2
          · by_cases e : mk = s
            · subst e
              obtain ⟨j, hj, rfl⟩ := at_ d hd
              refine ⟨_, List.mem_append_right _ (List.mem_cons_self ..), rfl, ?_⟩
              dsimp only
              by_cases e2 : j < k
              · exact absurd hag (hno j e2)
              · rcases Nat.lt_or_eq_of_le (Nat.le_of_not_lt e2) with e3 | rfl
                · have := List.pairwise_iff_getElem.1 hasc k j hks hj e3
                  rw [getD_el ds hks, getD_el ds hj]
                  exact this
                · exact Int.le_refl _
            · obtain ⟨m, hm, h2⟩ := hJ.all mk d h0 (by omega) hd hag
              exact ⟨m, List.mem_append_left _ hm, h2⟩
      · rintro ⟨s, l⟩ ⟨rfl, hJ⟩
        dsimp only at hJ
        rw [Int.toNat_of_nonneg (by omega)] at hJ
        simp only [m_level_Moves_b3]
        exact M.o_f (decide_eq_false (by omega)) (M.o_pure hJ)
end Go.Proofs.Ytclhljenjphofaa
namespace Go.Nm
/-- A place of a table. -/
def tb (l : List (List Int)) (a b : Nat) : Int := (l.getD a []).getD b 0
structure Sq (N : Nat) (l : List (List Int)) : Prop where
  len : l.length = N
  rows : ∀ a, a < N → (l.getD a []).length = N
theorem Sq.set {N a b : Nat} {l : List (List Int)} (h : Sq N l) (ha : a < N) (x : Int) : Sq N (l.set a ((l.getD a []).set b x)) := by
  refine ⟨by rw [List.length_set]; exact h.len, fun i hi => ?_⟩
  rw [gset _ _ _ _ _ (by rw [h.len]; exact ha)]
  by_cases e : i = a
  · rw [if_pos e, List.length_set]; exact h.rows a ha
  · rw [if_neg e]; exact h.rows i hi
theorem tb_set {N a b : Nat} {l : List (List Int)} (h : Sq N l) (ha : a < N) (hb : b < N) (x : Int) (i j : Nat) : tb (l.set a ((l.getD a []).set b x)) i j = if i = a ∧ j = b then x else tb l i j := by
  unfold tb
  rw [gset _ _ _ _ _ (by rw [h.len]; exact ha)]
  by_cases e : i = a
  · subst e
    rw [if_pos rfl, gset _ _ _ _ _ (by rw [h.rows i ha]; exact hb)]
    by_cases e2 : j = b
    · rw [if_pos e2, if_pos ⟨rfl, e2⟩]
    · rw [if_neg e2, if_neg (fun h => e2 h.2)]
  · rw [if_neg e, if_neg (fun h => e h.1)]
/-- One step. -/
def up (k a b : Nat) (l : List (List Int)) : List (List Int) :=
  if tb l a k < 1000000000000 ∧ tb l k b < 1000000000000 then l.set a ((l.getD a []).set b (max (-1000000000000) (min (tb l a b) (tb l a k + tb l k b)))) else l
theorem up_sq {N k a b : Nat} {l : List (List Int)} (h : Sq N l) (ha : a < N) : Sq N (up k a b l) := by
  unfold up
  split
  · exact h.set ha _
  · exact h
theorem tb_up {N k a b : Nat} {l : List (List Int)} (h : Sq N l) (ha : a < N) (hb : b < N) (i j : Nat) : tb (up k a b l) i j = if i = a ∧ j = b ∧ tb l a k < 1000000000000 ∧ tb l k b < 1000000000000 then max (-1000000000000) (min (tb l a b) (tb l a k + tb l k b)) else tb l i j := by
  unfold up
  by_cases c : tb l a k < 1000000000000 ∧ tb l k b < 1000000000000
  · rw [if_pos c, tb_set h ha hb]
    by_cases e : i = a ∧ j = b
    · rw [if_pos e, if_pos ⟨e.1, e.2, c⟩]
    · rw [if_neg e, if_neg (fun h => e ⟨h.1, h.2.1⟩)]
  · rw [if_neg c, if_neg (fun h => c h.2.2)]
def bd : Nat → Int
  | 0 => 1010000
  | k + 1 => 2 * bd k
theorem bd_pos : ∀ k, 0 < bd k
  | 0 => by decide
  | k + 1 => by have := bd_pos k; unfold bd; omega
theorem bd_le : ∀ k, k ≤ 12 → bd k ≤ 5000000000 := by decide
/-- A table in which the first k marks were gone through. -/
structure RT (N k : Nat) (T0 T : Nat → Nat → Int) : Prop where
  lo : ∀ a b, a < N → b < N → -bd k ≤ T a b
  hi : ∀ a b, a < N → b < N → T a b = 1000000000000 ∨ T a b ≤ bd k
  cl : ∀ a b j, a < N → b < N → j < N → j < k → T a j < 1000000000000 → T j b < 1000000000000 → T a b ≤ T a j + T j b
  le : ∀ a b, a < N → b < N → T a b ≤ T0 a b
def FT (k : Nat) (T : Nat → Nat → Int) (a b : Nat) : Int := if T a k < 1000000000000 ∧ T k b < 1000000000000 then min (T a b) (T a k + T k b) else T a b
theorem FT_row {k b : Nat} {T : Nat → Nat → Int} (h : 0 ≤ T k k) : FT k T k b = T k b := by
  unfold FT
  split <;> omega
theorem FT_col {k a : Nat} {T : Nat → Nat → Int} (h : 0 ≤ T k k) : FT k T a k = T a k := by
  unfold FT
  split <;> omega
theorem FT_le (k : Nat) (T : Nat → Nat → Int) (a b : Nat) : FT k T a b ≤ T a b := by
  unfold FT
  split <;> omega
theorem RT.next {N k : Nat} {T0 T : Nat → Nat → Int} (h : RT N k T0 T) (hk : k < N) (hN : N ≤ 12) (hp : 0 ≤ T k k) : RT N (k + 1) T0 (FT k T) := by
  have hb := bd_le (k + 1) (by omega)
  have hb0 := bd_pos k
  have e2 : bd (k + 1) = 2 * bd k := rfl
  refine ⟨fun a b ha hb => ?_, fun a b ha hb => ?_, fun a b j ha hb hj hjk h1 h2 => ?_, fun a b ha hb => Int.le_trans (FT_le k T a b) (h.le a b ha hb)⟩
  · have l1 := h.lo a b ha hb
    have l2 := h.lo a k ha hk
    have l3 := h.lo k b hk hb
    unfold FT
    split <;> omega
  · have l1 := h.hi a b ha hb
    have l2 := h.hi a k ha hk
    have l3 := h.hi k b hk hb
    unfold FT
    split <;> omega
  · have kj := h.lo k j hk hj
    have jk := h.lo j k hj hk
    have ak := h.lo a k ha hk
    have kb := h.lo k b hk hb
    have hkj := h.hi k j hk hj
    have hjk' := h.hi j k hj hk
    have hak := h.hi a k ha hk
    have hkb := h.hi k b hk hb
    have haj := h.hi a j ha hj
    have hjb := h.hi j b hj hb
    have hab := h.hi a b ha hb
    by_cases e : j = k
    · subst e
      rw [FT_col hp] at h1 ⊢
      rw [FT_row hp] at h2 ⊢
      unfold FT
      rw [if_pos ⟨h1, h2⟩]
      omega
    · have hjk2 : j < k := by omega
      have c1 := h.cl a b j ha hb hj hjk2
      have c2 := h.cl k b j hk hb hj hjk2
      have c3 := h.cl a k j ha hk hj hjk2
      have c4 := h.cl k k j hk hk hj hjk2
      unfold FT at h1 h2 ⊢
      split at h1 <;> split at h2 <;> split <;> (try split) <;> (try split) <;> omega
/-- A table through which all marks were gone, without a mark that is lower than itself, gives heights. -/
theorem RT.feas {N : Nat} {ls : List Line} {T0 T : Nat → Nat → Int} (h : RT N N T0 T) (hN : 1 ≤ N) (hR : Rng N ls) (h0 : ∀ a b c, Ed ls (a : Nat) (b : Nat) c → T0 a b ≤ c) (hc : ∀ a b c, Ed ls a b c → c ≤ 1010000) (hd : ∀ a, a < N → T a a ≤ 0) : Agr ls := by
  have col : ∀ v : Nat, ∀ m : Nat, m ≤ N → 1 ≤ m → ∃ a, a < m ∧ ∀ x, x < m → T a v ≤ T x v := by
    intro v m
    induction m with
    | zero => intro _ h; omega
    | succ m ih =>
      intro hm _
      by_cases e : m = 0
      · subst e; exact ⟨0, by omega, fun x hx => by rw [show x = 0 by omega]; exact Int.le_refl _⟩
      · obtain ⟨a, ha, hx⟩ := ih (by omega) (by omega)
        by_cases c : T m v < T a v
        · refine ⟨m, by omega, fun x hx' => ?_⟩
          by_cases e2 : x = m
          · rw [e2]; exact Int.le_refl _
          · have := hx x (by omega); omega
        · refine ⟨a, by omega, fun x hx' => ?_⟩
          by_cases e2 : x = m
          · rw [e2]; omega
          · exact hx x (by omega)
  have pick : ∀ v : Nat, ∃ a, a < N ∧ ∀ x, x < N → T a v ≤ T x v := fun v => col v N (Nat.le_refl _) hN
  refine ⟨fun v => T (pick v.toNat).choose v.toNat, feas_of fun m g c he => ?_⟩
  have hr := he.rng hR
  obtain ⟨m, rfl⟩ : ∃ k : Nat, m = k := ⟨m.toNat, by omega⟩
  obtain ⟨g, rfl⟩ : ∃ k : Nat, g = k := ⟨g.toNat, by omega⟩
  simp only [Int.toNat_natCast]
  obtain ⟨p1, p2⟩ := (pick m).choose_spec
  obtain ⟨q1, q2⟩ := (pick g).choose_spec
  generalize (pick m).choose = p at *
  generalize (pick g).choose = q at *
  have hm : m < N := by omega
  have hg : g < N := by omega
  have e1 := p2 m hm
  have e2 := hd m hm
  have e3 := q2 p p1
  have e4 := h.le m g hm hg
  have e5 := h0 m g c he
  have e6 := hc _ _ _ he
  have := h.cl p g m p1 hg hm hm (by omega) (by omega)
  omega
end Go.Nm
namespace Go.Nm
variable {ls : List Line} {N : Nat}
/-- Where the rounds stand: all before (a, b) of round k are done. -/
structure Rd3 (N : Nat) (ls : List Line) (T0 : Nat → Nat → Int) (k a b : Nat) (l : List (List Int)) : Prop where
  sq : Sq N l
  lo : ∀ x y, x < N → y < N → -1000000000000 ≤ tb l x y ∧ tb l x y ≤ 1000000000000
  dg : ∀ x, x < N → tb l x x ≤ 0
  sd : ∀ h, Feas ls h → ∀ x y : Nat, x < N → y < N → tb l x y < 1000000000000 → h y - h x ≤ tb l x y
  go : (∃ x, x < N ∧ tb l x x < 0) ∨ ∃ T, RT N k T0 T ∧ (k < N → 0 ≤ T k k) ∧ ∀ x y, x < N → y < N → tb l x y = if x < a ∨ (x = a ∧ y < b) then FT k T x y else T x y
theorem Rd3.up {T0 : Nat → Nat → Int} {k a b : Nat} {l : List (List Int)} (h : Rd3 N ls T0 k a b l) (hN : N ≤ 12) (hk : k < N) (ha : a < N) (hb : b < N) : Rd3 N ls T0 k a (b + 1) (up k a b l) := by
  have t := fun i j => tb_up (k := k) h.sq ha hb i j
  have b1 := h.lo a b ha hb
  have b2 := h.lo a k ha hk
  have b3 := h.lo k b hk hb
  refine ⟨up_sq h.sq ha, fun x y hx hy => ?_, fun x hx => ?_, fun f hf x y hx hy => ?_, ?_⟩
  · rw [t]
    have := h.lo x y hx hy
    split <;> omega
  · rw [t]
    have := h.dg x hx
    split
    · rename_i c
      obtain ⟨rfl, rfl, -⟩ := c
      omega
    · exact this
  · rw [t]
    split
    · rename_i c
      obtain ⟨rfl, rfl, c1, c2⟩ := c
      have e1 := h.sd f hf x k hx hk c1
      have e2 := h.sd f hf k y hk hy c2
      have e3 := h.sd f hf x y hx hy
      intro hlt
      omega
    · exact h.sd f hf x y hx hy
  · rcases h.go with ⟨x, hx, hn⟩ | ⟨T, hT, hp, hE⟩
    · refine .inl ⟨x, hx, ?_⟩
      rw [t]
      have := h.lo x x hx hx
      split
      · rename_i c
        obtain ⟨rfl, rfl, -⟩ := c
        omega
      · exact hn
    · have hp := hp hk
      refine .inr ⟨T, hT, fun _ => hp, fun x y hx hy => ?_⟩
      have e1 : tb l a k = T a k := by
        rw [hE a k ha hk]
        split
        · exact FT_col hp
        · rfl
      have e2 : tb l k b = T k b := by
        rw [hE k b hk hb]
        split
        · exact FT_row hp
        · rfl
      have e3 : tb l a b = T a b := by
        rw [hE a b ha hb, if_neg (by omega)]
      have hn := (hT.next hk hN hp).lo a b ha hb
      have hbd := bd_le (k + 1) (by omega)
      rw [t, e1, e2, e3]
      by_cases c : x = a ∧ y = b
      · obtain ⟨rfl, rfl⟩ := c
        rw [if_pos (show x < x ∨ (x = x ∧ y < y + 1) by omega)]
        by_cases c2 : T x k < 1000000000000 ∧ T k y < 1000000000000
        · rw [if_pos ⟨rfl, rfl, c2⟩]
          unfold FT at hn ⊢
          rw [if_pos c2] at hn ⊢
          omega
        · rw [if_neg (fun h => c2 h.2.2), e3]
          unfold FT
          rw [if_neg c2]
      · rw [if_neg (fun h => c ⟨h.1, h.2.1⟩), hE x y hx hy]
        by_cases c3 : x < a ∨ (x = a ∧ y < b)
        · rw [if_pos c3, if_pos (by omega)]
        · rw [if_neg c3, if_neg (by omega)]
theorem Rd3.row {T0 : Nat → Nat → Int} {k a : Nat} {l : List (List Int)} (h : Rd3 N ls T0 k a N l) : Rd3 N ls T0 k (a + 1) 0 l := by
  refine ⟨h.sq, h.lo, h.dg, h.sd, ?_⟩
  rcases h.go with g | ⟨T, hT, hp, hE⟩
  · exact .inl g
  · refine .inr ⟨T, hT, hp, fun x y hx hy => ?_⟩
    rw [hE x y hx hy]
    by_cases c : x < a ∨ (x = a ∧ y < N)
    · rw [if_pos c, if_pos (by omega)]
    · rw [if_neg c, if_neg (by omega)]
theorem Rd3.rnd {T0 : Nat → Nat → Int} {k : Nat} {l : List (List Int)} (h : Rd3 N ls T0 k N 0 l) (hN : N ≤ 12) (hk : k < N) : Rd3 N ls T0 (k + 1) 0 0 l := by
  refine ⟨h.sq, h.lo, h.dg, h.sd, ?_⟩
  rcases h.go with g | ⟨T, hT, hp, hE⟩
  · exact .inl g
  · have hE' : ∀ x y, x < N → y < N → tb l x y = FT k T x y := fun x y hx hy => by rw [hE x y hx hy, if_pos (by omega)]
    by_cases c : k + 1 < N ∧ FT k T (k + 1) (k + 1) < 0
    · exact .inl ⟨k + 1, c.1, by rw [hE' _ _ c.1 c.1]; exact c.2⟩
    · refine .inr ⟨FT k T, hT.next hk hN (hp hk), fun h1 => by omega, fun x y hx hy => ?_⟩
      rw [hE' x y hx hy, if_neg (by omega)]
/-- The table at the start. -/
structure Ini (N : Nat) (ls : List Line) (T : Nat → Nat → Int) : Prop where
  le : ∀ (a b : Nat) c, a < N → b < N → Ed ls a b c → T a b ≤ c
  ex : ∀ a b : Nat, a < N → b < N → T a b = 1000000000000 ∨ (a = b ∧ T a b = 0) ∨ Ed ls a b (T a b)
  dg : ∀ a, a < N → T a a = 0
theorem Rd3.start (hN : NetOk N ls) {T : Nat → Nat → Int} (h : Ini N ls T) {l : List (List Int)} (hs : Sq N l) (he : ∀ a b, a < N → b < N → tb l a b = T a b) : Rd3 N ls T 0 0 0 l := by
  have rng : ∀ a b : Nat, a < N → b < N → -1010000 ≤ T a b ∧ (T a b = 1000000000000 ∨ T a b ≤ 1010000) := fun a b ha hb => by
    rcases h.ex a b ha hb with h1 | ⟨-, h1⟩ | h1
    · omega
    · omega
    · have := hN.ed _ _ _ h1; omega
  refine ⟨hs, fun x y hx hy => ?_, fun x hx => ?_, fun f hf x y hx hy hlt => ?_, .inr ⟨T, ⟨fun a b ha hb => (rng a b ha hb).1, fun a b ha hb => (rng a b ha hb).2, fun a b j _ _ _ hj => by omega, fun a b _ _ => Int.le_refl _⟩, fun h0 => ?_, fun x y hx hy => ?_⟩⟩
  · rw [he x y hx hy]; have := rng x y hx hy; omega
  · rw [he x x hx hx, h.dg x hx]; exact Int.le_refl _
  · rw [he x y hx hy] at hlt ⊢
    rcases h.ex x y hx hy with h1 | ⟨rfl, h1⟩ | h1
    · omega
    · omega
    · exact hf.ed h1
  · rw [h.dg 0 h0]; exact Int.le_refl _
  · rw [he x y hx hy, if_neg (by omega)]
end Go.Nm
namespace Go.Proofs.Ytclhljenjphofaa
open Go Go.Nm
variable {ls : List Line} {n : Int} {N : Nat}
theorem ref_check (n : Int) (ls : List Line) (hl : ls.length ≤ 1000000) : (m_nilometerref01_Check n ls).Ends (chkE n ls) := by
  have out : ∀ x lo hi, (m_nilometerref01_outside x lo hi).Ends (!(decide (lo ≤ x) && decide (x ≤ hi))) := fun x lo hi => by
    unfold m_nilometerref01_outside
    have e : (decide (x < lo) || decide (hi < x)) = !(decide (lo ≤ x) && decide (x ≤ hi)) := by
      by_cases h1 : lo ≤ x <;> by_cases h2 : x ≤ hi <;> simp [h1, h2] <;> omega
    rw [← e]
    exact M.i_pure
  unfold m_nilometerref01_Check chkE
  have e0 : ((decide (n < 1)) || (decide (12 < n)) || (decide (30 < (ls.length : Int)))) = ((!(decide (1 ≤ n) && decide (n ≤ 12))) || decide (30 < (ls.length : Int))) := by
    congr 1
    by_cases h1 : 1 ≤ n <;> by_cases h2 : n ≤ 12 <;> simp [h1, h2] <;> omega
  rw [e0]
  refine M.i_if (fun hb => by rw [hb]; exact M.i_pure) (fun hb => ?_)
  rw [hb]
  simp only [Bool.or_eq_false_iff, Bool.not_eq_false', Bool.and_eq_true, decide_eq_false_iff_not, decide_eq_true_eq] at hb
  have o : (M.iter (m_nilometerref01_Check_b0 n ls) 0).Out (fun y => match y with | .inl _ => ls.all (okLine n) = false | .inr _ => ls.all (okLine n) = true) := by
    refine M.o_for ls.length (fun i s => s = i ∧ (ls.take i).all (okLine n) = true) ?_ ?_ ⟨rfl, by simp⟩
    · rintro i s hi ⟨rfl, hJ⟩
      simp only [m_nilometerref01_Check_b0]
      have hm : ls.getD s default ∈ ls := by rw [getD_el ls hi]; exact List.getElem_mem hi
      refine M.o_t (by simpa using hi) (M.o_grd (by simpa using hi) (M.o_grd (gA2 (by omega) (by omega)) ?_))
      generalize hl : ls.getD s default = l at *
      have opt : ∀ {c : Bool} {x lo hi : Int}, (M.opt c (m_nilometerref01_outside x lo hi) false).Ends (c && !(decide (lo ≤ x) && decide (x ≤ hi))) := fun {c x lo hi} => M.i_opt (fun e => by rw [e, Bool.true_and]; exact out _ _ _) (fun e => by rw [e]; rfl)
      refine M.o_bindE (out _ _ _) (M.o_bindE opt (M.o_bindE opt (M.o_bindE opt (M.o_bindE opt ?_))))
      have e : okLine n l = ((((((decide (0 ≤ l.src) && decide (l.src ≤ n - 1)) && (decide (0 ≤ l.dst) && decide (l.dst ≤ n - 1))) && (!(l.src == l.dst))) && (decide (0 ≤ l.day) && decide (l.day ≤ 40000))) && (decide (-1000000 ≤ l.rise) && decide (l.rise ≤ 1000000))) && (decide (0 ≤ l.err) && decide (l.err ≤ 10000))) := rfl
      generalize (decide (0 ≤ l.src) && decide (l.src ≤ n - 1)) = b1 at *
      generalize (decide (0 ≤ l.dst) && decide (l.dst ≤ n - 1)) = b2 at *
      generalize (l.src == l.dst) = b3 at *
      generalize (decide (0 ≤ l.day) && decide (l.day ≤ 40000)) = b4 at *
      generalize (decide (-1000000 ≤ l.rise) && decide (l.rise ≤ 1000000)) = b5 at *
      generalize (decide (0 ≤ l.err) && decide (l.err ≤ 10000)) = b6 at *
      refine M.o_if (fun hb => M.o_pure ?_) (fun hb => M.o_pure ⟨rfl, ?_⟩)
      · refine List.all_eq_false.2 ⟨l, hm, ?_⟩
        rw [e]
        cases b1 <;> cases b2 <;> cases b3 <;> cases b4 <;> cases b5 <;> cases b6 <;> simp at hb ⊢
      · rw [← take_succ_D ls s hi default, List.all_append, hJ, hl]
        simp only [List.all_cons, List.all_nil, Bool.and_true, Bool.true_and]
        rw [e]
        cases b1 <;> cases b2 <;> cases b3 <;> cases b4 <;> cases b5 <;> cases b6 <;> simp at hb ⊢
    · rintro s ⟨rfl, hJ⟩
      rw [List.take_length] at hJ
      simp only [m_nilometerref01_Check_b0]
      exact M.o_f (by simp) (M.o_pure hJ)
  obtain ⟨y, h1, h2⟩ := o
  refine M.i_bind h1 ?_
  rcases y with u | u
  · dsimp only at h2 ⊢
    rw [h2]; exact M.i_pure
  · dsimp only at h2 ⊢
    rw [h2]; exact M.i_pure
/-- The least of a start and of all lines between two marks. -/
theorem most_out (hN : NetOk n ls) (a b : Nat) {z : Int} (hz : -1000000000000 ≤ z ∧ z ≤ 1000000000000) {body : (Int × Nat) → M ((Int × Nat) ⊕ Int)} (hbody : body = m_nilometerref01_table_b19 ls a b ∨ body = m_nilometerref01_table_b18 ls a b) :
    (M.iter body (z, 0)).Out (fun r => (∀ c, Ed ls a b c → r ≤ c) ∧ (r = z ∨ Ed ls a b r) ∧ r ≤ z) := by
  have same : m_nilometerref01_table_b18 ls a b = m_nilometerref01_table_b19 ls a b := rfl
  have hbody : body = m_nilometerref01_table_b19 ls a b := by rcases hbody with h | h; exact h; exact h.trans same
  subst hbody
  refine M.o_for ls.length (fun i st => st.2 = i ∧ (∀ j : Nat, j < i → ∀ c, Ed [ls.getD j default] a b c → st.1 ≤ c) ∧ (st.1 = z ∨ Ed ls a b st.1) ∧ st.1 ≤ z) ?_ ?_ (s := (z, 0)) ⟨rfl, fun j hj => by omega, .inl rfl, Int.le_refl _⟩
  · rintro i ⟨m, s⟩ hi ⟨e, h1, h2, h3⟩
    dsimp only at hi h1 h2 h3 e
    subst e
    have hm : ls.getD s default ∈ ls := by rw [getD_el ls hi]; exact List.getElem_mem hi
    have hr := hN.rise _ hm
    have he := hN.err _ hm
    have hne := hN.ne _ hm
    simp only [m_nilometerref01_table_b19]
    refine M.o_t (by simpa using hi) (M.o_grd (by simpa using hi) ?_)
    generalize hl : ls.getD s default = l at *
    have fin : ∀ m' : Int, m' ≤ m → (∀ c, Ed [l] (a : Int) b c → m' ≤ c) → (m' = m ∨ Ed ls a b m') → (∀ j : Nat, j < s + 1 → ∀ c, Ed [ls.getD j default] (a : Int) b c → m' ≤ c) ∧ (m' = z ∨ Ed ls a b m') ∧ m' ≤ z := by
      intro m' g1 g2 g3
      refine ⟨fun j hj c hc => ?_, ?_, by omega⟩
      · by_cases e : j = s
        · rw [e, hl] at hc; exact g2 c hc
        · have := h1 j (by omega) c hc; omega
      · rcases g3 with g3 | g3
        · rw [g3]; exact h2
        · exact .inr g3
    refine M.o_if (fun c1 => ?_) (fun c1 => ?_)
    · simp only [Bool.and_eq_true, beq_iff_eq] at c1
      refine M.o_grd (gA2 (by omega) (by omega)) (M.o_f ?_ (M.o_pure ⟨rfl, fin _ (by omega) ?_ ?_⟩))
      · rw [Bool.and_eq_false_iff, beq_eq_false_iff_ne, beq_eq_false_iff_ne]
        by_cases e : l.src = (b : Int)
        · exact .inr (fun e2 => hne (by omega))
        · exact .inl e
      · rintro c ⟨l', hl', ⟨e1, e2, rfl⟩ | ⟨e1, e2, rfl⟩⟩
        · obtain rfl : l' = l := by simpa using hl'
          omega
        · obtain rfl : l' = l := by simpa using hl'
          omega
      · by_cases e : m ≤ l.rise + l.err
        · exact .inl (by omega)
        · refine .inr ⟨l, hm, .inl ⟨c1.1, c1.2, by omega⟩⟩
    · have c1 : ¬ (l.src = (a : Int) ∧ l.dst = (b : Int)) := fun h => by rw [h.1, h.2] at c1; simp at c1
      refine M.o_if (fun c2 => ?_) (fun c2 => ?_)
      · simp only [Bool.and_eq_true, beq_iff_eq] at c2
        refine M.o_grd (gA2 (by omega) (by omega)) (M.o_pure ⟨rfl, fin _ (by omega) ?_ ?_⟩)
        · rintro c ⟨l', hl', ⟨e1, e2, rfl⟩ | ⟨e1, e2, rfl⟩⟩
          · obtain rfl : l' = l := by simpa using hl'
            omega
          · obtain rfl : l' = l := by simpa using hl'
            omega
        · by_cases e : m ≤ l.err - l.rise
          · exact .inl (by omega)
          · refine .inr ⟨l, hm, .inr ⟨c2.2, c2.1, by omega⟩⟩
      · have c2 : ¬ (l.src = (b : Int) ∧ l.dst = (a : Int)) := fun h => by rw [h.1, h.2] at c2; simp at c2
        refine M.o_pure ⟨rfl, fin _ (Int.le_refl _) ?_ (.inl rfl)⟩
        rintro c ⟨l', hl', ⟨e1, e2, rfl⟩ | ⟨e1, e2, rfl⟩⟩
        · obtain rfl : l' = l := by simpa using hl'
          exact absurd ⟨e1, e2⟩ c1
        · obtain rfl : l' = l := by simpa using hl'
          exact absurd ⟨e2, e1⟩ c2
  · rintro ⟨m, s⟩ ⟨e, h1, h2, h3⟩
    dsimp only at h1 h2 h3 e
    subst e
    simp only [m_nilometerref01_table_b19]
    refine M.o_f (by simp) (M.o_pure ⟨fun c hc => ?_, h2, h3⟩)
    obtain ⟨l, hl, h⟩ := hc
    obtain ⟨j, hj, rfl⟩ := mem_getD hl default
    exact h1 j hj c ⟨_, List.mem_cons_self .., h⟩
theorem no_self (hN : NetOk n ls) {a : Int} {c : Int} (h : Ed ls a a c) : False := by
  obtain ⟨l, hl, ⟨e1, e2, -⟩ | ⟨e1, e2, -⟩⟩ := h
  · exact hN.ne l hl (by omega)
  · exact hN.ne l hl (by omega)
theorem tab0_out (hN : NetOk N ls) : (M.iter (m_nilometerref01_table_b21 N ls) (0, [])).Out (fun y => Sq N y.2 ∧ Ini N ls (tb y.2)) := by
  have hm := hN.marks
  have row : ∀ a : Nat, a < N → (M.iter (m_nilometerref01_table_b20 N ls a) (0, [])).Out (fun y => y.2.length = N ∧ ∀ b : Nat, b < N → (∀ c, Ed ls a b c → y.2.getD b 0 ≤ c) ∧ (y.2.getD b 0 = 1000000000000 ∨ (a = b ∧ y.2.getD b 0 = 0) ∨ Ed ls a b (y.2.getD b 0)) ∧ (a = b → y.2.getD b 0 = 0)) := by
    intro a ha
    refine M.o_for N (fun i st => st.1 = i ∧ st.2.length = i ∧ ∀ b : Nat, b < i → (∀ c, Ed ls a b c → st.2.getD b 0 ≤ c) ∧ (st.2.getD b 0 = 1000000000000 ∨ (a = b ∧ st.2.getD b 0 = 0) ∨ Ed ls a b (st.2.getD b 0)) ∧ (a = b → st.2.getD b 0 = 0)) ?_ ?_ (s := (0, [])) ⟨rfl, rfl, fun b hb => by omega⟩
    · rintro i ⟨s, l⟩ hi ⟨e, hl, hJ⟩
      dsimp only at hi hl hJ e
      subst e
      simp only [m_nilometerref01_table_b20]
      have put : ∀ x : Int, ((∀ c, Ed ls a s c → x ≤ c) ∧ (x = 1000000000000 ∨ (a = s ∧ x = 0) ∨ Ed ls a s x) ∧ (a = s → x = 0)) → ∀ b : Nat, b < s + 1 → (∀ c, Ed ls a b c → (l ++ [x]).getD b 0 ≤ c) ∧ ((l ++ [x]).getD b 0 = 1000000000000 ∨ (a = b ∧ (l ++ [x]).getD b 0 = 0) ∨ Ed ls a b ((l ++ [x]).getD b 0)) ∧ (a = b → (l ++ [x]).getD b 0 = 0) := by
        intro x hx b hb
        by_cases e : b = s
        · have : (l ++ [x]).getD b 0 = x := by rw [e, ← hl]; simp [List.getD_eq_getElem?_getD]
          rw [this, e]
          exact hx
        · have : (l ++ [x]).getD b 0 = l.getD b 0 := by rw [List.getD_eq_getElem?_getD, List.getElem?_append_left (by omega), ← List.getD_eq_getElem?_getD]
          rw [this]
          exact hJ b (by omega)
      refine M.o_t (decide_eq_true (by omega)) (M.o_if (fun c => ?_) (fun c => ?_))
      · have c : a = s := by have := beq_iff_eq.1 c; omega
        refine M.o_bind (most_out hN a s (by omega) (.inr rfl)) ?_
        rintro x ⟨x1, x2, x3⟩
        refine M.o_grdD (by simp only [List.length_cons, List.length_nil]; omega) (M.o_grd (gA2 (by omega) (by omega)) (M.o_pure ⟨rfl, by simp [hl], put x ⟨x1, ?_, fun _ => ?_⟩⟩))
        · rcases x2 with x2 | x2
          · exact .inr (.inl ⟨c, x2⟩)
          · exact .inr (.inr x2)
        · rcases x2 with x2 | x2
          · exact x2
          · rw [c] at x2; exact (no_self hN x2).elim
      · have c : a ≠ s := by have := beq_eq_false_iff_ne.1 c; omega
        refine M.o_bind (most_out hN a s (by omega) (.inl rfl)) ?_
        rintro x ⟨x1, x2, x3⟩
        refine M.o_grdD (by simp only [List.length_cons, List.length_nil]; omega) (M.o_grd (gA2 (by omega) (by omega)) (M.o_pure ⟨rfl, by simp [hl], put x ⟨x1, ?_, fun e => absurd e c⟩⟩))
        rcases x2 with x2 | x2
        · exact .inl x2
        · exact .inr (.inr x2)
    · rintro ⟨s, l⟩ ⟨e, hl, hJ⟩
      dsimp only at hl hJ e
      subst e
      simp only [m_nilometerref01_table_b20]
      exact M.o_f (decide_eq_false (by omega)) (M.o_pure ⟨hl, hJ⟩)
  refine M.o_mono (P := fun y => y.2.length = N ∧ ∀ a : Nat, a < N → (y.2.getD a []).length = N ∧ ∀ b : Nat, b < N → (∀ c, Ed ls a b c → tb y.2 a b ≤ c) ∧ (tb y.2 a b = 1000000000000 ∨ (a = b ∧ tb y.2 a b = 0) ∨ Ed ls a b (tb y.2 a b)) ∧ (a = b → tb y.2 a b = 0)) ?_ (fun y hy => ⟨⟨hy.1, fun a ha => (hy.2 a ha).1⟩, ⟨fun a b c ha hb hc => ((hy.2 a ha).2 b hb).1 c hc, fun a b ha hb => ((hy.2 a ha).2 b hb).2.1, fun a ha => ((hy.2 a ha).2 a ha).2.2 rfl⟩⟩)
  refine M.o_for N (fun i st => st.1 = i ∧ st.2.length = i ∧ ∀ a : Nat, a < i → (st.2.getD a []).length = N ∧ ∀ b : Nat, b < N → (∀ c, Ed ls a b c → tb st.2 a b ≤ c) ∧ (tb st.2 a b = 1000000000000 ∨ (a = b ∧ tb st.2 a b = 0) ∨ Ed ls a b (tb st.2 a b)) ∧ (a = b → tb st.2 a b = 0)) ?_ ?_ (s := (0, [])) ⟨rfl, rfl, fun b hb => by omega⟩
  · rintro i ⟨s, l⟩ hi ⟨e, hl, hJ⟩
    dsimp only at hi hl hJ e
    subst e
    simp only [m_nilometerref01_table_b21]
    refine M.o_t (decide_eq_true (by omega)) (M.o_bind (row s hi) ?_)
    rintro ⟨l2, l3⟩ ⟨r1, r2⟩
    dsimp only at r1 r2 ⊢
    refine M.o_grdD (by omega) (M.o_grd (gA2 (by omega) (by omega)) (M.o_pure ⟨rfl, by simp [hl], fun a ha => ?_⟩))
    dsimp only
    unfold tb
    by_cases e : a = s
    · have : (l ++ [l3]).getD a [] = l3 := by rw [e, ← hl]; simp [List.getD_eq_getElem?_getD]
      rw [this, e]
      exact ⟨r1, r2⟩
    · have : (l ++ [l3]).getD a [] = l.getD a [] := by rw [List.getD_eq_getElem?_getD, List.getElem?_append_left (by omega), ← List.getD_eq_getElem?_getD]
      rw [this]
      exact hJ a (by omega)
  · rintro ⟨s, l⟩ ⟨e, hl, hJ⟩
    dsimp only at hl hJ e
    subst e
    simp only [m_nilometerref01_table_b21]
    exact M.o_f (decide_eq_false (by omega)) (M.o_pure ⟨hl, hJ⟩)
theorem tab_out (hN : NetOk N ls) : (m_nilometerref01_table N ls).Out (fun y => ∃ T0, Ini N ls T0 ∧ Rd3 N ls T0 N 0 0 y) := by
  have hm := hN.marks
  unfold m_nilometerref01_table
  refine M.o_bind (tab0_out hN) ?_
  rintro ⟨l5, l6⟩ ⟨hs, hi⟩
  dsimp only at hs hi ⊢
  refine M.o_bind (P := fun y => Rd3 N ls (tb l6) N 0 0 y.2) ?_ (fun y hy => M.o_pure ⟨_, hi, hy⟩)
  refine M.o_for N (fun i st => st.2 = i ∧ Rd3 N ls (tb l6) i 0 0 st.1) ?_ ?_ (s := (l6, 0)) ⟨rfl, Rd3.start hN hi hs fun _ _ _ _ => rfl⟩
  · rintro k ⟨l, s⟩ hk ⟨e, hJ⟩
    dsimp only at hk hJ e
    subst e
    simp only [m_nilometerref01_table_b28]
    refine M.o_t (decide_eq_true (by omega)) (M.o_bind (P := fun y => Rd3 N ls (tb l6) s N 0 y.2) ?_ (fun y hy => M.o_grd (gA2 (by omega) (by omega)) (M.o_pure ⟨rfl, hy.rnd (by omega) hk⟩)))
    refine M.o_for N (fun i st => st.2 = i ∧ Rd3 N ls (tb l6) s i 0 st.1) ?_ ?_ (s := (l, 0)) ⟨rfl, hJ⟩
    · rintro a ⟨l, a2⟩ ha ⟨e, hJ⟩
      dsimp only at ha hJ e
      subst e
      simp only [m_nilometerref01_table_b27]
      refine M.o_t (decide_eq_true (by omega)) (M.o_bind (P := fun y => Rd3 N ls (tb l6) s a2 N y.2) ?_ (fun y hy => M.o_grd (gA2 (by omega) (by omega)) (M.o_pure ⟨rfl, hy.row⟩)))
      refine M.o_for N (fun i st => st.2 = i ∧ Rd3 N ls (tb l6) s a2 i st.1) ?_ ?_ (s := (l, 0)) ⟨rfl, hJ⟩
      · rintro b ⟨l, b2⟩ hb ⟨e, hJ⟩
        dsimp only at hb hJ e
        subst e
        have hu := hJ.up (by omega) hk ha hb
        have q0 := hJ.sq.len
        have q1 := hJ.sq.rows a2 ha
        have q2 := hJ.sq.rows s hk
        have b1 := hJ.lo a2 b2 ha hb
        have b3 := hJ.lo a2 s ha hk
        have b4 := hJ.lo s b2 hk hb
        unfold up at hu
        unfold tb at b1 b3 b4
        simp only [m_nilometerref01_table_b26]
        refine M.o_t (decide_eq_true (by omega)) (M.o_grdD (by omega) (M.o_grdD (by omega) (M.o_grd (gOr (by omega)) (M.o_grd (gOr (by omega)) (M.o_if (fun c => ?_) (fun c => ?_))))))
        · rw [Bool.and_eq_true, decide_eq_true_eq, decide_eq_true_eq] at c
          rw [if_pos (show tb l a2 s < 1000000000000 ∧ tb l s b2 < 1000000000000 from c)] at hu
          exact M.o_grdD (by omega) (M.o_grdD (by omega) (M.o_grdD (by omega) (M.o_grd (gA2 (by omega) (by omega)) (M.o_grd (gA2 (by omega) (by omega)) (M.o_pure ⟨rfl, hu⟩)))))
        · rw [if_neg (show ¬ (tb l a2 s < 1000000000000 ∧ tb l s b2 < 1000000000000) from fun h => by
            have : ((decide (((l.getD a2 []).getD s 0) < 1000000000000)) && (decide (((l.getD s []).getD b2 0) < 1000000000000))) = true := by rw [Bool.and_eq_true, decide_eq_true_eq, decide_eq_true_eq]; exact h
            rw [this] at c
            cases c)] at hu
          exact M.o_grd (gA2 (by omega) (by omega)) (M.o_pure ⟨rfl, hu⟩)
      · rintro ⟨l, b2⟩ ⟨e, hJ⟩
        dsimp only at hJ e
        subst e
        simp only [m_nilometerref01_table_b26]
        exact M.o_f (decide_eq_false (by omega)) (M.o_pure hJ)
    · rintro ⟨l, a2⟩ ⟨e, hJ⟩
      dsimp only at hJ e
      subst e
      simp only [m_nilometerref01_table_b27]
      exact M.o_f (decide_eq_false (by omega)) (M.o_pure hJ)
  · rintro ⟨l, s⟩ ⟨e, hJ⟩
    dsimp only at hJ e
    subst e
    simp only [m_nilometerref01_table_b28]
    exact M.o_f (decide_eq_false (by omega)) (M.o_pure hJ)
theorem ref_agrees (hN : NetOk n ls) : (m_nilometerref01_agrees n ls).Out (fun r => r = true ↔ Agr ls) := by
  have hm := hN.marks
  obtain ⟨N, rfl⟩ : ∃ N : Nat, n = N := ⟨n.toNat, by omega⟩
  unfold m_nilometerref01_agrees
  refine M.o_bind (tab_out hN) ?_
  rintro t ⟨T0, hI, hR⟩
  refine M.o_bind (P := fun y => match y with | .inl _ => ∃ x, x < N ∧ tb t x x < 0 | .inr _ => ∀ x, x < N → 0 ≤ tb t x x) ?_ ?_
  · refine M.o_for N (fun i s => s = i ∧ ∀ x, x < i → 0 ≤ tb t x x) ?_ ?_ (s := 0) ⟨rfl, fun x hx => by omega⟩
    · rintro i s hi ⟨rfl, hJ⟩
      have q0 := hR.sq.len
      have q1 := hR.sq.rows s hi
      simp only [m_nilometerref01_agrees_b0]
      refine M.o_t (decide_eq_true (by omega)) (M.o_grdD (by omega) (M.o_grdD (by omega) (M.o_if (fun c => ?_) (fun c => ?_))))
      · exact M.o_pure ⟨s, hi, of_decide_eq_true c⟩
      · refine M.o_pure ⟨rfl, fun x hx => ?_⟩
        by_cases e : x = s
        · subst e
          have := of_decide_eq_false c
          unfold tb
          omega
        · exact hJ x (by omega)
    · rintro s ⟨rfl, hJ⟩
      simp only [m_nilometerref01_agrees_b0]
      exact M.o_f (decide_eq_false (by omega)) (M.o_pure hJ)
  · rintro (u | u) hy
    · dsimp only at hy ⊢
      obtain ⟨x, hx, hn⟩ := hy
      refine M.o_pure ⟨fun h => (by cases h), ?_⟩
      rintro ⟨h, hF⟩
      have := hR.sd h hF x x hx hx (by omega)
      omega
    · dsimp only at hy ⊢
      refine M.o_pure ⟨fun _ => ?_, fun _ => rfl⟩
      rcases hR.go with ⟨x, hx, hn⟩ | ⟨T, hT, hp, hE⟩
      · have := hy x hx; omega
      · refine hT.feas (by omega) hN.rng (fun a b c he => ?_) (fun a b c he => (hN.ed a b c he).2) fun a ha => ?_
        · have hr := he.rng hN.rng
          exact hI.le a b c (by omega) (by omega) he
        · have := hE a a ha ha
          rw [if_neg (by omega)] at this
          rw [← this]
          exact hR.dg a ha
end Go.Proofs.Ytclhljenjphofaa
namespace Go.Nm
structure SOk (c u x : Int) : Prop where
  u0 : 0 ≤ u
  u1 : u ≤ c
  x0 : 0 ≤ x
  x1 : x < 251
theorem SOk.mono {c d u x : Int} (h : SOk c u x) (hd : c ≤ d) : SOk d u x := ⟨h.u0, Int.le_trans h.u1 hd, h.x0, h.x1⟩
/-- What a stream gives: a number below n. -/
structure Nx (c n : Int) (y : Int × Int × Int) : Prop where
  ok : SOk c y.2.1 y.2.2
  lt : 1 ≤ n → 0 ≤ y.1 ∧ y.1 < n
  no : n < 1 → y.1 = 0
end Go.Nm
namespace Go.Proofs.Ytclhljenjphofaa
open Go Go.Nm
end Go.Proofs.Ytclhljenjphofaa
namespace Go.Nm
def hOf (hs : List Int) (v : Int) : Int := hs.getD (Int.toNat v) 0
structure LnOk (n : Int) (hs : List Int) (l : Line) : Prop where
  src : 0 ≤ l.src ∧ l.src < n
  dst : 0 ≤ l.dst ∧ l.dst < n
  ne : l.src ≠ l.dst
  day : 0 ≤ l.day ∧ l.day < 30
  err : 0 ≤ l.err ∧ l.err ≤ 8
  lo : l.rise - l.err ≤ hOf hs l.dst - hOf hs l.src
  hi : hOf hs l.dst - hOf hs l.src ≤ l.rise + l.err
structure HsOk (n : Int) (hs : List Int) : Prop where
  len : (hs.length : Int) = n
  zero : hs.getD 0 0 = 0
  bnd : ∀ v, -300 ≤ hOf hs v ∧ hOf hs v ≤ 300
/-- What a net of numbers is like. -/
structure MadeN (most n : Int) (ls : List Line) (hs : List Int) : Prop where
  two : 2 ≤ n ∧ n ≤ most
  hh : HsOk n hs
  one : 1 ≤ ls.length ∧ ls.length ≤ 14
  ln : ∀ l, l ∈ ls → LnOk n hs l
theorem LnOk.rise {n : Int} {hs : List Int} {l : Line} (h : LnOk n hs l) (hh : HsOk n hs) : -700 ≤ l.rise ∧ l.rise ≤ 700 := by
  have h1 := hh.bnd l.src
  have h2 := hh.bnd l.dst
  have := h.err
  have := h.lo
  have := h.hi
  omega
theorem net_ok {most n : Int} {ls : List Line} {hs : List Int} (hm : 1 ≤ n ∧ n ≤ 12) (hh : HsOk n hs) (hl : ls.length ≤ 30) (h : ∀ l, l ∈ ls → LnOk n hs l) : NetOk n ls :=
  ⟨hm, hl, fun l hl => ⟨(h l hl).src, (h l hl).dst⟩, fun l hl => (h l hl).ne, fun l hl => by have := (h l hl).day; omega, fun l hl => by have := (h l hl).rise hh; omega, fun l hl => by have := (h l hl).err; omega⟩
theorem MadeN.ok {most n : Int} {ls : List Line} {hs : List Int} (h : MadeN most n ls hs) (hm : most ≤ 12) : NetOk n ls := net_ok (most := 0) (by have := h.two; omega) h.hh (by have := h.one; omega) h.ln
end Go.Nm
namespace Go.Proofs.Ytclhljenjphofaa
open Go Go.Nm
theorem copy_net {ls : List Line} (h : ls.length ≤ 1000000) (n : Int) : (m_nilometerlaw01_CopyNet n ls).Ends (n, ls) := by
  unfold m_nilometerlaw01_CopyNet m_nilometerkit_Copy_level_Line
  exact M.i_bind (M.i_grd (decide_eq_true (by simp only [List.length_nil]; omega)) M.i_pure) M.i_pure
end Go.Proofs.Ytclhljenjphofaa
namespace Go.Nm
variable {ls ks : List Line} {a b d : Int}
theorem Tied.edge {u v c : Int} (he : Ed ls u v c) : Tied ls a u ↔ Tied ls a v := ⟨fun t => t.trans (.ed he), fun t => by obtain ⟨c', hr⟩ := he.rev; exact t.trans (.ed hr)⟩
theorem Wk.map {f : Int → Int} (hE : ∀ a b c, Ed ks a b c → Ed ls (f a) (f b) c) {vs : List Int} {c : Int} (w : Wk ks a vs c) : Wk ls (f a) (vs.map f) c := by
  induction w with
  | one => exact .one
  | snoc _ he ih => exact .snoc ih (hE _ _ _ he)
/-! ### Nets that are joined at one mark -/
section
variable {N M there joint : Int} (hN : Rng N ls) (hM : Rng M ks) (hj : 0 ≤ joint ∧ joint < N) (ht : 0 ≤ there ∧ there < M)
include hN hM hj ht
end
end Go.Nm
namespace Go.Nm
variable {ls ms : List Line} {n : Int}
/-- Heights that are returned. -/
structure HtOk (n : Int) (ls : List Line) (l : List Int) : Prop where
  len : (l.length : Int) = n
  feas : Feas ls (hOf l)
  zero : l.getD 0 0 = 0
  bnd : ∀ v, 0 ≤ v → v < n → -100000000 ≤ hOf l v ∧ hOf l v ≤ 100000000
end Go.Nm
namespace Go.Proofs.Ytclhljenjphofaa
open Go Go.Nm
variable {ls ms : List Line} {n : Int}
end Go.Proofs.Ytclhljenjphofaa
namespace Go.Proofs.Ytclhljenjphofaa
open Go Go.Nm
set_option maxRecDepth 100000 in
theorem awake_ends : (m_nilometerlaw01_awake).Ends true := ⟨300, by kernel_rfl⟩
end Go.Proofs.Ytclhljenjphofaa
namespace Go.Nm
variable {ls : List Line} {n : Int}
end Go.Nm
namespace Go.Proofs.Ytclhljenjphofaa
open Go Go.Nm
variable {ls : List Line} {n : Int}
theorem net_ends (n : Int) (h : ls.length ≤ 1000000) : (m_nilometerlaw01_Net n ls).Ends (n, ls) := by
  have out : (m_nilometerlaw01_Net n ls).Out (fun r => r = (n, ls)) := by
    unfold m_nilometerlaw01_Net
    refine M.o_bind (P := fun y => y.2 = ls) ?_ (fun y hy => M.o_pure (by rw [hy]))
    refine M.o_for ls.length (fun i st => st.1 = i ∧ st.2 = ls.take i) ?_ ?_ (s := (0, [])) ⟨rfl, by simp⟩
    · rintro i ⟨s, l⟩ hi ⟨e1, e2⟩
      dsimp only at hi e1 e2
      subst e1
      subst e2
      simp only [m_nilometerlaw01_Net_b0]
      refine M.o_t (by simpa using hi) (M.o_grd (by simpa using hi) (M.o_grdD (by simp [List.length_take]; omega) (M.o_pure ⟨rfl, ?_⟩)))
      dsimp only
      rw [take_succ_D ls s hi default]
    · rintro ⟨s, l⟩ ⟨e1, e2⟩
      dsimp only at e1 e2
      subst e1
      subst e2
      simp only [m_nilometerlaw01_Net_b0]
      exact M.o_f (by simp) (M.o_pure (List.take_length ..))
  obtain ⟨r, h, rfl⟩ := out
  exact h
theorem same_line (ls : List Line) : (m_nilometerkit_Same_level_Line ls ls).Ends true := by
  have out : (m_nilometerkit_Same_level_Line ls ls).Out (fun r => r = true) := by
    unfold m_nilometerkit_Same_level_Line
    refine M.o_f (by simp) (M.o_bind (P := fun y => y = .inr ()) ?_ (fun y hy => by subst hy; exact M.o_pure rfl))
    refine M.o_for ls.length (fun i st => st = i) ?_ ?_ rfl
    · rintro i s hi rfl
      simp only [m_nilometerkit_Same_level_Line_b0]
      exact M.o_t (by simpa using hi) (M.o_grd (by simpa using hi) (M.o_grd (by simpa using hi) (M.o_f (by simp) (M.o_pure rfl))))
    · rintro s rfl
      simp only [m_nilometerkit_Same_level_Line_b0]
      exact M.o_f (by simp) (M.o_pure rfl)
  obtain ⟨r, h, rfl⟩ := out
  exact h
theorem same_net (n : Int) (ls : List Line) : (m_nilometerlaw01_same n ls n ls).Ends true := by
  unfold m_nilometerlaw01_same
  refine M.i_bind (a := true) (M.i_opt (fun _ => same_line ls) (fun h => by simp at h)) ?_
  simp only [beq_self_eq_true, Bool.and_self]
  exact M.i_pure
theorem opened_bad (h : chkE n ls ≠ 0) : (m_level_opened n ls).Ends (.inl (chkE n ls)) := by
  unfold m_level_opened
  exact M.i_bind (check_ends n ls) (M.i_t (by rw [bne_iff_ne]; exact h) M.i_pure)
end Go.Proofs.Ytclhljenjphofaa
