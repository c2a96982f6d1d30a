/- Part 5 of the texts on which the proof rests. Conditions: none. -/
import Derived.Test.YtclhljenjphofaaZW4
set_option linter.unusedVariables false
set_option linter.unusedSimpArgs false
set_option linter.unusedSectionVars false
section
set_option maxRecDepth 100000
set_option maxHeartbeats 16000000
namespace Go.Proofs.Ytclhljenjphofaa
open Go Go.Nm
def m_nilometerkit_Copy_level_Leg (l : List Leg) : M (List Leg) :=
  M.grd (decide ((([] : List Leg).length + l.length) * 16 <= 140737488355328)) <|
  M.pure l
theorem nilometerkit_Copy_level_Leg_ok {R : List Chunk} {C_l : Cells} {v_l : Value} (l : List Leg) (hC_l : Reads R C_l) (hs_l : Sl C_l v_l l) {r : (List Leg)} (hM : (m_nilometerkit_Copy_level_Leg l).Ends r) (w : World) (H : St w w [] R) : Ret Try.prog 43 #[v_l] w fun v w' => ∃ (y0 : List Leg) (u0 : Value), y0 = r /\ v = u0 /\ St w w' [cOwn (α := Leg) 91 u0 y0] R := by
 refine ret_of_W Try.func43 rfl rfl rfl ?_
 refine W.seq ?_
 refine W.region rfl ?_
 refine s_val (x_as (v := .slice none 0 0) rfl) ?_
 refine s_nil ?_
 refine W.seq ?_
 refine W.region rfl ?_
 refine s_val (x_as (v := .slice none 0 0) rfl) ?_
 refine s_nil ?_
 refine W.seq ?_
 refine W.region rfl ?_
 refine s_val (x_mv (v := .slice none 0 0) rfl) ?_
 refine s_val (x_mv (v := v_l) rfl) ?_
 replace H : St w w [cOwn (α := Leg) 91 (.slice none 0 0) ([])] R := H.nilOwn (α := Leg) 91
 obtain ⟨sd1z, hM⟩ := M.e_grd hM
 simp only [Bool.and_eq_true, decide_eq_true_eq] at sd1z
 refine t_app (α := Leg) (k := 0) (l := []) (l2 := l) (l' := l) (vy := v_l) T88 rfl H rfl rfl rfl hs_l (hC_l.at H) (List.nil_append _) (by first | omega | (simp only [List.length_nil] at *; omega)) ?_
 intro v2z w3z H
 replace H : St w w3z [cOwn (α := Leg) 91 v2z l] R := H
 refine s_val (x_as (v := v2z) rfl) ?_
 refine s_nil ?_
 refine W.ret ?_
 have hr_ := M.e_pure hM
 exact ⟨_, resE_tmp rfl, ⟨l, v2z, hr_, rfl, H⟩⟩

def m_nilometerref01_Between (n_Marks : Int) (n_Lines : List Line) (from_ : Int) (to_ : Int) : M (Int × Int × Int) :=
  M.bind (m_nilometerref01_Check n_Marks n_Lines) fun r2 =>
  bif r2 != 0 then (
  M.pure (0, 0, r2))
  else (
  M.grd (decide ((-9223372036854775808 : Int) <= (n_Marks - 1)) && decide ((n_Marks - 1) <= (9223372036854775807 : Int))) <|
  M.bind (m_nilometerref01_outside from_ 0 (n_Marks - 1)) fun r3 =>
  M.bind (M.opt (!r3) (m_nilometerref01_outside to_ 0 (n_Marks - 1)) false) fun r4 =>
  bif (r3 || r4) then (
  M.pure (0, 0, 2))
  else (
  M.bind (m_nilometerref01_agrees n_Marks n_Lines) fun r5 =>
  bif !r5 then (
  M.pure (0, 0, 7))
  else (
  M.bind (m_nilometerref01_table n_Marks n_Lines) fun r6 =>
  M.grd (decide ((0 : Int) <= from_) && decide (from_ < (r6.length : Int))) <|
  M.grd (decide ((0 : Int) <= to_) && decide (to_ < ((r6.getD (Int.toNat from_) ([])).length : Int))) <|
  bif ((r6.getD (Int.toNat from_) ([])).getD (Int.toNat to_) 0) == 1000000000000 then (
  M.pure (0, 0, 5))
  else (
  M.grd (decide ((0 : Int) <= to_) && decide (to_ < (r6.length : Int))) <|
  M.grd (decide ((0 : Int) <= from_) && decide (from_ < ((r6.getD (Int.toNat to_) ([])).length : Int))) <|
  M.grd (decide (-9223372036854775807 <= ((r6.getD (Int.toNat to_) ([])).getD (Int.toNat from_) 0)) && decide (((r6.getD (Int.toNat to_) ([])).getD (Int.toNat from_) 0) <= 9223372036854775807)) <|
  M.pure ((-((r6.getD (Int.toNat to_) ([])).getD (Int.toNat from_) 0)), ((r6.getD (Int.toNat from_) ([])).getD (Int.toNat to_) 0), 0)))))
theorem nilometerref01_Between_ok {R : List Chunk} {C_n_Lines : Cells} {v_n_Lines : Value} (n_Marks : Int) (n_Lines : List Line) (from_ : Int) (to_ : Int) (hC_n_Lines : Reads R C_n_Lines) (hs_n_Lines : Sl C_n_Lines v_n_Lines n_Lines) {r : (Int × Int × Int)} (hM : (m_nilometerref01_Between n_Marks n_Lines from_ to_).Ends r) (w : World) (H : St w w [] R) : Ret Try.prog 44 #[.agg #[I n_Marks, v_n_Lines], I from_, I to_] w fun v w' => ∃ (y0 : Int) (y1 : Int) (y2 : Int), (y0, y1, y2) = r /\ v = .tuple #[.agg #[I y0, I y1], I y2] /\ St w w' [] R := by
 refine ret_of_W Try.func44 rfl rfl rfl ?_
 refine W.seq ?_
 refine W.region rfl ?_
 refine t_box (v := .agg #[I n_Marks, v_n_Lines]) (cs := [I n_Marks, v_n_Lines]) H rfl rfl ?_
 intro b_1 w1z H
 refine t_alloc (cs := [I 0, I 0]) H Al37 rfl ?_
 intro b_2 w2z H
 refine s_val (x_as (v := I 0) rfl) ?_
 refine s_nil ?_
 refine W.seq ?_
 refine W.seq ?_
 refine W.region rfl ?_
 refine s_val (x_ld (p := .pointer (some ⟨b_1, 0, none⟩)) (v := .agg #[I n_Marks, v_n_Lines]) rfl (ldb_ag (ds := [I n_Marks, v_n_Lines]) Ag64 Sz64 (H.blk (k := 1) rfl) rfl rfl)) ?_
 obtain ⟨r4z, hx3z, hM⟩ := M.e_bind hM
 refine s_call cf38 [.agg #[I n_Marks, v_n_Lines]] rfl (nilometerref01_Check_ok n_Marks n_Lines (hC_n_Lines.app _) hs_n_Lines hx3z _ (St.give (T := [cBlk b_2 [I 0, I 0] 37, cBlk b_1 [I n_Marks, v_n_Lines] 64]) H rfl)) ?_
 rintro vq w5z ⟨r2, hr6z, hvq, H2_⟩
 subst hr6z
 subst vq
 try dsimp only at hM
 replace H : St w w5z [cBlk b_2 [I 0, I 0] 37, cBlk b_1 [I n_Marks, v_n_Lines] 64] R := H.back H2_ rfl
 clear H2_
 refine s_val (x_as (v := I r2) rfl) ?_
 refine s_nil ?_
 refine W.seq ?_
 refine W.region rfl ?_
 refine s_val (x_mv (v := I r2) rfl) ?_
 refine s_val (x_cmp (kd := .i64) (a := r2) (b := 0) (r := r2 != 0) rfl rfl rfl) ?_
 refine s_nil ?_
 refine W.cond (r2 != 0) rfl (fun c7z => ?_) (fun c7z => ?_)
 ·replace hM := M.e_t hM c7z
  simp only [decide_eq_true_eq, decide_eq_false_iff_not, beq_iff_eq, bne_iff_ne, beq_eq_false_iff_ne, bne_eq_false_iff_eq, ne_eq, Decidable.not_not] at c7z
  refine W.seq ?_
  refine W.region rfl ?_
  refine s_val (x_bld (ps := []) (zs := [I 0, I 0]) (L' := [I 0, I 0]) rfl Try.underlying37 Al37 rfl (Bd37 Try.underlying37) (.nil)) ?_
  refine s_val (x_mv (v := I r2) rfl) ?_
  refine t_st (k := 0) (b := b_2) (off := 0) (cs := [I 0, I 0]) (vs := [I 0, I 0]) (cs' := [I 0, I 0]) (v := .agg #[I 0, I 0]) (L' := [cBlk b_2 [I 0, I 0] 37, cBlk b_1 [I n_Marks, v_n_Lines] 64]) H rfl rfl rfl Sz37 rfl rfl rfl rfl rfl rfl ?_
  intro w8z H
  refine s_val (x_as (v := I r2) rfl) ?_
  refine s_nil ?_
  refine W.ret ?_
  have hb9z := (H.blk (k := 0) rfl)
  have hr_ := M.e_pure hM
  exact ⟨_, (resE_ofn (vs := [.agg #[I 0, I 0], I r2]) rfl rfl (.cell (v := .agg #[I 0, I 0]) rfl (run_loadVar_ag (ds := [I 0, I 0]) Ag37 Sz37 hb9z rfl rfl) <| .tmp (v := I r2) rfl <| .nil)), ⟨0, 0, r2, hr_, rfl, (H.pick [] (by decide) rfl)⟩⟩
 ·replace hM := M.e_f hM c7z
  simp only [decide_eq_true_eq, decide_eq_false_iff_not, beq_iff_eq, bne_iff_ne, beq_eq_false_iff_ne, bne_eq_false_iff_eq, ne_eq, Decidable.not_not] at c7z
  refine W.skip ?_
  refine W.seq ?_
  refine W.seq ?_
  refine W.region rfl ?_
  refine s_val (x_mv (v := I from_) rfl) ?_
  refine s_val (x_fa (a := .pointer (some ⟨b_1, 0, none⟩)) (v := .pointer (some ⟨b_1, 0, none⟩)) rfl (fa_blk (o := 0) Fd64_0 Sz3)) ?_
  refine s_val (x_ld (p := .pointer (some ⟨b_1, 0, none⟩)) (v := I n_Marks) rfl (ldb_sc Sc3 (H.blk (k := 1) rfl) rfl)) ?_
  obtain ⟨sd10z, hM⟩ := M.e_grd hM
  simp only [Bool.and_eq_true, decide_eq_true_eq] at sd10z
  refine s_val (x_ari (a := n_Marks) (b := 1) (r := n_Marks - 1) rfl rfl rfl (by omega)) ?_
  obtain ⟨r12z, hx11z, hM⟩ := M.e_bind hM
  refine s_call cf69 [I from_, I 0, I (n_Marks - 1)] rfl (nilometerref01_outside_ok from_ 0 (n_Marks - 1) hx11z _ (St.give (T := [cBlk b_2 [I 0, I 0] 37, cBlk b_1 [I n_Marks, v_n_Lines] 64]) H rfl)) ?_
  rintro vq w13z ⟨r3, hr14z, hvq, H2_⟩
  subst hr14z
  subst vq
  try dsimp only at hM
  replace H : St w w13z [cBlk b_2 [I 0, I 0] 37, cBlk b_1 [I n_Marks, v_n_Lines] 64] R := H.back H2_ rfl
  clear H2_
  refine s_val (x_mv (v := B r3) rfl) ?_
  refine g_val (!r3) (gy_f rfl) (fun hg => x_mv (v := I to_) rfl) ?_
  refine g_val (!r3) (gy_f rfl) (fun hg => x_fa (a := .pointer (some ⟨b_1, 0, none⟩)) (v := .pointer (some ⟨b_1, 0, none⟩)) rfl (fa_blk (o := 0) Fd64_0 Sz3)) ?_
  refine g_val (!r3) (gy_f rfl) (fun hg => x_ld (p := .pointer (some ⟨b_1, 0, none⟩)) (v := I n_Marks) (gd_of (c := !r3) hg (.pointer (some ⟨b_1, 0, none⟩))) (ldb_sc Sc3 (H.blk (k := 1) rfl) rfl)) ?_
  refine g_val (!r3) (gy_f rfl) (fun hg => x_ari (a := n_Marks) (b := 1) (r := n_Marks - 1) (gd_of (c := !r3) hg (I n_Marks)) rfl rfl (by first | omega | (have hx_ := hg; simp at hx_; omega))) ?_
  obtain ⟨r4, hx15z, hM⟩ := M.e_bind hM
  refine t_gcall (!r3) (gy_f rfl) cf69 (B r4) (fun _ => [I to_, I 0, I (n_Marks - 1)]) (fun hg => lst3 (gd_of (c := !r3) hg (I to_)) rfl (gd_of (c := !r3) hg (I (n_Marks - 1)))) H (fun hg => (nilometerref01_outside_ok to_ 0 (n_Marks - 1) (M.e_opt hx15z hg) _ (H.give (A := []) rfl)).mono fun v_ w_ ⟨y_, hr_, hv_, H_⟩ => by subst hr_; exact ⟨hv_, H.via H_⟩) ?_
  intro w16z H
  refine s_val (x_por (b := r3) (r := r4) rfl rfl (fun hb => gd_of (c := !r3) (by first | exact hb | (rw [hb]; rfl) | simp_all) (B r4))) ?_
  refine s_nil ?_
  refine W.cond (r3 || r4) rfl (fun c17z => ?_) (fun c17z => ?_)
  ·replace hM := M.e_t hM c17z
   refine W.seq ?_
   refine W.region rfl ?_
   refine s_val (x_bld (ps := []) (zs := [I 0, I 0]) (L' := [I 0, I 0]) rfl Try.underlying37 Al37 rfl (Bd37 Try.underlying37) (.nil)) ?_
   refine t_st (k := 0) (b := b_2) (off := 0) (cs := [I 0, I 0]) (vs := [I 0, I 0]) (cs' := [I 0, I 0]) (v := .agg #[I 0, I 0]) (L' := [cBlk b_2 [I 0, I 0] 37, cBlk b_1 [I n_Marks, v_n_Lines] 64]) H rfl rfl rfl Sz37 rfl rfl rfl rfl rfl rfl ?_
   intro w18z H
   refine s_val (x_as (v := I 2) rfl) ?_
   refine s_nil ?_
   refine W.ret ?_
   have hb19z := (H.blk (k := 0) rfl)
   have hr_ := M.e_pure hM
   exact ⟨_, (resE_ofn (vs := [.agg #[I 0, I 0], I 2]) rfl rfl (.cell (v := .agg #[I 0, I 0]) rfl (run_loadVar_ag (ds := [I 0, I 0]) Ag37 Sz37 hb19z rfl rfl) <| .tmp (v := I 2) rfl <| .nil)), ⟨0, 0, 2, hr_, rfl, (H.pick [] (by decide) rfl)⟩⟩
  ·replace hM := M.e_f hM c17z
   refine W.skip ?_
   refine W.seq ?_
   refine W.seq ?_
   refine W.region rfl ?_
   refine s_val (x_ld (p := .pointer (some ⟨b_1, 0, none⟩)) (v := .agg #[I n_Marks, v_n_Lines]) rfl (ldb_ag (ds := [I n_Marks, v_n_Lines]) Ag64 Sz64 (H.blk (k := 1) rfl) rfl rfl)) ?_
   obtain ⟨r21z, hx20z, hM⟩ := M.e_bind hM
   refine s_call cf72 [.agg #[I n_Marks, v_n_Lines]] rfl (nilometerref01_agrees_ok n_Marks n_Lines (hC_n_Lines.app _) hs_n_Lines hx20z _ (St.give (T := [cBlk b_2 [I 0, I 0] 37, cBlk b_1 [I n_Marks, v_n_Lines] 64]) H rfl)) ?_
   rintro vq w22z ⟨r5, hr23z, hvq, H2_⟩
   subst hr23z
   subst vq
   try dsimp only at hM
   replace H : St w w22z [cBlk b_2 [I 0, I 0] 37, cBlk b_1 [I n_Marks, v_n_Lines] 64] R := H.back H2_ rfl
   clear H2_
   refine s_val (x_not (b := r5) rfl) ?_
   refine s_nil ?_
   refine W.cond (!r5) rfl (fun c24z => ?_) (fun c24z => ?_)
   ·replace hM := M.e_t hM c24z
    refine W.seq ?_
    refine W.region rfl ?_
    refine s_val (x_bld (ps := []) (zs := [I 0, I 0]) (L' := [I 0, I 0]) rfl Try.underlying37 Al37 rfl (Bd37 Try.underlying37) (.nil)) ?_
    refine t_st (k := 0) (b := b_2) (off := 0) (cs := [I 0, I 0]) (vs := [I 0, I 0]) (cs' := [I 0, I 0]) (v := .agg #[I 0, I 0]) (L' := [cBlk b_2 [I 0, I 0] 37, cBlk b_1 [I n_Marks, v_n_Lines] 64]) H rfl rfl rfl Sz37 rfl rfl rfl rfl rfl rfl ?_
    intro w25z H
    refine s_val (x_as (v := I 7) rfl) ?_
    refine s_nil ?_
    refine W.ret ?_
    have hb26z := (H.blk (k := 0) rfl)
    have hr_ := M.e_pure hM
    exact ⟨_, (resE_ofn (vs := [.agg #[I 0, I 0], I 7]) rfl rfl (.cell (v := .agg #[I 0, I 0]) rfl (run_loadVar_ag (ds := [I 0, I 0]) Ag37 Sz37 hb26z rfl rfl) <| .tmp (v := I 7) rfl <| .nil)), ⟨0, 0, 7, hr_, rfl, (H.pick [] (by decide) rfl)⟩⟩
   ·replace hM := M.e_f hM c24z
    refine W.skip ?_
    refine W.seq ?_
    refine W.region rfl ?_
    refine s_val (x_ld (p := .pointer (some ⟨b_1, 0, none⟩)) (v := .agg #[I n_Marks, v_n_Lines]) rfl (ldb_ag (ds := [I n_Marks, v_n_Lines]) Ag64 Sz64 (H.blk (k := 1) rfl) rfl rfl)) ?_
    obtain ⟨r28z, hx27z, hM⟩ := M.e_bind hM
    refine s_call cf80 [.agg #[I n_Marks, v_n_Lines]] rfl (nilometerref01_table_ok n_Marks n_Lines (hC_n_Lines.app _) hs_n_Lines hx27z _ (St.give (T := [cBlk b_2 [I 0, I 0] 37, cBlk b_1 [I n_Marks, v_n_Lines] 64]) H rfl)) ?_
    rintro vq w29z ⟨r6, u0_3, Bs1_4, hr30z, hvq, H2_, hf31z⟩
    subst hr30z
    subst vq
    try dsimp only at hM
    replace H : St w w29z [cRo Bs1_4, cBlk b_2 [I 0, I 0] 37, cBlk b_1 [I n_Marks, v_n_Lines] 64] R := H.back H2_ rfl
    clear H2_
    refine s_val (x_as (v := u0_3) rfl) ?_
    refine s_nil ?_
    refine W.seq ?_
    refine W.seq ?_
    refine W.region rfl ?_
    refine s_val (x_mv (v := u0_3) rfl) ?_
    refine s_val (x_mv (v := I from_) rfl) ?_
    obtain ⟨sd32z, hM⟩ := M.e_grd hM
    simp only [Bool.and_eq_true, decide_eq_true_eq] at sd32z
    refine s_val (x_ix (a := u0_3) (b := I from_) (v := vat u0_3 1 (Int.toNat from_)) rfl rfl (Sl.ix (α := List Int) T142.und T142.size hf31z (by omega) (by omega))) ?_
    obtain ⟨u33z, ha_u33z, hs34z⟩ := List_at hf31z (i := from_) (by omega) (by omega)
    replace hs34z : Sl _ u33z (r6.getD (Int.toNat from_) ([])) := hs34z
    have hl_hs34z := hs34z.len_le
    refine s_val (x_ld (p := vat u0_3 1 (Int.toNat from_)) (v := u33z) rfl (ld_sc Sc26 (At.mono (ha_u33z) (roLe _ (H.get (k := 0) rfl))))) ?_
    refine s_val (x_mv (v := I to_) rfl) ?_
    obtain ⟨sd35z, hM⟩ := M.e_grd hM
    simp only [Bool.and_eq_true, decide_eq_true_eq] at sd35z
    refine s_val (x_ix (a := u33z) (b := I to_) (v := vat u33z 1 (Int.toNat to_)) rfl rfl (Sl.ix (α := Int) T26.und T26.size hs34z (by omega) (by omega))) ?_
    refine s_val (x_ld (p := vat u33z 1 (Int.toNat to_)) (v := I ((r6.getD (Int.toNat from_) ([])).getD (Int.toNat to_) 0)) rfl (ld_sc Sc3 (At.mono (Int_at hs34z (i := to_) (by omega) (by omega)) (roLe _ (H.get (k := 0) rfl))))) ?_
    refine s_val (x_cmp (kd := .i64) (a := (r6.getD (Int.toNat from_) ([])).getD (Int.toNat to_) 0) (b := 1000000000000) (r := ((r6.getD (Int.toNat from_) ([])).getD (Int.toNat to_) 0) == 1000000000000) rfl rfl rfl) ?_
    refine s_nil ?_
    refine W.cond (((r6.getD (Int.toNat from_) ([])).getD (Int.toNat to_) 0) == 1000000000000) rfl (fun c36z => ?_) (fun c36z => ?_)
    ·replace hM := M.e_t hM c36z
     simp only [decide_eq_true_eq, decide_eq_false_iff_not, beq_iff_eq, bne_iff_ne, beq_eq_false_iff_ne, bne_eq_false_iff_eq, ne_eq, Decidable.not_not] at c36z
     refine W.seq ?_
     refine W.region rfl ?_
     refine s_val (x_bld (ps := []) (zs := [I 0, I 0]) (L' := [I 0, I 0]) rfl Try.underlying37 Al37 rfl (Bd37 Try.underlying37) (.nil)) ?_
     refine t_st (k := 1) (b := b_2) (off := 0) (cs := [I 0, I 0]) (vs := [I 0, I 0]) (cs' := [I 0, I 0]) (v := .agg #[I 0, I 0]) (L' := [cRo Bs1_4, cBlk b_2 [I 0, I 0] 37, cBlk b_1 [I n_Marks, v_n_Lines] 64]) H rfl rfl rfl Sz37 rfl rfl rfl rfl rfl rfl ?_
     intro w37z H
     refine s_val (x_as (v := I 5) rfl) ?_
     refine s_nil ?_
     refine W.ret ?_
     have hb38z := (H.blk (k := 1) rfl)
     have hr_ := M.e_pure hM
     exact ⟨_, (resE_ofn (vs := [.agg #[I 0, I 0], I 5]) rfl rfl (.cell (v := .agg #[I 0, I 0]) rfl (run_loadVar_ag (ds := [I 0, I 0]) Ag37 Sz37 hb38z rfl rfl) <| .tmp (v := I 5) rfl <| .nil)), ⟨0, 0, 5, hr_, rfl, (H.pick [] (by decide) rfl)⟩⟩
    ·replace hM := M.e_f hM c36z
     simp only [decide_eq_true_eq, decide_eq_false_iff_not, beq_iff_eq, bne_iff_ne, beq_eq_false_iff_ne, bne_eq_false_iff_eq, ne_eq, Decidable.not_not] at c36z
     refine W.skip ?_
     refine W.seq ?_
     refine W.draw (fun W => St w W [cRo Bs1_4, cBlk b_1 [I n_Marks, v_n_Lines] 64] R) [(0, true), (1, true), (2, true), (3, true), (4, true), (5, true), (6, true), (7, true), (8, true), (9, true), (10, true), (11, true), (12, true), (13, true), (14, true), (15, true), (16, false), (17, true)] mixed (by decide +kernel) rfl ?_
     intro w39z hx_
     replace H : St w w39z [cRo Bs1_4, cBlk b_2 [I 0, I 0] 37, cBlk b_1 [I n_Marks, v_n_Lines] 64] R := H.ext hx_
     clear hx_
     refine ⟨(H.pick [0, 2] (by decide) rfl), ?_⟩
     refine d_q rfl (fun w' H => x_mv (v := u0_3) rfl) ?_
     refine d_q rfl (fun w' H => x_mv (v := I to_) rfl) ?_
     obtain ⟨sd40z, hM⟩ := M.e_grd hM
     simp only [Bool.and_eq_true, decide_eq_true_eq] at sd40z
     refine d_q rfl (fun w' H => x_ix (a := u0_3) (b := I to_) (v := vat u0_3 1 (Int.toNat to_)) rfl rfl (Sl.ix (α := List Int) T142.und T142.size hf31z (by omega) (by omega))) ?_
     obtain ⟨u41z, ha_u41z, hs42z⟩ := List_at hf31z (i := to_) (by omega) (by omega)
     replace hs42z : Sl _ u41z (r6.getD (Int.toNat to_) ([])) := hs42z
     have hl_hs42z := hs42z.len_le
     refine d_q rfl (fun w' H => x_ld (p := vat u0_3 1 (Int.toNat to_)) (v := u41z) rfl (ld_sc Sc26 (At.mono (ha_u41z) (roLe _ (H.get (k := 0) rfl))))) ?_
     refine d_q rfl (fun w' H => x_mv (v := I from_) rfl) ?_
     obtain ⟨sd43z, hM⟩ := M.e_grd hM
     simp only [Bool.and_eq_true, decide_eq_true_eq] at sd43z
     refine d_q rfl (fun w' H => x_ix (a := u41z) (b := I from_) (v := vat u41z 1 (Int.toNat from_)) rfl rfl (Sl.ix (α := Int) T26.und T26.size hs42z (by omega) (by omega))) ?_
     refine d_q rfl (fun w' H => x_ld (p := vat u41z 1 (Int.toNat from_)) (v := I ((r6.getD (Int.toNat to_) ([])).getD (Int.toNat from_) 0)) rfl (ld_sc Sc3 (At.mono (Int_at hs42z (i := from_) (by omega) (by omega)) (roLe _ (H.get (k := 0) rfl))))) ?_
     obtain ⟨sd44z, hM⟩ := M.e_grd hM
     simp only [Bool.and_eq_true, decide_eq_true_eq] at sd44z
     refine d_q rfl (fun w' H => x_neg (a := (r6.getD (Int.toNat to_) ([])).getD (Int.toNat from_) 0) rfl (by omega)) ?_
     refine d_q rfl (fun w' H => x_mv (v := u0_3) rfl) ?_
     refine d_q rfl (fun w' H => x_mv (v := I from_) rfl) ?_
     refine d_q rfl (fun w' H => x_ix (a := u0_3) (b := I from_) (v := vat u0_3 1 (Int.toNat from_)) rfl rfl (Sl.ix (α := List Int) T142.und T142.size hf31z (by omega) (by omega))) ?_
     obtain ⟨u45z, ha_u45z, hs46z⟩ := List_at hf31z (i := from_) (by omega) (by omega)
     replace hs46z : Sl _ u45z (r6.getD (Int.toNat from_) ([])) := hs46z
     have hl_hs46z := hs46z.len_le
     refine d_q rfl (fun w' H => x_ld (p := vat u0_3 1 (Int.toNat from_)) (v := u45z) rfl (ld_sc Sc26 (At.mono (ha_u45z) (roLe _ (H.get (k := 0) rfl))))) ?_
     refine d_q rfl (fun w' H => x_mv (v := I to_) rfl) ?_
     refine d_q rfl (fun w' H => x_ix (a := u45z) (b := I to_) (v := vat u45z 1 (Int.toNat to_)) rfl rfl (Sl.ix (α := Int) T26.und T26.size hs46z (by omega) (by omega))) ?_
     refine d_q rfl (fun w' H => x_ld (p := vat u45z 1 (Int.toNat to_)) (v := I ((r6.getD (Int.toNat from_) ([])).getD (Int.toNat to_) 0)) rfl (ld_sc Sc3 (At.mono (Int_at hs46z (i := to_) (by omega) (by omega)) (roLe _ (H.get (k := 0) rfl))))) ?_
     refine d_q rfl (fun w' H => x_bld (ps := [(0, I (-((r6.getD (Int.toNat to_) ([])).getD (Int.toNat from_) 0))), (1, I ((r6.getD (Int.toNat from_) ([])).getD (Int.toNat to_) 0))]) (zs := [I 0, I 0]) (L' := [I (-((r6.getD (Int.toNat to_) ([])).getD (Int.toNat from_) 0)), I ((r6.getD (Int.toNat from_) ([])).getD (Int.toNat to_) 0)]) rfl Try.underlying37 Al37 rfl (Bd37 Try.underlying37) (.cons (cs := [I (-((r6.getD (Int.toNat to_) ([])).getD (Int.toNat from_) 0))]) rfl rfl rfl rfl rfl <| .cons (cs := [I ((r6.getD (Int.toNat from_) ([])).getD (Int.toNat to_) 0)]) rfl rfl rfl rfl rfl <| .nil)) ?_
     refine d_l rfl ?_
     refine t_st (k := 1) (b := b_2) (off := 0) (cs := [I 0, I 0]) (vs := [I (-((r6.getD (Int.toNat to_) ([])).getD (Int.toNat from_) 0)), I ((r6.getD (Int.toNat from_) ([])).getD (Int.toNat to_) 0)]) (cs' := [I (-((r6.getD (Int.toNat to_) ([])).getD (Int.toNat from_) 0)), I ((r6.getD (Int.toNat from_) ([])).getD (Int.toNat to_) 0)]) (v := .agg #[I (-((r6.getD (Int.toNat to_) ([])).getD (Int.toNat from_) 0)), I ((r6.getD (Int.toNat from_) ([])).getD (Int.toNat to_) 0)]) (L' := [cRo Bs1_4, cBlk b_2 [I (-((r6.getD (Int.toNat to_) ([])).getD (Int.toNat from_) 0)), I ((r6.getD (Int.toNat from_) ([])).getD (Int.toNat to_) 0)] 37, cBlk b_1 [I n_Marks, v_n_Lines] 64]) H rfl rfl rfl Sz37 rfl rfl rfl rfl rfl rfl ?_
     intro w47z H
     refine s_nil ⟨(H.pick [0, 2] (by decide) rfl), ?_⟩
     refine d_q rfl (fun w' H => x_as (v := I 0) rfl) ?_
     refine d_nil ?_
     refine W.ret ?_
     have hb48z := (H.blk (k := 1) rfl)
     have hr_ := M.e_pure hM
     exact ⟨_, (resE_ofn (vs := [.agg #[I (-((r6.getD (Int.toNat to_) ([])).getD (Int.toNat from_) 0)), I ((r6.getD (Int.toNat from_) ([])).getD (Int.toNat to_) 0)], I 0]) rfl rfl (.cell (v := .agg #[I (-((r6.getD (Int.toNat to_) ([])).getD (Int.toNat from_) 0)), I ((r6.getD (Int.toNat from_) ([])).getD (Int.toNat to_) 0)]) rfl (run_loadVar_ag (ds := [I (-((r6.getD (Int.toNat to_) ([])).getD (Int.toNat from_) 0)), I ((r6.getD (Int.toNat from_) ([])).getD (Int.toNat to_) 0)]) Ag37 Sz37 hb48z rfl rfl) <| .tmp (v := I 0) rfl <| .nil)), ⟨(-((r6.getD (Int.toNat to_) ([])).getD (Int.toNat from_) 0)), ((r6.getD (Int.toNat from_) ([])).getD (Int.toNat to_) 0), 0, hr_, rfl, (H.pick [] (by decide) rfl)⟩⟩

def m_nilometerlaw01_walk_b0 (l : List Leg) : (Nat × (List Leg)) -> M ((Nat × (List Leg)) ⊕ ((List Leg) × (List Leg))) := fun (s, l2) =>
  bif decide ((s : Int) < (l.length : Int)) then (
  M.grd (decide ((s : Int) < (l.length : Int))) <|
  M.grd (decide ((l2.length + ([(l.getD s default)]).length) * 16 <= 140737488355328)) <|
  M.pure (.inl (s + 1, l2 ++ ([(l.getD s default)]))))
  else (
  M.pure (.inr (l2, l2)))
def m_nilometerlaw01_walk (l : List Leg) : M (List Leg) :=
  M.bind (M.iter (m_nilometerlaw01_walk_b0 l) (0, [])) fun (l3, l4) =>
  M.pure l4
theorem nilometerlaw01_walk_ok {R : List Chunk} {C_l : Cells} {v_l : Value} (l : List Leg) (hC_l : Reads R C_l) (hs_l : Sl C_l v_l l) {r : (List Leg)} (hM : (m_nilometerlaw01_walk l).Ends r) (w : World) (H : St w w [] R) : Ret Try.prog 47 #[v_l] w fun v w' => ∃ (y0 : List Leg) (u0 : Value), y0 = r /\ v = u0 /\ St w w' [cOwn (α := Leg) 145 u0 y0] R := by
 refine ret_of_W Try.func47 rfl rfl rfl ?_
 refine W.seq ?_
 refine W.region rfl ?_
 refine s_val (x_as (v := .slice none 0 0) rfl) ?_
 refine s_nil ?_
 refine W.seq ?_
 refine W.region rfl ?_
 refine s_val (x_as (v := .slice none 0 0) rfl) ?_
 refine s_nil ?_
 refine W.seq ?_
 refine W.seq ?_
 refine W.region rfl ?_
 refine s_val (x_mv (v := v_l) rfl) ?_
 have hl1z := (hs_l).len_le
 refine s_val (x_lenS T88.und rfl hs_l) ?_
 refine s_val (x_mv (v := I 0) rfl) ?_
 refine s_nil ?_
 refine W.block ?_
 replace H : St w w [cOwn (α := Leg) 145 (.slice none 0 0) ([])] R := H.nilOwn (α := Leg) 145
 obtain ⟨ex2z, hi3z, hk4z⟩ := M.e_bind hM
 obtain ⟨m0_, hi3z⟩ := M.e_iter hi3z
 refine W.loop (fun m σ W => ∃ (s : Nat) (l2 : List Leg) (v_l2 : Value) (ρ : Env), σ = upds ρ [(3, v_l2), (6, v_l), (7, I (l.length : Int)), (8, I (s : Int))] /\ M.iterN (m_nilometerlaw01_walk_b0 l) m (s, l2) = some ex2z /\ St w W [cOwn (α := Leg) 145 v_l2 l2] R) ?_ ?_
 ·exact ⟨_, 0, [], (.slice none 0 0), _, upds_of _ _ ⟨rfl, rfl, rfl, rfl, trivial⟩, hi3z, H⟩
 ·rintro m7z σ w5z ⟨s, l2, v_l2, ρ, rfl, hI6z, H⟩
  obtain ⟨m8z, lt9z, x10z, hM, hN11z⟩ := M.e_iterN hI6z
  simp only [m_nilometerlaw01_walk_b0] at hM
  clear hI6z
  refine W.seq ?_
  refine W.region rfl ?_
  refine s_val (x_cmp (kd := .i64) (a := (s : Int)) (b := (l.length : Int)) (r := decide ((s : Int) < (l.length : Int))) rfl rfl rfl) ?_
  refine s_nil ?_
  refine W.seq ?_
  refine W.cond (decide ((s : Int) < (l.length : Int))) rfl (fun c12z => ?_) (fun c12z => ?_)
  ·replace hM := M.e_t hM c12z
   simp only [decide_eq_true_eq, decide_eq_false_iff_not, beq_iff_eq, bne_iff_ne, beq_eq_false_iff_ne, bne_eq_false_iff_eq, ne_eq, Decidable.not_not] at c12z
   refine W.skip ?_
   refine W.seq ?_
   refine W.block ?_
   refine W.seq ?_
   refine W.region rfl ?_
   obtain ⟨sd13z, hM⟩ := M.e_grd hM
   simp only [Bool.and_eq_true, decide_eq_true_eq] at sd13z
   refine s_val (x_ix (a := v_l) (b := I (s : Int)) (v := vat v_l 2 (Int.toNat (s : Int))) rfl rfl (Sl.ix (α := Leg) T88.und T88.size hs_l (by omega) (by omega))) ?_
   refine s_val (x_ld (p := vat v_l 2 (Int.toNat (s : Int))) (v := .agg #[I ((l.getD s default).line), B ((l.getD s default).back)]) rfl (ld_ag Ag91 Sz91 (At.mono (Leg_atA hs_l (i := (s : Int)) (by omega) (by omega)) (hC_l.at H)))) ?_
   refine t_alloc (cs := [I 0, B false]) H Al91 rfl ?_
   intro b_1 w14z H
   refine t_st (k := 0) (b := b_1) (off := 0) (cs := [I 0, B false]) (vs := [I ((l.getD s default).line), B ((l.getD s default).back)]) (cs' := [I ((l.getD s default).line), B ((l.getD s default).back)]) (v := .agg #[I ((l.getD s default).line), B ((l.getD s default).back)]) (L' := [cBlk b_1 [I ((l.getD s default).line), B ((l.getD s default).back)] 91, cOwn (α := Leg) 145 v_l2 l2]) H rfl rfl rfl Sz91 rfl rfl rfl rfl rfl rfl ?_
   intro w15z H
   refine s_nil ?_
   refine W.region rfl ?_
   refine s_val (x_mv (v := v_l2) rfl) ?_
   refine s_val (x_ld (p := .pointer (some ⟨b_1, 0, none⟩)) (v := .agg #[I ((l.getD s default).line), B ((l.getD s default).back)]) rfl (ldb_ag (ds := [I ((l.getD s default).line), B ((l.getD s default).back)]) Ag91 Sz91 (H.blk (k := 0) rfl) rfl rfl)) ?_
   refine t_bs (α := Leg) T96 [.agg #[I ((l.getD s default).line), B ((l.getD s default).back)]] [(l.getD s default)] H rfl (.cons rfl (Flat.rep_enc _ (l.getD s default)) <| .nil) rfl rfl rfl ?_
   intro v16z w17z H
   obtain ⟨sd18z, hM⟩ := M.e_grd hM
   simp only [Bool.and_eq_true, decide_eq_true_eq] at sd18z
   refine t_app (α := Leg) (k := 2) (l := l2) (l2 := [(l.getD s default)]) (l' := l2 ++ ([(l.getD s default)])) (vy := v16z) T96 rfl H rfl rfl rfl (ownSl (H.get (k := 0) rfl)) (ownLe _ (H.get (k := 0) rfl)) (rfl) (by first | omega | (simp only [List.length_nil] at *; omega)) ?_
   intro v19z w20z H
   replace H : St w w20z [cOwn (α := Leg) 145 v16z ([(l.getD s default)]), cBlk b_1 [I ((l.getD s default).line), B ((l.getD s default).back)] 91, cOwn (α := Leg) 145 v19z (l2 ++ ([(l.getD s default)]))] R := H
   refine s_val (x_as (v := v19z) rfl) ?_
   refine s_nil ?_
   refine W.region rfl ?_
   refine s_val (x_ari (a := (s : Int)) (b := 1) (r := (s : Int) + 1) rfl rfl rfl (by omega)) ?_
   refine s_val (x_mv (v := I ((s : Int) + 1)) rfl) ?_
   refine s_nil ?_
   exact ⟨m8z, lt9z, s + 1, l2 ++ ([(l.getD s default)]), v19z, _, upds_of _ _ ⟨rfl, rfl, rfl, rfl, trivial⟩, M.e_inl hM hN11z, (H.pick [2] (by decide) rfl)⟩
  ·replace hM := M.e_f hM c12z
   simp only [decide_eq_true_eq, decide_eq_false_iff_not, beq_iff_eq, bne_iff_ne, beq_eq_false_iff_ne, bne_eq_false_iff_eq, ne_eq, Decidable.not_not] at c12z
   refine W.exit ?_
   have hX21z := M.e_inr hM hN11z
   subst hX21z
   replace hM := hk4z
   try dsimp only at hM
   refine W.seq ?_
   refine W.region rfl ?_
   refine s_val (x_mv (v := v_l2) rfl) ?_
   refine s_val (x_as (v := v_l2) rfl) ?_
   refine s_nil ?_
   refine W.ret ?_
   have hr_ := M.e_pure hM
   exact ⟨_, resE_tmp rfl, ⟨l2, v_l2, hr_, rfl, H⟩⟩

def m_nilometerref01_Rises_b0 (n_Lines : List Line) (walk : List Leg) : Nat -> M (Nat ⊕ (Unit ⊕ Unit)) := fun i =>
  bif decide ((i : Int) < (walk.length : Int)) then (
  M.grd (decide ((i : Int) < (walk.length : Int))) <|
  M.bind (m_nilometerref01_outside ((walk.getD i default).line) 0 ((n_Lines.length : Int) - 1)) fun r3 =>
  bif r3 then (
  M.pure (.inr (.inl ())))
  else (
  M.pure (.inl (i + 1))))
  else (
  M.pure (.inr (.inr ())))
def m_nilometerref01_Rises_b1 (n_Lines : List Line) (walk : List Leg) : (Int × Int × Int × Nat) -> M ((Int × Int × Int × Nat) ⊕ (Unit ⊕ (Int × Int × Int))) := fun (first, last, sum, i2) =>
  bif decide ((i2 : Int) < (walk.length : Int)) then (
  M.grd (decide ((i2 : Int) < (walk.length : Int))) <|
  M.grd (decide ((0 : Int) <= ((walk.getD i2 default).line)) && decide (((walk.getD i2 default).line) < (n_Lines.length : Int))) <|
  bif (walk.getD i2 default).back then (
  M.grd (decide (-9223372036854775807 <= ((n_Lines.getD (Int.toNat ((walk.getD i2 default).line)) default).rise)) && decide (((n_Lines.getD (Int.toNat ((walk.getD i2 default).line)) default).rise) <= 9223372036854775807)) <|
  bif (i2 : Int) == 0 then (
  M.grd (decide ((-9223372036854775808 : Int) <= (sum + (-((n_Lines.getD (Int.toNat ((walk.getD i2 default).line)) default).rise)))) && decide ((sum + (-((n_Lines.getD (Int.toNat ((walk.getD i2 default).line)) default).rise))) <= (9223372036854775807 : Int))) <|
  M.grd (decide ((-9223372036854775808 : Int) <= ((sum + (-((n_Lines.getD (Int.toNat ((walk.getD i2 default).line)) default).rise))) + ((n_Lines.getD (Int.toNat ((walk.getD i2 default).line)) default).err))) && decide (((sum + (-((n_Lines.getD (Int.toNat ((walk.getD i2 default).line)) default).rise))) + ((n_Lines.getD (Int.toNat ((walk.getD i2 default).line)) default).err)) <= (9223372036854775807 : Int))) <|
  M.pure (.inl ((n_Lines.getD (Int.toNat ((walk.getD i2 default).line)) default).dst, (n_Lines.getD (Int.toNat ((walk.getD i2 default).line)) default).src, (sum + (-((n_Lines.getD (Int.toNat ((walk.getD i2 default).line)) default).rise))) + ((n_Lines.getD (Int.toNat ((walk.getD i2 default).line)) default).err), i2 + 1)))
  else (
  bif ((n_Lines.getD (Int.toNat ((walk.getD i2 default).line)) default).dst) != last then (
  M.pure (.inr (.inl ())))
  else (
  M.grd (decide ((-9223372036854775808 : Int) <= (sum + (-((n_Lines.getD (Int.toNat ((walk.getD i2 default).line)) default).rise)))) && decide ((sum + (-((n_Lines.getD (Int.toNat ((walk.getD i2 default).line)) default).rise))) <= (9223372036854775807 : Int))) <|
  M.grd (decide ((-9223372036854775808 : Int) <= ((sum + (-((n_Lines.getD (Int.toNat ((walk.getD i2 default).line)) default).rise))) + ((n_Lines.getD (Int.toNat ((walk.getD i2 default).line)) default).err))) && decide (((sum + (-((n_Lines.getD (Int.toNat ((walk.getD i2 default).line)) default).rise))) + ((n_Lines.getD (Int.toNat ((walk.getD i2 default).line)) default).err)) <= (9223372036854775807 : Int))) <|
  M.pure (.inl (first, (n_Lines.getD (Int.toNat ((walk.getD i2 default).line)) default).src, (sum + (-((n_Lines.getD (Int.toNat ((walk.getD i2 default).line)) default).rise))) + ((n_Lines.getD (Int.toNat ((walk.getD i2 default).line)) default).err), i2 + 1)))))
  else (
  bif (i2 : Int) == 0 then (
  M.grd (decide ((-9223372036854775808 : Int) <= (sum + ((n_Lines.getD (Int.toNat ((walk.getD i2 default).line)) default).rise))) && decide ((sum + ((n_Lines.getD (Int.toNat ((walk.getD i2 default).line)) default).rise)) <= (9223372036854775807 : Int))) <|
  M.grd (decide ((-9223372036854775808 : Int) <= ((sum + ((n_Lines.getD (Int.toNat ((walk.getD i2 default).line)) default).rise)) + ((n_Lines.getD (Int.toNat ((walk.getD i2 default).line)) default).err))) && decide (((sum + ((n_Lines.getD (Int.toNat ((walk.getD i2 default).line)) default).rise)) + ((n_Lines.getD (Int.toNat ((walk.getD i2 default).line)) default).err)) <= (9223372036854775807 : Int))) <|
  M.pure (.inl ((n_Lines.getD (Int.toNat ((walk.getD i2 default).line)) default).src, (n_Lines.getD (Int.toNat ((walk.getD i2 default).line)) default).dst, (sum + ((n_Lines.getD (Int.toNat ((walk.getD i2 default).line)) default).rise)) + ((n_Lines.getD (Int.toNat ((walk.getD i2 default).line)) default).err), i2 + 1)))
  else (
  bif ((n_Lines.getD (Int.toNat ((walk.getD i2 default).line)) default).src) != last then (
  M.pure (.inr (.inl ())))
  else (
  M.grd (decide ((-9223372036854775808 : Int) <= (sum + ((n_Lines.getD (Int.toNat ((walk.getD i2 default).line)) default).rise))) && decide ((sum + ((n_Lines.getD (Int.toNat ((walk.getD i2 default).line)) default).rise)) <= (9223372036854775807 : Int))) <|
  M.grd (decide ((-9223372036854775808 : Int) <= ((sum + ((n_Lines.getD (Int.toNat ((walk.getD i2 default).line)) default).rise)) + ((n_Lines.getD (Int.toNat ((walk.getD i2 default).line)) default).err))) && decide (((sum + ((n_Lines.getD (Int.toNat ((walk.getD i2 default).line)) default).rise)) + ((n_Lines.getD (Int.toNat ((walk.getD i2 default).line)) default).err)) <= (9223372036854775807 : Int))) <|
  M.pure (.inl (first, (n_Lines.getD (Int.toNat ((walk.getD i2 default).line)) default).dst, (sum + ((n_Lines.getD (Int.toNat ((walk.getD i2 default).line)) default).rise)) + ((n_Lines.getD (Int.toNat ((walk.getD i2 default).line)) default).err), i2 + 1))))))
  else (
  M.pure (.inr (.inr (first, last, sum))))
def m_nilometerref01_Rises (n_Marks : Int) (n_Lines : List Line) (walk : List Leg) : M (Int × Int × Int × Int) :=
  M.bind (m_nilometerref01_Check n_Marks n_Lines) fun r2 =>
  bif r2 != 0 then (
  M.pure (0, 0, 0, r2))
  else (
  bif ((decide ((walk.length : Int) < 1)) || (decide (60 < (walk.length : Int)))) then (
  M.pure (0, 0, 0, 3))
  else (
  M.bind (M.iter (m_nilometerref01_Rises_b0 n_Lines walk) 0) fun x_ => match x_ with
  | (.inl (_ : Unit)) => (
  M.pure (0, 0, 0, 2))
  | (.inr (_ : Unit)) => (
  M.bind (M.iter (m_nilometerref01_Rises_b1 n_Lines walk) (0, 0, 0, 0)) fun x_ => match x_ with
  | (.inl (_ : Unit)) => (
  M.pure (0, 0, 0, 9))
  | (.inr (first2, last2, sum2)) => (
  M.pure (first2, last2, sum2, 0)))))
theorem nilometerref01_Rises_ok {R : List Chunk} {C_n_Lines : Cells} {v_n_Lines : Value} {C_walk : Cells} {v_walk : Value} (n_Marks : Int) (n_Lines : List Line) (walk : List Leg) (hC_n_Lines : Reads R C_n_Lines) (hs_n_Lines : Sl C_n_Lines v_n_Lines n_Lines) (hC_walk : Reads R C_walk) (hs_walk : Sl C_walk v_walk walk) {r : (Int × Int × Int × Int)} (hM : (m_nilometerref01_Rises n_Marks n_Lines walk).Ends r) (w : World) (H : St w w [] R) : Ret Try.prog 46 #[.agg #[I n_Marks, v_n_Lines], v_walk] w fun v w' => ∃ (y0 : Int) (y1 : Int) (y2 : Int) (y3 : Int), (y0, y1, y2, y3) = r /\ v = .tuple #[I y0, I y1, I y2, I y3] /\ St w w' [] R := by
 refine ret_of_W Try.func46 rfl rfl rfl ?_
 refine W.seq ?_
 refine W.region rfl ?_
 refine t_box (v := .agg #[I n_Marks, v_n_Lines]) (cs := [I n_Marks, v_n_Lines]) H rfl rfl ?_
 intro b_1 w1z H
 refine s_val (x_as (v := I 0) rfl) ?_
 refine s_val (x_as (v := I 0) rfl) ?_
 refine s_val (x_as (v := I 0) rfl) ?_
 refine s_val (x_as (v := I 0) rfl) ?_
 refine s_nil ?_
 refine W.seq ?_
 refine W.seq ?_
 refine W.region rfl ?_
 refine s_val (x_ld (p := .pointer (some ⟨b_1, 0, none⟩)) (v := .agg #[I n_Marks, v_n_Lines]) rfl (ldb_ag (ds := [I n_Marks, v_n_Lines]) Ag64 Sz64 (H.blk (k := 0) rfl) rfl rfl)) ?_
 obtain ⟨r3z, hx2z, hM⟩ := M.e_bind hM
 refine s_call cf38 [.agg #[I n_Marks, v_n_Lines]] rfl (nilometerref01_Check_ok n_Marks n_Lines (hC_n_Lines.app _) hs_n_Lines hx2z _ (St.give (T := [cBlk b_1 [I n_Marks, v_n_Lines] 64]) H rfl)) ?_
 rintro vq w4z ⟨r2, hr5z, hvq, H2_⟩
 subst hr5z
 subst vq
 try dsimp only at hM
 replace H : St w w4z [cBlk b_1 [I n_Marks, v_n_Lines] 64] R := H.back H2_ rfl
 clear H2_
 refine s_val (x_as (v := I r2) rfl) ?_
 refine s_nil ?_
 refine W.seq ?_
 refine W.region rfl ?_
 refine s_val (x_mv (v := I r2) rfl) ?_
 refine s_val (x_cmp (kd := .i64) (a := r2) (b := 0) (r := r2 != 0) rfl rfl rfl) ?_
 refine s_nil ?_
 refine W.cond (r2 != 0) rfl (fun c6z => ?_) (fun c6z => ?_)
 ·replace hM := M.e_t hM c6z
  simp only [decide_eq_true_eq, decide_eq_false_iff_not, beq_iff_eq, bne_iff_ne, beq_eq_false_iff_ne, bne_eq_false_iff_eq, ne_eq, Decidable.not_not] at c6z
  refine W.seq ?_
  refine W.region rfl ?_
  refine s_val (x_mv (v := I r2) rfl) ?_
  refine s_val (x_as (v := I 0) rfl) ?_
  refine s_val (x_as (v := I 0) rfl) ?_
  refine s_val (x_as (v := I 0) rfl) ?_
  refine s_val (x_as (v := I r2) rfl) ?_
  refine s_nil ?_
  refine W.ret ?_
  have hr_ := M.e_pure hM
  exact ⟨_, resE_tmp4 rfl, ⟨0, 0, 0, r2, hr_, rfl, (H.pick [] (by decide) rfl)⟩⟩
 ·replace hM := M.e_f hM c6z
  simp only [decide_eq_true_eq, decide_eq_false_iff_not, beq_iff_eq, bne_iff_ne, beq_eq_false_iff_ne, bne_eq_false_iff_eq, ne_eq, Decidable.not_not] at c6z
  refine W.skip ?_
  refine W.seq ?_
  refine W.seq ?_
  refine W.region rfl ?_
  refine s_val (x_mv (v := v_walk) rfl) ?_
  have hl7z := (hs_walk).len_le
  refine s_val (x_lenS T96.und rfl hs_walk) ?_
  refine s_val (x_cmp (kd := .i64) (a := (walk.length : Int)) (b := 1) (r := decide ((walk.length : Int) < 1)) rfl rfl rfl) ?_
  refine s_val (x_mv (v := B (decide ((walk.length : Int) < 1))) rfl) ?_
  refine g_val (!(decide ((walk.length : Int) < 1))) (gy_f rfl) (fun hg => x_mv (v := v_walk) rfl) ?_
  refine g_val (!(decide ((walk.length : Int) < 1))) (gy_f rfl) (fun hg => x_lenS T96.und (gd_of (c := !(decide ((walk.length : Int) < 1))) hg (v_walk)) hs_walk) ?_
  refine g_val (!(decide ((walk.length : Int) < 1))) (gy_f rfl) (fun hg => x_cmp (kd := .i64) (a := (walk.length : Int)) (b := 60) (r := decide (60 < (walk.length : Int))) (gd_of (c := !(decide ((walk.length : Int) < 1))) hg (I (walk.length : Int))) rfl rfl) ?_
  refine s_val (x_por (b := decide ((walk.length : Int) < 1)) (r := decide (60 < (walk.length : Int))) rfl rfl (fun hb => gd_of (c := !(decide ((walk.length : Int) < 1))) (by first | exact hb | (rw [hb]; rfl) | simp_all) (B (decide (60 < (walk.length : Int)))))) ?_
  refine s_nil ?_
  refine W.cond ((decide ((walk.length : Int) < 1)) || (decide (60 < (walk.length : Int)))) rfl (fun c9z => ?_) (fun c9z => ?_)
  ·replace hM := M.e_t hM c9z
   refine W.seq ?_
   refine W.region rfl ?_
   refine s_val (x_as (v := I 0) rfl) ?_
   refine s_val (x_as (v := I 0) rfl) ?_
   refine s_val (x_as (v := I 0) rfl) ?_
   refine s_val (x_as (v := I 3) rfl) ?_
   refine s_nil ?_
   refine W.ret ?_
   have hr_ := M.e_pure hM
   exact ⟨_, resE_tmp4 rfl, ⟨0, 0, 0, 3, hr_, rfl, (H.pick [] (by decide) rfl)⟩⟩
  ·replace hM := M.e_f hM c9z
   refine W.skip ?_
   refine W.seq ?_
   refine W.seq ?_
   refine W.region rfl ?_
   refine s_val (x_as (v := I 0) rfl) ?_
   refine s_nil ?_
   refine W.block ?_
   obtain ⟨ex10z, hi11z, hk12z⟩ := M.e_bind hM
   obtain ⟨m0_, hi11z⟩ := M.e_iter hi11z
   refine W.loop (fun m σ W => ∃ (i : Nat) (ρ : Env), σ = upds ρ [(1, v_walk), (2, .pointer (some ⟨b_1, 0, none⟩)), (9, I (i : Int))] /\ M.iterN (m_nilometerref01_Rises_b0 n_Lines walk) m i = some ex10z /\ St w W [cBlk b_1 [I n_Marks, v_n_Lines] 64] R) ?_ ?_
   ·exact ⟨_, 0, _, upds_of _ _ ⟨rfl, rfl, rfl, trivial⟩, hi11z, H⟩
   ·rintro m15z σ w13z ⟨i, ρ, rfl, hI14z, H⟩
    obtain ⟨m16z, lt17z, x18z, hM, hN19z⟩ := M.e_iterN hI14z
    simp only [m_nilometerref01_Rises_b0] at hM
    clear hI14z
    refine W.seq ?_
    refine W.seq ?_
    refine W.region rfl ?_
    refine s_val (x_mv (v := I (i : Int)) rfl) ?_
    refine s_val (x_mv (v := v_walk) rfl) ?_
    have hl20z := (hs_walk).len_le
    refine s_val (x_lenS T96.und rfl hs_walk) ?_
    refine s_val (x_cmp (kd := .i64) (a := (i : Int)) (b := (walk.length : Int)) (r := decide ((i : Int) < (walk.length : Int))) rfl rfl rfl) ?_
    refine s_nil ?_
    refine W.cond (decide ((i : Int) < (walk.length : Int))) rfl (fun c21z => ?_) (fun c21z => ?_)
    ·replace hM := M.e_t hM c21z
     simp only [decide_eq_true_eq, decide_eq_false_iff_not, beq_iff_eq, bne_iff_ne, beq_eq_false_iff_ne, bne_eq_false_iff_eq, ne_eq, Decidable.not_not] at c21z
     refine W.skip ?_
     refine W.seq ?_
     refine W.block ?_
     refine W.seq ?_
     refine W.draw (fun W => St w W [cBlk b_1 [I n_Marks, v_n_Lines] 64] R) [(0, true), (1, true), (2, true), (3, true), (4, true), (5, true), (6, true), (7, true), (8, true), (9, false)] mixed (by decide +kernel) rfl ?_
     intro w22z hx_
     replace H : St w w22z [cBlk b_1 [I n_Marks, v_n_Lines] 64] R := H.ext hx_
     clear hx_
     refine ⟨(H.pick [0] (by decide) rfl), ?_⟩
     refine d_q rfl (fun w' H => x_mv (v := v_walk) rfl) ?_
     refine d_q rfl (fun w' H => x_mv (v := I (i : Int)) rfl) ?_
     obtain ⟨sd23z, hM⟩ := M.e_grd hM
     simp only [Bool.and_eq_true, decide_eq_true_eq] at sd23z
     refine d_q rfl (fun w' H => x_ix (a := v_walk) (b := I (i : Int)) (v := vat v_walk 2 (Int.toNat (i : Int))) rfl rfl (Sl.ix (α := Leg) T96.und T96.size hs_walk (by omega) (by omega))) ?_
     refine d_q rfl (fun w' H => x_fa (a := vat v_walk 2 (Int.toNat (i : Int))) (v := fat (vat v_walk 2 (Int.toNat (i : Int))) 0) rfl (fa_pl Fd145_0 Sz3 (Sl.pl (i := (i : Int)) hs_walk (by omega) (by omega)))) ?_
     refine d_q rfl (fun w' H => x_ld (p := fat (vat v_walk 2 (Int.toNat (i : Int))) 0) (v := I ((walk.getD i default).line)) rfl (ld_sc Sc3 (At.mono (Leg_at0 hs_walk (i := (i : Int)) (by omega) (by omega)) (hC_walk.at H)))) ?_
     refine d_q rfl (fun w' H => x_fa (a := .pointer (some ⟨b_1, 0, none⟩)) (v := .pointer (some ⟨b_1, 1, none⟩)) rfl (fa_blk (o := 0) Fd64_1 Sz62)) ?_
     refine d_q rfl (fun w' H => x_ld (p := .pointer (some ⟨b_1, 1, none⟩)) (v := v_n_Lines) rfl (ldb_sc Sc62 (H.blk (k := 0) rfl) rfl)) ?_
     have hl24z := (hs_n_Lines).len_le
     refine d_q rfl (fun w' H => x_lenS T62.und rfl hs_n_Lines) ?_
     refine d_q rfl (fun w' H => x_ari (a := (n_Lines.length : Int)) (b := 1) (r := (n_Lines.length : Int) - 1) rfl rfl rfl (by omega)) ?_
     refine d_l rfl ?_
     obtain ⟨r26z, hx25z, hM⟩ := M.e_bind hM
     refine s_call cf69 [I ((walk.getD i default).line), I 0, I ((n_Lines.length : Int) - 1)] rfl (nilometerref01_outside_ok ((walk.getD i default).line) 0 ((n_Lines.length : Int) - 1) hx25z _ (St.give (T := [cBlk b_1 [I n_Marks, v_n_Lines] 64]) H rfl)) ?_
     rintro vq w27z ⟨r3, hr28z, hvq, H2_⟩
     subst hr28z
     subst vq
     try dsimp only at hM
     replace H : St w w27z [cBlk b_1 [I n_Marks, v_n_Lines] 64] R := H.back H2_ rfl
     clear H2_
     refine s_nil ⟨(H.pick [0] (by decide) rfl), ?_⟩
     refine d_nil ?_
     refine W.cond r3 rfl (fun c29z => ?_) (fun c29z => ?_)
     ·replace hM := M.e_t hM c29z
      refine W.seq ?_
      refine W.region rfl ?_
      refine s_val (x_as (v := I 0) rfl) ?_
      refine s_val (x_as (v := I 0) rfl) ?_
      refine s_val (x_as (v := I 0) rfl) ?_
      refine s_val (x_as (v := I 2) rfl) ?_
      refine s_nil ?_
      refine W.ret ?_
      have hX30z := M.e_inr hM hN19z
      subst hX30z
      replace hM := hk12z
      try dsimp only at hM
      have hr_ := M.e_pure hM
      exact ⟨_, resE_tmp4 rfl, ⟨0, 0, 0, 2, hr_, rfl, (H.pick [] (by decide) rfl)⟩⟩
     ·replace hM := M.e_f hM c29z
      refine W.skip ?_
      refine W.region rfl ?_
      refine s_val (x_mv (v := I (i : Int)) rfl) ?_
      refine s_val (x_ari (a := (i : Int)) (b := 1) (r := (i : Int) + 1) rfl rfl rfl (by omega)) ?_
      refine s_val (x_as (v := I ((i : Int) + 1)) rfl) ?_
      refine s_nil ?_
      exact ⟨m16z, lt17z, i + 1, _, upds_of _ _ ⟨rfl, rfl, rfl, trivial⟩, M.e_inl hM hN19z, H⟩
    ·replace hM := M.e_f hM c21z
     simp only [decide_eq_true_eq, decide_eq_false_iff_not, beq_iff_eq, bne_iff_ne, beq_eq_false_iff_ne, bne_eq_false_iff_eq, ne_eq, Decidable.not_not] at c21z
     refine W.exit ?_
     have hX31z := M.e_inr hM hN19z
     subst hX31z
     replace hM := hk12z
     try dsimp only at hM
     refine W.seq ?_
     refine W.region rfl ?_
     refine s_val (x_as (v := I 0) rfl) ?_
     refine s_val (x_as (v := I 0) rfl) ?_
     refine s_val (x_as (v := I 0) rfl) ?_
     refine s_nil ?_
     refine W.seq ?_
     refine W.seq ?_
     refine W.region rfl ?_
     refine s_val (x_as (v := I 0) rfl) ?_
     refine s_nil ?_
     refine W.block ?_
     obtain ⟨ex32z, hi33z, hk34z⟩ := M.e_bind hM
     obtain ⟨m0_, hi33z⟩ := M.e_iter hi33z
     refine W.loop (fun m σ W => ∃ (first : Int) (last : Int) (sum : Int) (i2 : Nat) (ρ : Env), σ = upds ρ [(1, v_walk), (2, .pointer (some ⟨b_1, 0, none⟩)), (10, I first), (11, I last), (12, I sum), (13, I (i2 : Int))] /\ M.iterN (m_nilometerref01_Rises_b1 n_Lines walk) m (first, last, sum, i2) = some ex32z /\ St w W [cBlk b_1 [I n_Marks, v_n_Lines] 64] R) ?_ ?_
     ·exact ⟨_, 0, 0, 0, 0, _, upds_of _ _ ⟨rfl, rfl, rfl, rfl, rfl, rfl, trivial⟩, hi33z, H⟩
     ·rintro m37z σ w35z ⟨first, last, sum, i2, ρ, rfl, hI36z, H⟩
      obtain ⟨m38z, lt39z, x40z, hM, hN41z⟩ := M.e_iterN hI36z
      simp only [m_nilometerref01_Rises_b1] at hM
      clear hI36z
      refine W.seq ?_
      refine W.seq ?_
      refine W.region rfl ?_
      refine s_val (x_mv (v := I (i2 : Int)) rfl) ?_
      refine s_val (x_mv (v := v_walk) rfl) ?_
      have hl42z := (hs_walk).len_le
      refine s_val (x_lenS T96.und rfl hs_walk) ?_
      refine s_val (x_cmp (kd := .i64) (a := (i2 : Int)) (b := (walk.length : Int)) (r := decide ((i2 : Int) < (walk.length : Int))) rfl rfl rfl) ?_
      refine s_nil ?_
      refine W.cond (decide ((i2 : Int) < (walk.length : Int))) rfl (fun c43z => ?_) (fun c43z => ?_)
      ·replace hM := M.e_t hM c43z
       simp only [decide_eq_true_eq, decide_eq_false_iff_not, beq_iff_eq, bne_iff_ne, beq_eq_false_iff_ne, bne_eq_false_iff_eq, ne_eq, Decidable.not_not] at c43z
       refine W.skip ?_
       refine W.seq ?_
       refine W.block ?_
       refine W.seq ?_
       refine W.draw (fun W => St w W [cBlk b_1 [I n_Marks, v_n_Lines] 64] R) [(0, true), (1, true), (2, true), (3, true), (4, true), (5, true), (6, true), (7, true), (8, true), (9, false), (10, false)] mixed (by decide +kernel) rfl ?_
       intro w44z hx_
       replace H : St w w44z [cBlk b_1 [I n_Marks, v_n_Lines] 64] R := H.ext hx_
       clear hx_
       refine ⟨(H.pick [0] (by decide) rfl), ?_⟩
       refine d_q rfl (fun w' H => x_fa (a := .pointer (some ⟨b_1, 0, none⟩)) (v := .pointer (some ⟨b_1, 1, none⟩)) rfl (fa_blk (o := 0) Fd64_1 Sz62)) ?_
       refine d_q rfl (fun w' H => x_ld (p := .pointer (some ⟨b_1, 1, none⟩)) (v := v_n_Lines) rfl (ldb_sc Sc62 (H.blk (k := 0) rfl) rfl)) ?_
       refine d_q rfl (fun w' H => x_mv (v := v_walk) rfl) ?_
       refine d_q rfl (fun w' H => x_mv (v := I (i2 : Int)) rfl) ?_
       obtain ⟨sd45z, hM⟩ := M.e_grd hM
       simp only [Bool.and_eq_true, decide_eq_true_eq] at sd45z
       refine d_q rfl (fun w' H => x_ix (a := v_walk) (b := I (i2 : Int)) (v := vat v_walk 2 (Int.toNat (i2 : Int))) rfl rfl (Sl.ix (α := Leg) T96.und T96.size hs_walk (by omega) (by omega))) ?_
       refine d_q rfl (fun w' H => x_fa (a := vat v_walk 2 (Int.toNat (i2 : Int))) (v := fat (vat v_walk 2 (Int.toNat (i2 : Int))) 0) rfl (fa_pl Fd145_0 Sz3 (Sl.pl (i := (i2 : Int)) hs_walk (by omega) (by omega)))) ?_
       refine d_q rfl (fun w' H => x_ld (p := fat (vat v_walk 2 (Int.toNat (i2 : Int))) 0) (v := I ((walk.getD i2 default).line)) rfl (ld_sc Sc3 (At.mono (Leg_at0 hs_walk (i := (i2 : Int)) (by omega) (by omega)) (hC_walk.at H)))) ?_
       obtain ⟨sd46z, hM⟩ := M.e_grd hM
       simp only [Bool.and_eq_true, decide_eq_true_eq] at sd46z
       refine d_q rfl (fun w' H => x_ix (a := v_n_Lines) (b := I ((walk.getD i2 default).line)) (v := vat v_n_Lines 5 (Int.toNat ((walk.getD i2 default).line))) rfl rfl (Sl.ix (α := Line) T62.und T62.size hs_n_Lines (by omega) (by omega))) ?_
       refine d_q rfl (fun w' H => x_ld (p := vat v_n_Lines 5 (Int.toNat ((walk.getD i2 default).line))) (v := .agg #[I ((n_Lines.getD (Int.toNat ((walk.getD i2 default).line)) default).src), I ((n_Lines.getD (Int.toNat ((walk.getD i2 default).line)) default).dst), I ((n_Lines.getD (Int.toNat ((walk.getD i2 default).line)) default).day), I ((n_Lines.getD (Int.toNat ((walk.getD i2 default).line)) default).rise), I ((n_Lines.getD (Int.toNat ((walk.getD i2 default).line)) default).err)]) rfl (ld_ag Ag133 Sz133 (At.mono (Line_atA hs_n_Lines (i := (walk.getD i2 default).line) (by omega) (by omega)) (hC_n_Lines.at H)))) ?_
       refine d_l rfl ?_
       refine t_alloc (cs := [I 0, I 0, I 0, I 0, I 0]) H Al133 rfl ?_
       intro b_2 w47z H
       refine s_nil ⟨(H.pick [1] (by decide) rfl), ?_⟩
       refine d_l rfl ?_
       refine t_st (k := 0) (b := b_2) (off := 0) (cs := [I 0, I 0, I 0, I 0, I 0]) (vs := [I ((n_Lines.getD (Int.toNat ((walk.getD i2 default).line)) default).src), I ((n_Lines.getD (Int.toNat ((walk.getD i2 default).line)) default).dst), I ((n_Lines.getD (Int.toNat ((walk.getD i2 default).line)) default).day), I ((n_Lines.getD (Int.toNat ((walk.getD i2 default).line)) default).rise), I ((n_Lines.getD (Int.toNat ((walk.getD i2 default).line)) default).err)]) (cs' := [I ((n_Lines.getD (Int.toNat ((walk.getD i2 default).line)) default).src), I ((n_Lines.getD (Int.toNat ((walk.getD i2 default).line)) default).dst), I ((n_Lines.getD (Int.toNat ((walk.getD i2 default).line)) default).day), I ((n_Lines.getD (Int.toNat ((walk.getD i2 default).line)) default).rise), I ((n_Lines.getD (Int.toNat ((walk.getD i2 default).line)) default).err)]) (v := .agg #[I ((n_Lines.getD (Int.toNat ((walk.getD i2 default).line)) default).src), I ((n_Lines.getD (Int.toNat ((walk.getD i2 default).line)) default).dst), I ((n_Lines.getD (Int.toNat ((walk.getD i2 default).line)) default).day), I ((n_Lines.getD (Int.toNat ((walk.getD i2 default).line)) default).rise), I ((n_Lines.getD (Int.toNat ((walk.getD i2 default).line)) default).err)]) (L' := [cBlk b_2 [I ((n_Lines.getD (Int.toNat ((walk.getD i2 default).line)) default).src), I ((n_Lines.getD (Int.toNat ((walk.getD i2 default).line)) default).dst), I ((n_Lines.getD (Int.toNat ((walk.getD i2 default).line)) default).day), I ((n_Lines.getD (Int.toNat ((walk.getD i2 default).line)) default).rise), I ((n_Lines.getD (Int.toNat ((walk.getD i2 default).line)) default).err)] 133, cBlk b_1 [I n_Marks, v_n_Lines] 64]) H rfl rfl rfl Sz133 rfl rfl rfl rfl rfl rfl ?_
       intro w48z H
       refine s_nil ⟨(H.pick [1] (by decide) rfl), ?_⟩
       refine d_nil ?_
       refine W.seq ?_
       refine W.draw (fun W => St w W [cBlk b_2 [I ((n_Lines.getD (Int.toNat ((walk.getD i2 default).line)) default).src), I ((n_Lines.getD (Int.toNat ((walk.getD i2 default).line)) default).dst), I ((n_Lines.getD (Int.toNat ((walk.getD i2 default).line)) default).day), I ((n_Lines.getD (Int.toNat ((walk.getD i2 default).line)) default).rise), I ((n_Lines.getD (Int.toNat ((walk.getD i2 default).line)) default).err)] 133, cBlk b_1 [I n_Marks, v_n_Lines] 64] R) [(0, true), (1, true), (2, true), (3, true), (4, true), (5, true), (6, true), (7, true), (8, true)] mixed (by decide +kernel) rfl ?_
       intro w49z hx_
       replace H : St w w49z [cBlk b_2 [I ((n_Lines.getD (Int.toNat ((walk.getD i2 default).line)) default).src), I ((n_Lines.getD (Int.toNat ((walk.getD i2 default).line)) default).dst), I ((n_Lines.getD (Int.toNat ((walk.getD i2 default).line)) default).day), I ((n_Lines.getD (Int.toNat ((walk.getD i2 default).line)) default).rise), I ((n_Lines.getD (Int.toNat ((walk.getD i2 default).line)) default).err)] 133, cBlk b_1 [I n_Marks, v_n_Lines] 64] R := H.ext hx_
       clear hx_
       refine ⟨(H.pick [0, 1] (by decide) rfl), ?_⟩
       refine d_q rfl (fun w' H => x_fa (a := .pointer (some ⟨b_2, 0, none⟩)) (v := .pointer (some ⟨b_2, 0, none⟩)) rfl (fa_blk (o := 0) Fd133_0 Sz3)) ?_
       refine d_q rfl (fun w' H => x_ld (p := .pointer (some ⟨b_2, 0, none⟩)) (v := I ((n_Lines.getD (Int.toNat ((walk.getD i2 default).line)) default).src)) rfl (ldb_sc Sc3 (H.blk (k := 0) rfl) rfl)) ?_
       refine d_q rfl (fun w' H => x_fa (a := .pointer (some ⟨b_2, 0, none⟩)) (v := .pointer (some ⟨b_2, 1, none⟩)) rfl (fa_blk (o := 0) Fd133_1 Sz3)) ?_
       refine d_q rfl (fun w' H => x_ld (p := .pointer (some ⟨b_2, 1, none⟩)) (v := I ((n_Lines.getD (Int.toNat ((walk.getD i2 default).line)) default).dst)) rfl (ldb_sc Sc3 (H.blk (k := 0) rfl) rfl)) ?_
       refine d_q rfl (fun w' H => x_fa (a := .pointer (some ⟨b_2, 0, none⟩)) (v := .pointer (some ⟨b_2, 3, none⟩)) rfl (fa_blk (o := 0) Fd133_3 Sz3)) ?_
       refine d_q rfl (fun w' H => x_ld (p := .pointer (some ⟨b_2, 3, none⟩)) (v := I ((n_Lines.getD (Int.toNat ((walk.getD i2 default).line)) default).rise)) rfl (ldb_sc Sc3 (H.blk (k := 0) rfl) rfl)) ?_
       refine d_q rfl (fun w' H => x_as (v := I ((n_Lines.getD (Int.toNat ((walk.getD i2 default).line)) default).src)) rfl) ?_
       refine d_q rfl (fun w' H => x_as (v := I ((n_Lines.getD (Int.toNat ((walk.getD i2 default).line)) default).dst)) rfl) ?_
       refine d_q rfl (fun w' H => x_as (v := I ((n_Lines.getD (Int.toNat ((walk.getD i2 default).line)) default).rise)) rfl) ?_
       refine d_nil ?_
       refine W.seq ?_
       refine W.seq ?_
       refine W.region rfl ?_
       refine s_val (x_mv (v := v_walk) rfl) ?_
       refine s_val (x_mv (v := I (i2 : Int)) rfl) ?_
       refine s_val (x_ix (a := v_walk) (b := I (i2 : Int)) (v := vat v_walk 2 (Int.toNat (i2 : Int))) rfl rfl (Sl.ix (α := Leg) T96.und T96.size hs_walk (by omega) (by omega))) ?_
       refine s_val (x_fa (a := vat v_walk 2 (Int.toNat (i2 : Int))) (v := fat (vat v_walk 2 (Int.toNat (i2 : Int))) 1) rfl (fa_pl Fd145_1 Sz4 (Sl.pl (i := (i2 : Int)) hs_walk (by omega) (by omega)))) ?_
       refine s_val (x_ld (p := fat (vat v_walk 2 (Int.toNat (i2 : Int))) 1) (v := B ((walk.getD i2 default).back)) rfl (ld_sc Sc4 (At.mono (Leg_at1 hs_walk (i := (i2 : Int)) (by omega) (by omega)) (hC_walk.at H)))) ?_
       refine s_nil ?_
       refine W.cond ((walk.getD i2 default).back) rfl (fun c50z => ?_) (fun c50z => ?_)
       ·replace hM := M.e_t hM c50z
        refine W.draw (fun W => St w W [cBlk b_2 [I ((n_Lines.getD (Int.toNat ((walk.getD i2 default).line)) default).src), I ((n_Lines.getD (Int.toNat ((walk.getD i2 default).line)) default).dst), I ((n_Lines.getD (Int.toNat ((walk.getD i2 default).line)) default).day), I ((n_Lines.getD (Int.toNat ((walk.getD i2 default).line)) default).rise), I ((n_Lines.getD (Int.toNat ((walk.getD i2 default).line)) default).err)] 133, cBlk b_1 [I n_Marks, v_n_Lines] 64] R) [(0, true), (1, true), (2, true), (3, true), (4, true), (5, true), (6, true), (7, true), (8, true), (9, true)] mixed (by decide +kernel) rfl ?_
        intro w51z hx_
        replace H : St w w51z [cBlk b_2 [I ((n_Lines.getD (Int.toNat ((walk.getD i2 default).line)) default).src), I ((n_Lines.getD (Int.toNat ((walk.getD i2 default).line)) default).dst), I ((n_Lines.getD (Int.toNat ((walk.getD i2 default).line)) default).day), I ((n_Lines.getD (Int.toNat ((walk.getD i2 default).line)) default).rise), I ((n_Lines.getD (Int.toNat ((walk.getD i2 default).line)) default).err)] 133, cBlk b_1 [I n_Marks, v_n_Lines] 64] R := H.ext hx_
        clear hx_
        refine ⟨(H.pick [0, 1] (by decide) rfl), ?_⟩
        refine d_q rfl (fun w' H => x_fa (a := .pointer (some ⟨b_2, 0, none⟩)) (v := .pointer (some ⟨b_2, 1, none⟩)) rfl (fa_blk (o := 0) Fd133_1 Sz3)) ?_
        refine d_q rfl (fun w' H => x_ld (p := .pointer (some ⟨b_2, 1, none⟩)) (v := I ((n_Lines.getD (Int.toNat ((walk.getD i2 default).line)) default).dst)) rfl (ldb_sc Sc3 (H.blk (k := 0) rfl) rfl)) ?_
        refine d_q rfl (fun w' H => x_fa (a := .pointer (some ⟨b_2, 0, none⟩)) (v := .pointer (some ⟨b_2, 0, none⟩)) rfl (fa_blk (o := 0) Fd133_0 Sz3)) ?_
        refine d_q rfl (fun w' H => x_ld (p := .pointer (some ⟨b_2, 0, none⟩)) (v := I ((n_Lines.getD (Int.toNat ((walk.getD i2 default).line)) default).src)) rfl (ldb_sc Sc3 (H.blk (k := 0) rfl) rfl)) ?_
        refine d_q rfl (fun w' H => x_fa (a := .pointer (some ⟨b_2, 0, none⟩)) (v := .pointer (some ⟨b_2, 3, none⟩)) rfl (fa_blk (o := 0) Fd133_3 Sz3)) ?_
        refine d_q rfl (fun w' H => x_ld (p := .pointer (some ⟨b_2, 3, none⟩)) (v := I ((n_Lines.getD (Int.toNat ((walk.getD i2 default).line)) default).rise)) rfl (ldb_sc Sc3 (H.blk (k := 0) rfl) rfl)) ?_
        obtain ⟨sd52z, hM⟩ := M.e_grd hM
        simp only [Bool.and_eq_true, decide_eq_true_eq] at sd52z
        refine d_q rfl (fun w' H => x_neg (a := (n_Lines.getD (Int.toNat ((walk.getD i2 default).line)) default).rise) rfl (by omega)) ?_
        refine d_q rfl (fun w' H => x_as (v := I ((n_Lines.getD (Int.toNat ((walk.getD i2 default).line)) default).dst)) rfl) ?_
        refine d_q rfl (fun w' H => x_as (v := I ((n_Lines.getD (Int.toNat ((walk.getD i2 default).line)) default).src)) rfl) ?_
        refine d_q rfl (fun w' H => x_as (v := I (-((n_Lines.getD (Int.toNat ((walk.getD i2 default).line)) default).rise))) rfl) ?_
        refine d_nil ?_
        refine W.seq ?_
        refine W.seq ?_
        refine W.region rfl ?_
        refine s_val (x_mv (v := I (i2 : Int)) rfl) ?_
        refine s_val (x_cmp (kd := .i64) (a := (i2 : Int)) (b := 0) (r := (i2 : Int) == 0) rfl rfl rfl) ?_
        refine s_nil ?_
        refine W.cond ((i2 : Int) == 0) rfl (fun c53z => ?_) (fun c53z => ?_)
        ·replace hM := M.e_t hM c53z
         simp only [decide_eq_true_eq, decide_eq_false_iff_not, beq_iff_eq, bne_iff_ne, beq_eq_false_iff_ne, bne_eq_false_iff_eq, ne_eq, Decidable.not_not] at c53z
         refine W.region rfl ?_
         refine s_val (x_mv (v := I ((n_Lines.getD (Int.toNat ((walk.getD i2 default).line)) default).dst)) rfl) ?_
         refine s_val (x_as (v := I ((n_Lines.getD (Int.toNat ((walk.getD i2 default).line)) default).dst)) rfl) ?_
         refine s_nil ?_
         refine W.seq ?_
         refine W.region rfl ?_
         refine s_val (x_mv (v := I ((n_Lines.getD (Int.toNat ((walk.getD i2 default).line)) default).src)) rfl) ?_
         refine s_val (x_as (v := I ((n_Lines.getD (Int.toNat ((walk.getD i2 default).line)) default).src)) rfl) ?_
         refine s_nil ?_
         refine W.region rfl ?_
         refine s_val (x_mv (v := I sum) rfl) ?_
         refine s_val (x_mv (v := I (-((n_Lines.getD (Int.toNat ((walk.getD i2 default).line)) default).rise))) rfl) ?_
         obtain ⟨sd54z, hM⟩ := M.e_grd hM
         simp only [Bool.and_eq_true, decide_eq_true_eq] at sd54z
         refine s_val (x_ari (a := sum) (b := -((n_Lines.getD (Int.toNat ((walk.getD i2 default).line)) default).rise)) (r := sum + (-((n_Lines.getD (Int.toNat ((walk.getD i2 default).line)) default).rise))) rfl rfl rfl (by omega)) ?_
         refine s_val (x_fa (a := .pointer (some ⟨b_2, 0, none⟩)) (v := .pointer (some ⟨b_2, 4, none⟩)) rfl (fa_blk (o := 0) Fd133_4 Sz3)) ?_
         refine s_val (x_ld (p := .pointer (some ⟨b_2, 4, none⟩)) (v := I ((n_Lines.getD (Int.toNat ((walk.getD i2 default).line)) default).err)) rfl (ldb_sc Sc3 (H.blk (k := 0) rfl) rfl)) ?_
         obtain ⟨sd55z, hM⟩ := M.e_grd hM
         simp only [Bool.and_eq_true, decide_eq_true_eq] at sd55z
         refine s_val (x_ari (a := sum + (-((n_Lines.getD (Int.toNat ((walk.getD i2 default).line)) default).rise))) (b := (n_Lines.getD (Int.toNat ((walk.getD i2 default).line)) default).err) (r := (sum + (-((n_Lines.getD (Int.toNat ((walk.getD i2 default).line)) default).rise))) + ((n_Lines.getD (Int.toNat ((walk.getD i2 default).line)) default).err)) rfl rfl rfl (by omega)) ?_
         refine s_val (x_as (v := I ((sum + (-((n_Lines.getD (Int.toNat ((walk.getD i2 default).line)) default).rise))) + ((n_Lines.getD (Int.toNat ((walk.getD i2 default).line)) default).err))) rfl) ?_
         refine s_nil ?_
         refine W.region rfl ?_
         refine s_val (x_mv (v := I (i2 : Int)) rfl) ?_
         refine s_val (x_ari (a := (i2 : Int)) (b := 1) (r := (i2 : Int) + 1) rfl rfl rfl (by omega)) ?_
         refine s_val (x_as (v := I ((i2 : Int) + 1)) rfl) ?_
         refine s_nil ?_
         exact ⟨m38z, lt39z, (n_Lines.getD (Int.toNat ((walk.getD i2 default).line)) default).dst, (n_Lines.getD (Int.toNat ((walk.getD i2 default).line)) default).src, (sum + (-((n_Lines.getD (Int.toNat ((walk.getD i2 default).line)) default).rise))) + ((n_Lines.getD (Int.toNat ((walk.getD i2 default).line)) default).err), i2 + 1, _, upds_of _ _ ⟨rfl, rfl, rfl, rfl, rfl, rfl, trivial⟩, M.e_inl hM hN41z, (H.pick [1] (by decide) rfl)⟩
        ·replace hM := M.e_f hM c53z
         simp only [decide_eq_true_eq, decide_eq_false_iff_not, beq_iff_eq, bne_iff_ne, beq_eq_false_iff_ne, bne_eq_false_iff_eq, ne_eq, Decidable.not_not] at c53z
         refine W.seq ?_
         refine W.region rfl ?_
         refine s_val (x_mv (v := I ((n_Lines.getD (Int.toNat ((walk.getD i2 default).line)) default).dst)) rfl) ?_
         refine s_val (x_mv (v := I last) rfl) ?_
         refine s_val (x_cmp (kd := .i64) (a := (n_Lines.getD (Int.toNat ((walk.getD i2 default).line)) default).dst) (b := last) (r := ((n_Lines.getD (Int.toNat ((walk.getD i2 default).line)) default).dst) != last) rfl rfl rfl) ?_
         refine s_nil ?_
         refine W.cond (((n_Lines.getD (Int.toNat ((walk.getD i2 default).line)) default).dst) != last) rfl (fun c56z => ?_) (fun c56z => ?_)
         ·replace hM := M.e_t hM c56z
          simp only [decide_eq_true_eq, decide_eq_false_iff_not, beq_iff_eq, bne_iff_ne, beq_eq_false_iff_ne, bne_eq_false_iff_eq, ne_eq, Decidable.not_not] at c56z
          refine W.seq ?_
          refine W.region rfl ?_
          refine s_val (x_as (v := I 0) rfl) ?_
          refine s_val (x_as (v := I 0) rfl) ?_
          refine s_val (x_as (v := I 0) rfl) ?_
          refine s_val (x_as (v := I 9) rfl) ?_
          refine s_nil ?_
          refine W.ret ?_
          have hX57z := M.e_inr hM hN41z
          subst hX57z
          replace hM := hk34z
          try dsimp only at hM
          have hr_ := M.e_pure hM
          exact ⟨_, resE_tmp4 rfl, ⟨0, 0, 0, 9, hr_, rfl, (H.pick [] (by decide) rfl)⟩⟩
         ·replace hM := M.e_f hM c56z
          simp only [decide_eq_true_eq, decide_eq_false_iff_not, beq_iff_eq, bne_iff_ne, beq_eq_false_iff_ne, bne_eq_false_iff_eq, ne_eq, Decidable.not_not] at c56z
          refine W.skip ?_
          refine W.seq ?_
          refine W.region rfl ?_
          refine s_val (x_mv (v := I ((n_Lines.getD (Int.toNat ((walk.getD i2 default).line)) default).src)) rfl) ?_
          refine s_val (x_as (v := I ((n_Lines.getD (Int.toNat ((walk.getD i2 default).line)) default).src)) rfl) ?_
          refine s_nil ?_
          refine W.region rfl ?_
          refine s_val (x_mv (v := I sum) rfl) ?_
          refine s_val (x_mv (v := I (-((n_Lines.getD (Int.toNat ((walk.getD i2 default).line)) default).rise))) rfl) ?_
          obtain ⟨sd58z, hM⟩ := M.e_grd hM
          simp only [Bool.and_eq_true, decide_eq_true_eq] at sd58z
          refine s_val (x_ari (a := sum) (b := -((n_Lines.getD (Int.toNat ((walk.getD i2 default).line)) default).rise)) (r := sum + (-((n_Lines.getD (Int.toNat ((walk.getD i2 default).line)) default).rise))) rfl rfl rfl (by omega)) ?_
          refine s_val (x_fa (a := .pointer (some ⟨b_2, 0, none⟩)) (v := .pointer (some ⟨b_2, 4, none⟩)) rfl (fa_blk (o := 0) Fd133_4 Sz3)) ?_
          refine s_val (x_ld (p := .pointer (some ⟨b_2, 4, none⟩)) (v := I ((n_Lines.getD (Int.toNat ((walk.getD i2 default).line)) default).err)) rfl (ldb_sc Sc3 (H.blk (k := 0) rfl) rfl)) ?_
          obtain ⟨sd59z, hM⟩ := M.e_grd hM
          simp only [Bool.and_eq_true, decide_eq_true_eq] at sd59z
          refine s_val (x_ari (a := sum + (-((n_Lines.getD (Int.toNat ((walk.getD i2 default).line)) default).rise))) (b := (n_Lines.getD (Int.toNat ((walk.getD i2 default).line)) default).err) (r := (sum + (-((n_Lines.getD (Int.toNat ((walk.getD i2 default).line)) default).rise))) + ((n_Lines.getD (Int.toNat ((walk.getD i2 default).line)) default).err)) rfl rfl rfl (by omega)) ?_
          refine s_val (x_as (v := I ((sum + (-((n_Lines.getD (Int.toNat ((walk.getD i2 default).line)) default).rise))) + ((n_Lines.getD (Int.toNat ((walk.getD i2 default).line)) default).err))) rfl) ?_
          refine s_nil ?_
          refine W.region rfl ?_
          refine s_val (x_mv (v := I (i2 : Int)) rfl) ?_
          refine s_val (x_ari (a := (i2 : Int)) (b := 1) (r := (i2 : Int) + 1) rfl rfl rfl (by omega)) ?_
          refine s_val (x_as (v := I ((i2 : Int) + 1)) rfl) ?_
          refine s_nil ?_
          exact ⟨m38z, lt39z, first, (n_Lines.getD (Int.toNat ((walk.getD i2 default).line)) default).src, (sum + (-((n_Lines.getD (Int.toNat ((walk.getD i2 default).line)) default).rise))) + ((n_Lines.getD (Int.toNat ((walk.getD i2 default).line)) default).err), i2 + 1, _, upds_of _ _ ⟨rfl, rfl, rfl, rfl, rfl, rfl, trivial⟩, M.e_inl hM hN41z, (H.pick [1] (by decide) rfl)⟩
       ·replace hM := M.e_f hM c50z
        refine W.skip ?_
        refine W.seq ?_
        refine W.seq ?_
        refine W.region rfl ?_
        refine s_val (x_mv (v := I (i2 : Int)) rfl) ?_
        refine s_val (x_cmp (kd := .i64) (a := (i2 : Int)) (b := 0) (r := (i2 : Int) == 0) rfl rfl rfl) ?_
        refine s_nil ?_
        refine W.cond ((i2 : Int) == 0) rfl (fun c60z => ?_) (fun c60z => ?_)
        ·replace hM := M.e_t hM c60z
         simp only [decide_eq_true_eq, decide_eq_false_iff_not, beq_iff_eq, bne_iff_ne, beq_eq_false_iff_ne, bne_eq_false_iff_eq, ne_eq, Decidable.not_not] at c60z
         refine W.region rfl ?_
         refine s_val (x_mv (v := I ((n_Lines.getD (Int.toNat ((walk.getD i2 default).line)) default).src)) rfl) ?_
         refine s_val (x_as (v := I ((n_Lines.getD (Int.toNat ((walk.getD i2 default).line)) default).src)) rfl) ?_
         refine s_nil ?_
         refine W.seq ?_
         refine W.region rfl ?_
         refine s_val (x_mv (v := I ((n_Lines.getD (Int.toNat ((walk.getD i2 default).line)) default).dst)) rfl) ?_
         refine s_val (x_as (v := I ((n_Lines.getD (Int.toNat ((walk.getD i2 default).line)) default).dst)) rfl) ?_
         refine s_nil ?_
         refine W.region rfl ?_
         refine s_val (x_mv (v := I sum) rfl) ?_
         refine s_val (x_mv (v := I ((n_Lines.getD (Int.toNat ((walk.getD i2 default).line)) default).rise)) rfl) ?_
         obtain ⟨sd61z, hM⟩ := M.e_grd hM
         simp only [Bool.and_eq_true, decide_eq_true_eq] at sd61z
         refine s_val (x_ari (a := sum) (b := (n_Lines.getD (Int.toNat ((walk.getD i2 default).line)) default).rise) (r := sum + ((n_Lines.getD (Int.toNat ((walk.getD i2 default).line)) default).rise)) rfl rfl rfl (by omega)) ?_
         refine s_val (x_fa (a := .pointer (some ⟨b_2, 0, none⟩)) (v := .pointer (some ⟨b_2, 4, none⟩)) rfl (fa_blk (o := 0) Fd133_4 Sz3)) ?_
         refine s_val (x_ld (p := .pointer (some ⟨b_2, 4, none⟩)) (v := I ((n_Lines.getD (Int.toNat ((walk.getD i2 default).line)) default).err)) rfl (ldb_sc Sc3 (H.blk (k := 0) rfl) rfl)) ?_
         obtain ⟨sd62z, hM⟩ := M.e_grd hM
         simp only [Bool.and_eq_true, decide_eq_true_eq] at sd62z
         refine s_val (x_ari (a := sum + ((n_Lines.getD (Int.toNat ((walk.getD i2 default).line)) default).rise)) (b := (n_Lines.getD (Int.toNat ((walk.getD i2 default).line)) default).err) (r := (sum + ((n_Lines.getD (Int.toNat ((walk.getD i2 default).line)) default).rise)) + ((n_Lines.getD (Int.toNat ((walk.getD i2 default).line)) default).err)) rfl rfl rfl (by omega)) ?_
         refine s_val (x_as (v := I ((sum + ((n_Lines.getD (Int.toNat ((walk.getD i2 default).line)) default).rise)) + ((n_Lines.getD (Int.toNat ((walk.getD i2 default).line)) default).err))) rfl) ?_
         refine s_nil ?_
         refine W.region rfl ?_
         refine s_val (x_mv (v := I (i2 : Int)) rfl) ?_
         refine s_val (x_ari (a := (i2 : Int)) (b := 1) (r := (i2 : Int) + 1) rfl rfl rfl (by omega)) ?_
         refine s_val (x_as (v := I ((i2 : Int) + 1)) rfl) ?_
         refine s_nil ?_
         exact ⟨m38z, lt39z, (n_Lines.getD (Int.toNat ((walk.getD i2 default).line)) default).src, (n_Lines.getD (Int.toNat ((walk.getD i2 default).line)) default).dst, (sum + ((n_Lines.getD (Int.toNat ((walk.getD i2 default).line)) default).rise)) + ((n_Lines.getD (Int.toNat ((walk.getD i2 default).line)) default).err), i2 + 1, _, upds_of _ _ ⟨rfl, rfl, rfl, rfl, rfl, rfl, trivial⟩, M.e_inl hM hN41z, (H.pick [1] (by decide) rfl)⟩
        ·replace hM := M.e_f hM c60z
         simp only [decide_eq_true_eq, decide_eq_false_iff_not, beq_iff_eq, bne_iff_ne, beq_eq_false_iff_ne, bne_eq_false_iff_eq, ne_eq, Decidable.not_not] at c60z
         refine W.seq ?_
         refine W.region rfl ?_
         refine s_val (x_mv (v := I ((n_Lines.getD (Int.toNat ((walk.getD i2 default).line)) default).src)) rfl) ?_
         refine s_val (x_mv (v := I last) rfl) ?_
         refine s_val (x_cmp (kd := .i64) (a := (n_Lines.getD (Int.toNat ((walk.getD i2 default).line)) default).src) (b := last) (r := ((n_Lines.getD (Int.toNat ((walk.getD i2 default).line)) default).src) != last) rfl rfl rfl) ?_
         refine s_nil ?_
         refine W.cond (((n_Lines.getD (Int.toNat ((walk.getD i2 default).line)) default).src) != last) rfl (fun c63z => ?_) (fun c63z => ?_)
         ·replace hM := M.e_t hM c63z
          simp only [decide_eq_true_eq, decide_eq_false_iff_not, beq_iff_eq, bne_iff_ne, beq_eq_false_iff_ne, bne_eq_false_iff_eq, ne_eq, Decidable.not_not] at c63z
          refine W.seq ?_
          refine W.region rfl ?_
          refine s_val (x_as (v := I 0) rfl) ?_
          refine s_val (x_as (v := I 0) rfl) ?_
          refine s_val (x_as (v := I 0) rfl) ?_
          refine s_val (x_as (v := I 9) rfl) ?_
          refine s_nil ?_
          refine W.ret ?_
          have hX64z := M.e_inr hM hN41z
          subst hX64z
          replace hM := hk34z
          try dsimp only at hM
          have hr_ := M.e_pure hM
          exact ⟨_, resE_tmp4 rfl, ⟨0, 0, 0, 9, hr_, rfl, (H.pick [] (by decide) rfl)⟩⟩
         ·replace hM := M.e_f hM c63z
          simp only [decide_eq_true_eq, decide_eq_false_iff_not, beq_iff_eq, bne_iff_ne, beq_eq_false_iff_ne, bne_eq_false_iff_eq, ne_eq, Decidable.not_not] at c63z
          refine W.skip ?_
          refine W.seq ?_
          refine W.region rfl ?_
          refine s_val (x_mv (v := I ((n_Lines.getD (Int.toNat ((walk.getD i2 default).line)) default).dst)) rfl) ?_
          refine s_val (x_as (v := I ((n_Lines.getD (Int.toNat ((walk.getD i2 default).line)) default).dst)) rfl) ?_
          refine s_nil ?_
          refine W.region rfl ?_
          refine s_val (x_mv (v := I sum) rfl) ?_
          refine s_val (x_mv (v := I ((n_Lines.getD (Int.toNat ((walk.getD i2 default).line)) default).rise)) rfl) ?_
          obtain ⟨sd65z, hM⟩ := M.e_grd hM
          simp only [Bool.and_eq_true, decide_eq_true_eq] at sd65z
          refine s_val (x_ari (a := sum) (b := (n_Lines.getD (Int.toNat ((walk.getD i2 default).line)) default).rise) (r := sum + ((n_Lines.getD (Int.toNat ((walk.getD i2 default).line)) default).rise)) rfl rfl rfl (by omega)) ?_
          refine s_val (x_fa (a := .pointer (some ⟨b_2, 0, none⟩)) (v := .pointer (some ⟨b_2, 4, none⟩)) rfl (fa_blk (o := 0) Fd133_4 Sz3)) ?_
          refine s_val (x_ld (p := .pointer (some ⟨b_2, 4, none⟩)) (v := I ((n_Lines.getD (Int.toNat ((walk.getD i2 default).line)) default).err)) rfl (ldb_sc Sc3 (H.blk (k := 0) rfl) rfl)) ?_
          obtain ⟨sd66z, hM⟩ := M.e_grd hM
          simp only [Bool.and_eq_true, decide_eq_true_eq] at sd66z
          refine s_val (x_ari (a := sum + ((n_Lines.getD (Int.toNat ((walk.getD i2 default).line)) default).rise)) (b := (n_Lines.getD (Int.toNat ((walk.getD i2 default).line)) default).err) (r := (sum + ((n_Lines.getD (Int.toNat ((walk.getD i2 default).line)) default).rise)) + ((n_Lines.getD (Int.toNat ((walk.getD i2 default).line)) default).err)) rfl rfl rfl (by omega)) ?_
          refine s_val (x_as (v := I ((sum + ((n_Lines.getD (Int.toNat ((walk.getD i2 default).line)) default).rise)) + ((n_Lines.getD (Int.toNat ((walk.getD i2 default).line)) default).err))) rfl) ?_
          refine s_nil ?_
          refine W.region rfl ?_
          refine s_val (x_mv (v := I (i2 : Int)) rfl) ?_
          refine s_val (x_ari (a := (i2 : Int)) (b := 1) (r := (i2 : Int) + 1) rfl rfl rfl (by omega)) ?_
          refine s_val (x_as (v := I ((i2 : Int) + 1)) rfl) ?_
          refine s_nil ?_
          exact ⟨m38z, lt39z, first, (n_Lines.getD (Int.toNat ((walk.getD i2 default).line)) default).dst, (sum + ((n_Lines.getD (Int.toNat ((walk.getD i2 default).line)) default).rise)) + ((n_Lines.getD (Int.toNat ((walk.getD i2 default).line)) default).err), i2 + 1, _, upds_of _ _ ⟨rfl, rfl, rfl, rfl, rfl, rfl, trivial⟩, M.e_inl hM hN41z, (H.pick [1] (by decide) rfl)⟩
      ·replace hM := M.e_f hM c43z
       simp only [decide_eq_true_eq, decide_eq_false_iff_not, beq_iff_eq, bne_iff_ne, beq_eq_false_iff_ne, bne_eq_false_iff_eq, ne_eq, Decidable.not_not] at c43z
       refine W.exit ?_
       have hX67z := M.e_inr hM hN41z
       subst hX67z
       replace hM := hk34z
       try dsimp only at hM
       refine W.seq ?_
       refine W.region rfl ?_
       refine s_val (x_mv (v := I first) rfl) ?_
       refine s_val (x_mv (v := I last) rfl) ?_
       refine s_val (x_mv (v := I sum) rfl) ?_
       refine s_val (x_as (v := I first) rfl) ?_
       refine s_val (x_as (v := I last) rfl) ?_
       refine s_val (x_as (v := I sum) rfl) ?_
       refine s_val (x_as (v := I 0) rfl) ?_
       refine s_nil ?_
       refine W.ret ?_
       have hr_ := M.e_pure hM
       exact ⟨_, resE_tmp4 rfl, ⟨first, last, sum, 0, hr_, rfl, (H.pick [] (by decide) rfl)⟩⟩

def m_level_Highest_1_F (self_ : (Int × Int × Int × (List Line) × (List Int) × (List Leg)) -> M (List Leg)) : (Int × Int × Int × (List Line) × (List Int) × (List Leg)) -> M (List Leg) := fun (to_, k02, k120, k121, k122, k123) =>
  bif to_ == k02 then (
  M.pure ([]))
  else (
  M.grd (decide ((0 : Int) <= k02) && decide (k02 < (13 : Int))) <|
  M.grd (decide ((0 : Int) <= to_) && decide (to_ < (13 : Int))) <|
  M.bind (m_level_survey_start k120 k121 (k123.getD ((Int.toNat k02) * 13 + (Int.toNat to_)) default)) fun r2 =>
  M.bind (self_ (r2, k02, k120, k121, k122, k123)) fun r3 =>
  M.grd (decide ((r3.length + ([(k123.getD ((Int.toNat k02) * 13 + (Int.toNat to_)) default)]).length) * 16 <= 140737488355328)) <|
  M.pure (r3 ++ ([(k123.getD ((Int.toNat k02) * 13 + (Int.toNat to_)) default)])))
theorem m_level_Highest_1_mon : M.Mon m_level_Highest_1_F := by
  intro n f g h a
  obtain ⟨to_, k02, k120, k121, k122, k123⟩ := a
  simp only [m_level_Highest_1_F]
  repeat' (first | exact M.le_same _ _ | exact h _ | refine M.le_grd ?_ | refine M.le_if ?_ ?_ | refine M.le_bind ?_ (fun x => ?_) | refine M.le_opt ?_ | refine M.le_iter (fun x => ?_) _ | refine m_level_survey_legs_1_le (M.le_yl (fun s_ a_ => ?_)) _ _ _ _ | (rename_i x; cases x) | (rename_i x; obtain ⟨_, _⟩ := x))
def m_level_Highest_1 (to_ : Int) (k02 : Int) (k120 : Int) (k121 : List Line) (k122 : List Int) (k123 : List Leg) : M (List Leg) := M.fix m_level_Highest_1_F m_level_Highest_1_mon (to_, k02, k120, k121, k122, k123)
theorem level_Highest_1_okN (n_ : Nat) : ∀ {R : List Chunk} {b_k0 : Nat} {b_k1 : Nat} {b_k12 : Nat} {C_k121 : Cells} {v_k121 : Value} {b_k2 : Nat} (to_ : Int) (k02 : Int) (k120 : Int) (k121 : List Line) (k122 : List Int) (k123 : List Leg) (h_b_k0 : Has R (cBlk b_k0 [I k02] 3)) (hC_k121 : Reads R C_k121) (hs_k121 : Sl C_k121 v_k121 k121) (hl_k122 : k122.length = 169) (hl_k123 : k123.length = 169) (h_b_k12 : Has R (cBlk b_k12 (List.flatten [[I k120, v_k121], encF (α := Int) k122, encF (α := Leg) k123]) 120)) (h_b_k1 : Has R (cBlk b_k1 [.pointer (some ⟨b_k12, 0, none⟩)] 111)) (h_b_k2 : Has R (cBlk b_k2 [.func (.func 86) #[] #[.pointer (some ⟨b_k0, 0, none⟩), .pointer (some ⟨b_k1, 0, none⟩), .pointer (some ⟨b_k2, 0, none⟩)]] 146)) {r : (List Leg)} (hM : (M.fixN m_level_Highest_1_F n_ (to_, k02, k120, k121, k122, k123)).Ends r) (w : World) (H : St w w [] R), Ret Try.prog 86 #[I to_, .pointer (some ⟨b_k0, 0, none⟩), .pointer (some ⟨b_k1, 0, none⟩), .pointer (some ⟨b_k2, 0, none⟩)] w fun v w' => ∃ (y0 : List Leg) (u0 : Value), y0 = r /\ v = u0 /\ St w w' [cOwn (α := Leg) 91 u0 y0] R := by
  induction n_ with
  | zero => intro R b_k0 b_k1 b_k12 C_k121 v_k121 b_k2 to_ k02 k120 k121 k122 k123 h_b_k0 hC_k121 hs_k121 hl_k122 hl_k123 h_b_k12 h_b_k1 h_b_k2 r hM w H; exact (M.e_fail hM).elim
  | succ n_ ih =>
    intro R b_k0 b_k1 b_k12 C_k121 v_k121 b_k2 to_ k02 k120 k121 k122 k123 h_b_k0 hC_k121 hs_k121 hl_k122 hl_k123 h_b_k12 h_b_k1 h_b_k2 r hM w H
    refine ret_of_W Try.func86 rfl rfl rfl ?_
    refine W.seq ?_
    refine W.region rfl ?_
    refine s_val (x_as (v := .slice none 0 0) rfl) ?_
    refine s_nil ?_
    refine W.seq ?_
    refine W.seq ?_
    refine W.region rfl ?_
    refine s_val (x_mv (v := I to_) rfl) ?_
    refine s_val (x_ld (p := .pointer (some ⟨b_k0, 0, none⟩)) (v := I k02) rfl (ldb_sc Sc3 (h_b_k0.blk H) rfl)) ?_
    refine s_val (x_cmp (kd := .i64) (a := to_) (b := k02) (r := to_ == k02) rfl rfl rfl) ?_
    refine s_nil ?_
    refine W.cond (to_ == k02) rfl (fun c1z => ?_) (fun c1z => ?_)
    ·replace hM := M.e_t hM c1z
     simp only [decide_eq_true_eq, decide_eq_false_iff_not, beq_iff_eq, bne_iff_ne, beq_eq_false_iff_ne, bne_eq_false_iff_eq, ne_eq, Decidable.not_not] at c1z
     refine W.seq ?_
     refine W.region rfl ?_
     refine s_val (x_as (v := .slice none 0 0) rfl) ?_
     refine s_nil ?_
     refine W.ret ?_
     have hr_ := M.e_pure hM
     replace H : St w w [cOwn (α := Leg) 91 (.slice none 0 0) ([])] R := H.nilOwn (α := Leg) 91
     exact ⟨_, resE_tmp rfl, ⟨([]), (.slice none 0 0), hr_, rfl, H⟩⟩
    ·replace hM := M.e_f hM c1z
     simp only [decide_eq_true_eq, decide_eq_false_iff_not, beq_iff_eq, bne_iff_ne, beq_eq_false_iff_ne, bne_eq_false_iff_eq, ne_eq, Decidable.not_not] at c1z
     refine W.skip ?_
     refine W.seq ?_
     refine W.draw (fun W => St w W [] R) [(0, true), (1, true), (2, true), (3, true), (4, true), (5, true), (6, true), (7, true), (8, false), (9, false)] mixed (by decide +kernel) rfl ?_
     intro w2z hx_
     replace H : St w w2z [] R := H.ext hx_
     clear hx_
     refine ⟨(H.pick [] (by decide) rfl), ?_⟩
     refine d_q rfl (fun w' H => x_ld (p := .pointer (some ⟨b_k1, 0, none⟩)) (v := .pointer (some ⟨b_k12, 0, none⟩)) rfl (ldb_sc Sc111 (h_b_k1.blk H) rfl)) ?_
     refine d_q rfl (fun w' H => x_ld (p := .pointer (some ⟨b_k0, 0, none⟩)) (v := I k02) rfl (ldb_sc Sc3 (h_b_k0.blk H) rfl)) ?_
     refine d_q rfl (fun w' H => x_mv (v := I to_) rfl) ?_
     refine d_q rfl (fun w' H => x_nc (a := ⟨b_k12, 0, none⟩) rfl) ?_
     refine d_q rfl (fun w' H => x_fa (a := .pointer (some ⟨b_k12, 0, none⟩)) (v := .pointer (some ⟨b_k12, 171, none⟩)) rfl (fa_blk (o := 0) Fd120_2 Sz118)) ?_
     obtain ⟨sd3z, hM⟩ := M.e_grd hM
     simp only [Bool.and_eq_true, decide_eq_true_eq] at sd3z
     refine d_q rfl (fun w' H => x_ix (a := .pointer (some ⟨b_k12, 171, none⟩)) (b := I k02) (v := .pointer (some ⟨b_k12, 171 + Int.toNat k02 * 26, none⟩)) rfl rfl (run_indexS Try.underlying118 Sz117 (by omega) (by omega))) ?_
     obtain ⟨sd4z, hM⟩ := M.e_grd hM
     simp only [Bool.and_eq_true, decide_eq_true_eq] at sd4z
     refine d_q rfl (fun w' H => x_ix (a := .pointer (some ⟨b_k12, 171 + Int.toNat k02 * 26, none⟩)) (b := I to_) (v := .pointer (some ⟨b_k12, (171 + Int.toNat k02 * 26) + Int.toNat to_ * 2, none⟩)) rfl rfl (run_indexS Try.underlying117 Sz91 (by omega) (by omega))) ?_
     refine d_q rfl (fun w' H => x_ld (p := .pointer (some ⟨b_k12, (171 + Int.toNat k02 * 26) + Int.toNat to_ * 2, none⟩)) (v := .agg #[I ((k123.getD ((Int.toNat k02) * 13 + (Int.toNat to_)) default).line), B ((k123.getD ((Int.toNat k02) * 13 + (Int.toNat to_)) default).back)]) rfl (ldSA (α := Leg) (k := 2) (off := 171) (i := (Int.toNat k02) * 13 + (Int.toNat to_)) (sz := 2) default Ag91 Sz91 (h_b_k12.blk H) rfl (sgo2 hl_k122 rfl) rfl (by have hl_ := hl_k123; omega) (by omega) rfl)) ?_
     refine d_l rfl ?_
     refine t_alloc (cs := [I 0, B false]) H Al91 rfl ?_
     intro b_1 w5z H
     refine s_nil ⟨(H.pick [] (by decide) rfl), ?_⟩
     refine d_l rfl ?_
     refine t_st (k := 0) (b := b_1) (off := 0) (cs := [I 0, B false]) (vs := [I ((k123.getD ((Int.toNat k02) * 13 + (Int.toNat to_)) default).line), B ((k123.getD ((Int.toNat k02) * 13 + (Int.toNat to_)) default).back)]) (cs' := [I ((k123.getD ((Int.toNat k02) * 13 + (Int.toNat to_)) default).line), B ((k123.getD ((Int.toNat k02) * 13 + (Int.toNat to_)) default).back)]) (v := .agg #[I ((k123.getD ((Int.toNat k02) * 13 + (Int.toNat to_)) default).line), B ((k123.getD ((Int.toNat k02) * 13 + (Int.toNat to_)) default).back)]) (L' := [cBlk b_1 [I ((k123.getD ((Int.toNat k02) * 13 + (Int.toNat to_)) default).line), B ((k123.getD ((Int.toNat k02) * 13 + (Int.toNat to_)) default).back)] 91]) H rfl rfl rfl Sz91 rfl rfl rfl rfl rfl rfl ?_
     intro w6z H
     refine s_nil ⟨(H.pick [] (by decide) rfl), ?_⟩
     refine d_nil ?_
     refine W.seq ?_
     refine W.drawT (fun W => St w W [cBlk b_1 [I ((k123.getD ((Int.toNat k02) * 13 + (Int.toNat to_)) default).line), B ((k123.getD ((Int.toNat k02) * 13 + (Int.toNat to_)) default).back)] 91] R) (.q 0 (.q 1 (.q 2 (.q 5 (.l2 3 (.l2 4 (.l 6 (.l 7 (.q 8 .nil))) 6 (.l 4 (.l 7 (.q 8 .nil)))) 6 (.l 3 (.l 4 (.l 7 (.q 8 .nil))))))))) mixed (by decide +kernel) rfl ?_
     intro w7z hx_
     replace H : St w w7z [cBlk b_1 [I ((k123.getD ((Int.toNat k02) * 13 + (Int.toNat to_)) default).line), B ((k123.getD ((Int.toNat k02) * 13 + (Int.toNat to_)) default).back)] 91] R := H.ext hx_
     clear hx_
     refine ⟨(H.pick [0] (by decide) rfl), ?_⟩
     refine t_q rfl (fun w' H => x_ld (p := .pointer (some ⟨b_k2, 0, none⟩)) (v := .func (.func 86) #[] #[.pointer (some ⟨b_k0, 0, none⟩), .pointer (some ⟨b_k1, 0, none⟩), .pointer (some ⟨b_k2, 0, none⟩)]) rfl (ldb_sc Sc146 (h_b_k2.blk H) rfl)) ?_
     refine t_q rfl (fun w' H => x_ld (p := .pointer (some ⟨b_k1, 0, none⟩)) (v := .pointer (some ⟨b_k12, 0, none⟩)) rfl (ldb_sc Sc111 (h_b_k1.blk H) rfl)) ?_
     refine t_q rfl (fun w' H => x_ld (p := .pointer (some ⟨b_1, 0, none⟩)) (v := .agg #[I ((k123.getD ((Int.toNat k02) * 13 + (Int.toNat to_)) default).line), B ((k123.getD ((Int.toNat k02) * 13 + (Int.toNat to_)) default).back)]) rfl (ldb_ag (ds := [I ((k123.getD ((Int.toNat k02) * 13 + (Int.toNat to_)) default).line), B ((k123.getD ((Int.toNat k02) * 13 + (Int.toNat to_)) default).back)]) Ag91 Sz91 (H.blk (k := 0) rfl) rfl rfl)) ?_
     refine t_q rfl (fun w' H => x_ld (p := .pointer (some ⟨b_1, 0, none⟩)) (v := .agg #[I ((k123.getD ((Int.toNat k02) * 13 + (Int.toNat to_)) default).line), B ((k123.getD ((Int.toNat k02) * 13 + (Int.toNat to_)) default).back)]) rfl (ldb_ag (ds := [I ((k123.getD ((Int.toNat k02) * 13 + (Int.toNat to_)) default).line), B ((k123.getD ((Int.toNat k02) * 13 + (Int.toNat to_)) default).back)]) Ag91 Sz91 (H.blk (k := 0) rfl) rfl rfl)) ?_
     refine t_l2 rfl rfl ?_ ?_
     ·skip
      obtain ⟨r28z, hx27z, hM⟩ := M.e_bind hM
      refine s_call cf83 [.pointer (some ⟨b_k12, 0, none⟩), .agg #[I ((k123.getD ((Int.toNat k02) * 13 + (Int.toNat to_)) default).line), B ((k123.getD ((Int.toNat k02) * 13 + (Int.toNat to_)) default).back)]] rfl (level_survey_start_ok k120 k121 (k123.getD ((Int.toNat k02) * 13 + (Int.toNat to_)) default) (hC_k121.app _) hs_k121 (Fld.of (h_b_k12.app _) rfl) hx27z _ (St.give (T := [cBlk b_1 [I ((k123.getD ((Int.toNat k02) * 13 + (Int.toNat to_)) default).line), B ((k123.getD ((Int.toNat k02) * 13 + (Int.toNat to_)) default).back)] 91]) H rfl)) ?_
      rintro vq w29z ⟨r2, hr30z, hvq, H2_⟩
      subst hr30z
      subst vq
      try dsimp only at hM
      replace H : St w w29z [cBlk b_1 [I ((k123.getD ((Int.toNat k02) * 13 + (Int.toNat to_)) default).line), B ((k123.getD ((Int.toNat k02) * 13 + (Int.toNat to_)) default).back)] 91] R := H.back H2_ rfl
      clear H2_
      refine s_nil ⟨(H.pick [0] (by decide) rfl), ?_⟩
      refine t_l2 rfl rfl ?_ ?_
      ·skip
       obtain ⟨r47z, hx46z, hM⟩ := M.e_bind hM
       refine s_callv (f := 86) rfl cf86 [I r2] rfl (ih r2 k02 k120 k121 k122 k123 (h_b_k0.app _) (hC_k121.app _) hs_k121 hl_k122 hl_k123 (h_b_k12.app _) (h_b_k1.app _) (h_b_k2.app _) hx46z _ (St.give (T := [cBlk b_1 [I ((k123.getD ((Int.toNat k02) * 13 + (Int.toNat to_)) default).line), B ((k123.getD ((Int.toNat k02) * 13 + (Int.toNat to_)) default).back)] 91]) H rfl)) ?_
       rintro vq w48z ⟨r3, u0_2, hr49z, hvq, H2_⟩
       subst hr49z
       subst vq
       try dsimp only at hM
       replace H : St w w48z [cOwn (α := Leg) 91 u0_2 r3, cBlk b_1 [I ((k123.getD ((Int.toNat k02) * 13 + (Int.toNat to_)) default).line), B ((k123.getD ((Int.toNat k02) * 13 + (Int.toNat to_)) default).back)] 91] R := H.back H2_ rfl
       clear H2_
       have hvc_q50z := Sl.cells (ownSl (H.get (k := 0) rfl))
       have hvo_q50z := Sl.oc (ownSl (H.get (k := 0) rfl))
       refine s_nil ⟨(H.pick [1] (by decide) rfl), ?_⟩
       refine t_l rfl ?_
       refine t_bs (α := Leg) T88 [.agg #[I ((k123.getD ((Int.toNat k02) * 13 + (Int.toNat to_)) default).line), B ((k123.getD ((Int.toNat k02) * 13 + (Int.toNat to_)) default).back)]] [(k123.getD ((Int.toNat k02) * 13 + (Int.toNat to_)) default)] H rfl (.cons rfl (Flat.rep_enc _ (k123.getD ((Int.toNat k02) * 13 + (Int.toNat to_)) default)) <| .nil) rfl rfl rfl ?_
       intro v51z w52z H
       have hvc_q53z := Sl.cells (ownSl (H.get (k := 0) rfl))
       have hvo_q53z := Sl.oc (ownSl (H.get (k := 0) rfl))
       refine s_nil ⟨(H.pick [2] (by decide) rfl), ?_⟩
       refine t_l rfl ?_
       obtain ⟨sd54z, hM⟩ := M.e_grd hM
       simp only [Bool.and_eq_true, decide_eq_true_eq] at sd54z
       refine t_app (α := Leg) (k := 1) (l := r3) (l2 := [(k123.getD ((Int.toNat k02) * 13 + (Int.toNat to_)) default)]) (l' := r3 ++ ([(k123.getD ((Int.toNat k02) * 13 + (Int.toNat to_)) default)])) (vy := v51z) T88 rfl H rfl rfl rfl (ownSl (H.get (k := 0) rfl)) (ownLe _ (H.get (k := 0) rfl)) (rfl) (by first | omega | (simp only [List.length_nil] at *; omega)) ?_
       intro v55z w56z H
       replace H : St w w56z [cOwn (α := Leg) 91 v51z ([(k123.getD ((Int.toNat k02) * 13 + (Int.toNat to_)) default)]), cOwn (α := Leg) 91 v55z (r3 ++ ([(k123.getD ((Int.toNat k02) * 13 + (Int.toNat to_)) default)])), cBlk b_1 [I ((k123.getD ((Int.toNat k02) * 13 + (Int.toNat to_)) default).line), B ((k123.getD ((Int.toNat k02) * 13 + (Int.toNat to_)) default).back)] 91] R := H
       have hvc_q57z := Sl.cells (ownSl (H.get (k := 1) rfl))
       have hvo_q57z := Sl.oc (ownSl (H.get (k := 1) rfl))
       refine s_nil ⟨(H.pick [2] (by decide) rfl), ?_⟩
       refine t_q rfl (fun w' H => x_as (v := v55z) rfl) ?_
       refine t_nil ?_
       refine W.ret ?_
       have hr_ := M.e_pure hM
       exact ⟨_, resE_tmp rfl, ⟨(r3 ++ ([(k123.getD ((Int.toNat k02) * 13 + (Int.toNat to_)) default)])), v55z, hr_, rfl, (H.pick [1] (by decide) rfl)⟩⟩
      ·skip
       refine t_bs (α := Leg) T88 [.agg #[I ((k123.getD ((Int.toNat k02) * 13 + (Int.toNat to_)) default).line), B ((k123.getD ((Int.toNat k02) * 13 + (Int.toNat to_)) default).back)]] [(k123.getD ((Int.toNat k02) * 13 + (Int.toNat to_)) default)] H rfl (.cons rfl (Flat.rep_enc _ (k123.getD ((Int.toNat k02) * 13 + (Int.toNat to_)) default)) <| .nil) rfl rfl rfl ?_
       intro v58z w59z H
       have hvc_q60z := Sl.cells (ownSl (H.get (k := 0) rfl))
       have hvo_q60z := Sl.oc (ownSl (H.get (k := 0) rfl))
       refine s_nil ⟨(H.pick [1] (by decide) rfl), ?_⟩
       refine t_l rfl ?_
       obtain ⟨r62z, hx61z, hM⟩ := M.e_bind hM
       refine s_callv (f := 86) rfl cf86 [I r2] rfl (ih r2 k02 k120 k121 k122 k123 (h_b_k0.app _) (hC_k121.app _) hs_k121 hl_k122 hl_k123 (h_b_k12.app _) (h_b_k1.app _) (h_b_k2.app _) hx61z _ (St.give (T := [cOwn (α := Leg) 91 v58z ([(k123.getD ((Int.toNat k02) * 13 + (Int.toNat to_)) default)]), cBlk b_1 [I ((k123.getD ((Int.toNat k02) * 13 + (Int.toNat to_)) default).line), B ((k123.getD ((Int.toNat k02) * 13 + (Int.toNat to_)) default).back)] 91]) H rfl)) ?_
       rintro vq w63z ⟨r3, u0_2, hr64z, hvq, H2_⟩
       subst hr64z
       subst vq
       try dsimp only at hM
       replace H : St w w63z [cOwn (α := Leg) 91 u0_2 r3, cOwn (α := Leg) 91 v58z ([(k123.getD ((Int.toNat k02) * 13 + (Int.toNat to_)) default)]), cBlk b_1 [I ((k123.getD ((Int.toNat k02) * 13 + (Int.toNat to_)) default).line), B ((k123.getD ((Int.toNat k02) * 13 + (Int.toNat to_)) default).back)] 91] R := H.back H2_ rfl
       clear H2_
       have hvc_q65z := Sl.cells (ownSl (H.get (k := 0) rfl))
       have hvo_q65z := Sl.oc (ownSl (H.get (k := 0) rfl))
       refine s_nil ⟨(H.pick [2] (by decide) rfl), ?_⟩
       refine t_l rfl ?_
       obtain ⟨sd66z, hM⟩ := M.e_grd hM
       simp only [Bool.and_eq_true, decide_eq_true_eq] at sd66z
       refine t_app (α := Leg) (k := 0) (l := r3) (l2 := [(k123.getD ((Int.toNat k02) * 13 + (Int.toNat to_)) default)]) (l' := r3 ++ ([(k123.getD ((Int.toNat k02) * 13 + (Int.toNat to_)) default)])) (vy := v58z) T88 rfl H rfl rfl rfl (ownSl (H.get (k := 1) rfl)) (ownLe _ (H.get (k := 1) rfl)) (rfl) (by first | omega | (simp only [List.length_nil] at *; omega)) ?_
       intro v67z w68z H
       replace H : St w w68z [cOwn (α := Leg) 91 v67z (r3 ++ ([(k123.getD ((Int.toNat k02) * 13 + (Int.toNat to_)) default)])), cOwn (α := Leg) 91 v58z ([(k123.getD ((Int.toNat k02) * 13 + (Int.toNat to_)) default)]), cBlk b_1 [I ((k123.getD ((Int.toNat k02) * 13 + (Int.toNat to_)) default).line), B ((k123.getD ((Int.toNat k02) * 13 + (Int.toNat to_)) default).back)] 91] R := H
       have hvc_q69z := Sl.cells (ownSl (H.get (k := 0) rfl))
       have hvo_q69z := Sl.oc (ownSl (H.get (k := 0) rfl))
       refine s_nil ⟨(H.pick [2] (by decide) rfl), ?_⟩
       refine t_q rfl (fun w' H => x_as (v := v67z) rfl) ?_
       refine t_nil ?_
       refine W.ret ?_
       have hr_ := M.e_pure hM
       exact ⟨_, resE_tmp rfl, ⟨(r3 ++ ([(k123.getD ((Int.toNat k02) * 13 + (Int.toNat to_)) default)])), v67z, hr_, rfl, (H.pick [0] (by decide) rfl)⟩⟩
     ·skip
      refine t_bs (α := Leg) T88 [.agg #[I ((k123.getD ((Int.toNat k02) * 13 + (Int.toNat to_)) default).line), B ((k123.getD ((Int.toNat k02) * 13 + (Int.toNat to_)) default).back)]] [(k123.getD ((Int.toNat k02) * 13 + (Int.toNat to_)) default)] H rfl (.cons rfl (Flat.rep_enc _ (k123.getD ((Int.toNat k02) * 13 + (Int.toNat to_)) default)) <| .nil) rfl rfl rfl ?_
      intro v70z w71z H
      have hvc_q72z := Sl.cells (ownSl (H.get (k := 0) rfl))
      have hvo_q72z := Sl.oc (ownSl (H.get (k := 0) rfl))
      refine s_nil ⟨(H.pick [1] (by decide) rfl), ?_⟩
      refine t_l rfl ?_
      obtain ⟨r74z, hx73z, hM⟩ := M.e_bind hM
      refine s_call cf83 [.pointer (some ⟨b_k12, 0, none⟩), .agg #[I ((k123.getD ((Int.toNat k02) * 13 + (Int.toNat to_)) default).line), B ((k123.getD ((Int.toNat k02) * 13 + (Int.toNat to_)) default).back)]] rfl (level_survey_start_ok k120 k121 (k123.getD ((Int.toNat k02) * 13 + (Int.toNat to_)) default) (hC_k121.app _) hs_k121 (Fld.of (h_b_k12.app _) rfl) hx73z _ (St.give (T := [cOwn (α := Leg) 91 v70z ([(k123.getD ((Int.toNat k02) * 13 + (Int.toNat to_)) default)]), cBlk b_1 [I ((k123.getD ((Int.toNat k02) * 13 + (Int.toNat to_)) default).line), B ((k123.getD ((Int.toNat k02) * 13 + (Int.toNat to_)) default).back)] 91]) H rfl)) ?_
      rintro vq w75z ⟨r2, hr76z, hvq, H2_⟩
      subst hr76z
      subst vq
      try dsimp only at hM
      replace H : St w w75z [cOwn (α := Leg) 91 v70z ([(k123.getD ((Int.toNat k02) * 13 + (Int.toNat to_)) default)]), cBlk b_1 [I ((k123.getD ((Int.toNat k02) * 13 + (Int.toNat to_)) default).line), B ((k123.getD ((Int.toNat k02) * 13 + (Int.toNat to_)) default).back)] 91] R := H.back H2_ rfl
      clear H2_
      refine s_nil ⟨(H.pick [1] (by decide) rfl), ?_⟩
      refine t_l rfl ?_
      obtain ⟨r78z, hx77z, hM⟩ := M.e_bind hM
      refine s_callv (f := 86) rfl cf86 [I r2] rfl (ih r2 k02 k120 k121 k122 k123 (h_b_k0.app _) (hC_k121.app _) hs_k121 hl_k122 hl_k123 (h_b_k12.app _) (h_b_k1.app _) (h_b_k2.app _) hx77z _ (St.give (T := [cOwn (α := Leg) 91 v70z ([(k123.getD ((Int.toNat k02) * 13 + (Int.toNat to_)) default)]), cBlk b_1 [I ((k123.getD ((Int.toNat k02) * 13 + (Int.toNat to_)) default).line), B ((k123.getD ((Int.toNat k02) * 13 + (Int.toNat to_)) default).back)] 91]) H rfl)) ?_
      rintro vq w79z ⟨r3, u0_2, hr80z, hvq, H2_⟩
      subst hr80z
      subst vq
      try dsimp only at hM
      replace H : St w w79z [cOwn (α := Leg) 91 u0_2 r3, cOwn (α := Leg) 91 v70z ([(k123.getD ((Int.toNat k02) * 13 + (Int.toNat to_)) default)]), cBlk b_1 [I ((k123.getD ((Int.toNat k02) * 13 + (Int.toNat to_)) default).line), B ((k123.getD ((Int.toNat k02) * 13 + (Int.toNat to_)) default).back)] 91] R := H.back H2_ rfl
      clear H2_
      have hvc_q81z := Sl.cells (ownSl (H.get (k := 0) rfl))
      have hvo_q81z := Sl.oc (ownSl (H.get (k := 0) rfl))
      refine s_nil ⟨(H.pick [2] (by decide) rfl), ?_⟩
      refine t_l rfl ?_
      obtain ⟨sd82z, hM⟩ := M.e_grd hM
      simp only [Bool.and_eq_true, decide_eq_true_eq] at sd82z
      refine t_app (α := Leg) (k := 0) (l := r3) (l2 := [(k123.getD ((Int.toNat k02) * 13 + (Int.toNat to_)) default)]) (l' := r3 ++ ([(k123.getD ((Int.toNat k02) * 13 + (Int.toNat to_)) default)])) (vy := v70z) T88 rfl H rfl rfl rfl (ownSl (H.get (k := 1) rfl)) (ownLe _ (H.get (k := 1) rfl)) (rfl) (by first | omega | (simp only [List.length_nil] at *; omega)) ?_
      intro v83z w84z H
      replace H : St w w84z [cOwn (α := Leg) 91 v83z (r3 ++ ([(k123.getD ((Int.toNat k02) * 13 + (Int.toNat to_)) default)])), cOwn (α := Leg) 91 v70z ([(k123.getD ((Int.toNat k02) * 13 + (Int.toNat to_)) default)]), cBlk b_1 [I ((k123.getD ((Int.toNat k02) * 13 + (Int.toNat to_)) default).line), B ((k123.getD ((Int.toNat k02) * 13 + (Int.toNat to_)) default).back)] 91] R := H
      have hvc_q85z := Sl.cells (ownSl (H.get (k := 0) rfl))
      have hvo_q85z := Sl.oc (ownSl (H.get (k := 0) rfl))
      refine s_nil ⟨(H.pick [2] (by decide) rfl), ?_⟩
      refine t_q rfl (fun w' H => x_as (v := v83z) rfl) ?_
      refine t_nil ?_
      refine W.ret ?_
      have hr_ := M.e_pure hM
      exact ⟨_, resE_tmp rfl, ⟨(r3 ++ ([(k123.getD ((Int.toNat k02) * 13 + (Int.toNat to_)) default)])), v83z, hr_, rfl, (H.pick [0] (by decide) rfl)⟩⟩
theorem level_Highest_1_ok {R : List Chunk} {b_k0 : Nat} {b_k1 : Nat} {b_k12 : Nat} {C_k121 : Cells} {v_k121 : Value} {b_k2 : Nat} (to_ : Int) (k02 : Int) (k120 : Int) (k121 : List Line) (k122 : List Int) (k123 : List Leg) (h_b_k0 : Has R (cBlk b_k0 [I k02] 3)) (hC_k121 : Reads R C_k121) (hs_k121 : Sl C_k121 v_k121 k121) (hl_k122 : k122.length = 169) (hl_k123 : k123.length = 169) (h_b_k12 : Has R (cBlk b_k12 (List.flatten [[I k120, v_k121], encF (α := Int) k122, encF (α := Leg) k123]) 120)) (h_b_k1 : Has R (cBlk b_k1 [.pointer (some ⟨b_k12, 0, none⟩)] 111)) (h_b_k2 : Has R (cBlk b_k2 [.func (.func 86) #[] #[.pointer (some ⟨b_k0, 0, none⟩), .pointer (some ⟨b_k1, 0, none⟩), .pointer (some ⟨b_k2, 0, none⟩)]] 146)) {r : (List Leg)} (hM : (m_level_Highest_1 to_ k02 k120 k121 k122 k123).Ends r) (w : World) (H : St w w [] R) : Ret Try.prog 86 #[I to_, .pointer (some ⟨b_k0, 0, none⟩), .pointer (some ⟨b_k1, 0, none⟩), .pointer (some ⟨b_k2, 0, none⟩)] w fun v w' => ∃ (y0 : List Leg) (u0 : Value), y0 = r /\ v = u0 /\ St w w' [cOwn (α := Leg) 91 u0 y0] R := by
  obtain ⟨n_, hM⟩ := M.e_fix hM
  exact level_Highest_1_okN n_ to_ k02 k120 k121 k122 k123 h_b_k0 hC_k121 hs_k121 hl_k122 hl_k123 h_b_k12 h_b_k1 h_b_k2 hM w H

def m_level_Highest (n_Marks : Int) (n_Lines : List Line) (from_ : Int) (to_ : Int) : M ((List Leg) × Int) :=
  M.bind (m_level_asked n_Marks n_Lines from_ to_ false) fun x_ => match x_ with
  | (.inl r1) => (
  bif r1 != 0 then (
  M.pure (([]), r1))
  else (
  M.fail))
  | (.inr (r00, r02, r03, r12)) => (
  bif r12 != 0 then (
  M.pure (([]), r12))
  else (
  M.bind (m_level_Highest_1 to_ from_ r00 n_Lines r02 r03) fun r2 =>
  M.pure (r2, 0)))
theorem level_Highest_ok {R : List Chunk} {C_n_Lines : Cells} {v_n_Lines : Value} (n_Marks : Int) (n_Lines : List Line) (from_ : Int) (to_ : Int) (hC_n_Lines : Reads R C_n_Lines) (hs_n_Lines : Sl C_n_Lines v_n_Lines n_Lines) {r : ((List Leg) × Int)} (hM : (m_level_Highest n_Marks n_Lines from_ to_).Ends r) (w : World) (H : St w w [] R) : Ret Try.prog 48 #[.agg #[I n_Marks, v_n_Lines], I from_, I to_] w fun v w' => ∃ (y0 : List Leg) (y1 : Int) (u0 : Value), (y0, y1) = r /\ v = .tuple #[u0, I y1] /\ St w w' [cOwn (α := Leg) 91 u0 y0] R := by
 refine ret_of_W Try.func48 rfl rfl rfl ?_
 refine W.seq ?_
 refine W.region rfl ?_
 refine t_box (v := .agg #[I n_Marks, v_n_Lines]) (cs := [I n_Marks, v_n_Lines]) H rfl rfl ?_
 intro b_1 w1z H
 refine t_box (v := I from_) (cs := [I from_]) H rfl rfl ?_
 intro b_2 w2z H
 refine s_val (x_as (v := .slice none 0 0) rfl) ?_
 refine s_val (x_as (v := I 0) rfl) ?_
 refine s_nil ?_
 refine W.seq ?_
 refine W.region rfl ?_
 refine s_val (x_ld (p := .pointer (some ⟨b_1, 0, none⟩)) (v := .agg #[I n_Marks, v_n_Lines]) rfl (ldb_ag (ds := [I n_Marks, v_n_Lines]) Ag25 Sz25 (H.blk (k := 1) rfl) rfl rfl)) ?_
 refine s_val (x_ld (p := .pointer (some ⟨b_2, 0, none⟩)) (v := I from_) rfl (ldb_sc Sc3 (H.blk (k := 0) rfl) rfl)) ?_
 refine s_val (x_mv (v := I to_) rfl) ?_
 obtain ⟨r4z, hx3z, hM⟩ := M.e_bind hM
 refine s_call cf56 [.agg #[I n_Marks, v_n_Lines], I from_, I to_, B false] rfl (level_asked_ok n_Marks n_Lines from_ to_ false (hC_n_Lines.app _) hs_n_Lines hx3z _ (St.give (T := [cBlk b_2 [I from_] 3, cBlk b_1 [I n_Marks, v_n_Lines] 25]) H rfl)) ?_
 rintro vq w5z (⟨r1, hr6z, hvq, H2_⟩ | ⟨r00, r02, r03, r12, nb0_3, hr7z, hvq, H2_, hf8z, hf9z⟩)
 ·subst hr6z
  subst vq
  try dsimp only at hM
  replace H : St w w5z [cBlk b_2 [I from_] 3, cBlk b_1 [I n_Marks, v_n_Lines] 25] R := H.back H2_ rfl
  clear H2_
  refine s_val (x_mv (v := .tuple #[.pointer none, I r1]) rfl) ?_
  refine s_val (x_ext (vs := [.pointer none, I r1]) (v := .pointer none) rfl rfl) ?_
  refine s_val (x_ext (vs := [.pointer none, I r1]) (v := I r1) rfl rfl) ?_
  refine t_alloc (cs := [.pointer none]) H Al111 rfl ?_
  intro b_4 w10z H
  refine t_st (k := 0) (b := b_4) (off := 0) (cs := [.pointer none]) (vs := [.pointer none]) (cs' := [.pointer none]) (v := .pointer none) (L' := [cBlk b_4 [.pointer none] 111, cBlk b_2 [I from_] 3, cBlk b_1 [I n_Marks, v_n_Lines] 25]) H rfl rfl rfl Sz111 rfl rfl rfl rfl rfl rfl ?_
  intro w11z H
  refine s_val (x_as (v := I r1) rfl) ?_
  refine s_nil ?_
  refine W.seq ?_
  refine W.seq ?_
  refine W.region rfl ?_
  refine s_val (x_mv (v := I r1) rfl) ?_
  refine s_val (x_cmp (kd := .i64) (a := r1) (b := 0) (r := r1 != 0) rfl rfl rfl) ?_
  refine s_nil ?_
  refine W.cond (r1 != 0) rfl (fun c12z => ?_) (fun c12z => ?_)
  ·replace hM := M.e_t hM c12z
   simp only [decide_eq_true_eq, decide_eq_false_iff_not, beq_iff_eq, bne_iff_ne, beq_eq_false_iff_ne, bne_eq_false_iff_eq, ne_eq, Decidable.not_not] at c12z
   refine W.seq ?_
   refine W.region rfl ?_
   refine s_val (x_mv (v := I r1) rfl) ?_
   refine s_val (x_as (v := .slice none 0 0) rfl) ?_
   refine s_val (x_as (v := I r1) rfl) ?_
   refine s_nil ?_
   refine W.ret ?_
   have hr_ := M.e_pure hM
   replace H : St w w11z [cOwn (α := Leg) 91 (.slice none 0 0) ([]), cBlk b_4 [.pointer none] 111, cBlk b_2 [I from_] 3, cBlk b_1 [I n_Marks, v_n_Lines] 25] R := H.nilOwn (α := Leg) 91
   exact ⟨_, resE_tmp2 rfl, ⟨([]), r1, (.slice none 0 0), hr_, rfl, (H.pick [0] (by decide) rfl)⟩⟩
  ·replace hM := M.e_f hM c12z
   simp only [decide_eq_true_eq, decide_eq_false_iff_not, beq_iff_eq, bne_iff_ne, beq_eq_false_iff_ne, bne_eq_false_iff_eq, ne_eq, Decidable.not_not] at c12z
   refine W.skip ?_
   refine W.seq ?_
   refine W.region rfl ?_
   refine t_alloc (cs := [.nilFunc]) H Al146 rfl ?_
   intro b_5 w13z H
   refine s_nil ?_
   refine W.seq ?_
   refine W.region rfl ?_
   refine s_val (x_mf (fs := []) (cs := [.pointer (some ⟨b_2, 0, none⟩), .pointer (some ⟨b_4, 0, none⟩), .pointer (some ⟨b_5, 0, none⟩)]) rfl rfl) ?_
   refine t_st (k := 0) (b := b_5) (off := 0) (cs := [.nilFunc]) (vs := [.func (.func 86) #[] #[.pointer (some ⟨b_2, 0, none⟩), .pointer (some ⟨b_4, 0, none⟩), .pointer (some ⟨b_5, 0, none⟩)]]) (cs' := [.func (.func 86) #[] #[.pointer (some ⟨b_2, 0, none⟩), .pointer (some ⟨b_4, 0, none⟩), .pointer (some ⟨b_5, 0, none⟩)]]) (v := .func (.func 86) #[] #[.pointer (some ⟨b_2, 0, none⟩), .pointer (some ⟨b_4, 0, none⟩), .pointer (some ⟨b_5, 0, none⟩)]) (L' := [cBlk b_5 [.func (.func 86) #[] #[.pointer (some ⟨b_2, 0, none⟩), .pointer (some ⟨b_4, 0, none⟩), .pointer (some ⟨b_5, 0, none⟩)]] 146, cBlk b_4 [.pointer none] 111, cBlk b_2 [I from_] 3, cBlk b_1 [I n_Marks, v_n_Lines] 25]) H rfl rfl rfl Sz146 rfl rfl rfl rfl rfl rfl ?_
   intro w14z H
   refine s_nil ?_
   refine W.seq ?_
   refine W.region rfl ?_
   refine s_val (x_ld (p := .pointer (some ⟨b_5, 0, none⟩)) (v := .func (.func 86) #[] #[.pointer (some ⟨b_2, 0, none⟩), .pointer (some ⟨b_4, 0, none⟩), .pointer (some ⟨b_5, 0, none⟩)]) rfl (ldb_sc Sc146 (H.blk (k := 0) rfl) rfl)) ?_
   refine s_val (x_mv (v := I to_) rfl) ?_
   exact (M.e_fail hM).elim
 ·subst hr7z
  subst vq
  try dsimp only at hM
  replace H : St w w5z [cBlk nb0_3 (List.flatten [[I r00, v_n_Lines], encF (α := Int) r02, encF (α := Leg) r03]) 120, cBlk b_2 [I from_] 3, cBlk b_1 [I n_Marks, v_n_Lines] 25] R := H.back H2_ rfl
  clear H2_
  refine s_val (x_mv (v := .tuple #[.pointer (some ⟨nb0_3, 0, none⟩), I r12]) rfl) ?_
  refine s_val (x_ext (vs := [.pointer (some ⟨nb0_3, 0, none⟩), I r12]) (v := .pointer (some ⟨nb0_3, 0, none⟩)) rfl rfl) ?_
  refine s_val (x_ext (vs := [.pointer (some ⟨nb0_3, 0, none⟩), I r12]) (v := I r12) rfl rfl) ?_
  refine t_alloc (cs := [.pointer none]) H Al111 rfl ?_
  intro b_4 w15z H
  refine t_st (k := 0) (b := b_4) (off := 0) (cs := [.pointer none]) (vs := [.pointer (some ⟨nb0_3, 0, none⟩)]) (cs' := [.pointer (some ⟨nb0_3, 0, none⟩)]) (v := .pointer (some ⟨nb0_3, 0, none⟩)) (L' := [cBlk b_4 [.pointer (some ⟨nb0_3, 0, none⟩)] 111, cBlk nb0_3 (List.flatten [[I r00, v_n_Lines], encF (α := Int) r02, encF (α := Leg) r03]) 120, cBlk b_2 [I from_] 3, cBlk b_1 [I n_Marks, v_n_Lines] 25]) H rfl rfl rfl Sz111 rfl rfl rfl rfl rfl rfl ?_
  intro w16z H
  refine s_val (x_as (v := I r12) rfl) ?_
  refine s_nil ?_
  refine W.seq ?_
  refine W.seq ?_
  refine W.region rfl ?_
  refine s_val (x_mv (v := I r12) rfl) ?_
  refine s_val (x_cmp (kd := .i64) (a := r12) (b := 0) (r := r12 != 0) rfl rfl rfl) ?_
  refine s_nil ?_
  refine W.cond (r12 != 0) rfl (fun c17z => ?_) (fun c17z => ?_)
  ·replace hM := M.e_t hM c17z
   simp only [decide_eq_true_eq, decide_eq_false_iff_not, beq_iff_eq, bne_iff_ne, beq_eq_false_iff_ne, bne_eq_false_iff_eq, ne_eq, Decidable.not_not] at c17z
   refine W.seq ?_
   refine W.region rfl ?_
   refine s_val (x_mv (v := I r12) rfl) ?_
   refine s_val (x_as (v := .slice none 0 0) rfl) ?_
   refine s_val (x_as (v := I r12) rfl) ?_
   refine s_nil ?_
   refine W.ret ?_
   have hr_ := M.e_pure hM
   replace H : St w w16z [cOwn (α := Leg) 91 (.slice none 0 0) ([]), cBlk b_4 [.pointer (some ⟨nb0_3, 0, none⟩)] 111, cBlk nb0_3 (List.flatten [[I r00, v_n_Lines], encF (α := Int) r02, encF (α := Leg) r03]) 120, cBlk b_2 [I from_] 3, cBlk b_1 [I n_Marks, v_n_Lines] 25] R := H.nilOwn (α := Leg) 91
   exact ⟨_, resE_tmp2 rfl, ⟨([]), r12, (.slice none 0 0), hr_, rfl, (H.pick [0] (by decide) rfl)⟩⟩
  ·replace hM := M.e_f hM c17z
   simp only [decide_eq_true_eq, decide_eq_false_iff_not, beq_iff_eq, bne_iff_ne, beq_eq_false_iff_ne, bne_eq_false_iff_eq, ne_eq, Decidable.not_not] at c17z
   refine W.skip ?_
   refine W.seq ?_
   refine W.region rfl ?_
   refine t_alloc (cs := [.nilFunc]) H Al146 rfl ?_
   intro b_5 w18z H
   refine s_nil ?_
   refine W.seq ?_
   refine W.region rfl ?_
   refine s_val (x_mf (fs := []) (cs := [.pointer (some ⟨b_2, 0, none⟩), .pointer (some ⟨b_4, 0, none⟩), .pointer (some ⟨b_5, 0, none⟩)]) rfl rfl) ?_
   refine t_st (k := 0) (b := b_5) (off := 0) (cs := [.nilFunc]) (vs := [.func (.func 86) #[] #[.pointer (some ⟨b_2, 0, none⟩), .pointer (some ⟨b_4, 0, none⟩), .pointer (some ⟨b_5, 0, none⟩)]]) (cs' := [.func (.func 86) #[] #[.pointer (some ⟨b_2, 0, none⟩), .pointer (some ⟨b_4, 0, none⟩), .pointer (some ⟨b_5, 0, none⟩)]]) (v := .func (.func 86) #[] #[.pointer (some ⟨b_2, 0, none⟩), .pointer (some ⟨b_4, 0, none⟩), .pointer (some ⟨b_5, 0, none⟩)]) (L' := [cBlk b_5 [.func (.func 86) #[] #[.pointer (some ⟨b_2, 0, none⟩), .pointer (some ⟨b_4, 0, none⟩), .pointer (some ⟨b_5, 0, none⟩)]] 146, cBlk b_4 [.pointer (some ⟨nb0_3, 0, none⟩)] 111, cBlk nb0_3 (List.flatten [[I r00, v_n_Lines], encF (α := Int) r02, encF (α := Leg) r03]) 120, cBlk b_2 [I from_] 3, cBlk b_1 [I n_Marks, v_n_Lines] 25]) H rfl rfl rfl Sz146 rfl rfl rfl rfl rfl rfl ?_
   intro w19z H
   refine s_nil ?_
   refine W.seq ?_
   refine W.region rfl ?_
   refine s_val (x_ld (p := .pointer (some ⟨b_5, 0, none⟩)) (v := .func (.func 86) #[] #[.pointer (some ⟨b_2, 0, none⟩), .pointer (some ⟨b_4, 0, none⟩), .pointer (some ⟨b_5, 0, none⟩)]) rfl (ldb_sc Sc146 (H.blk (k := 0) rfl) rfl)) ?_
   refine s_val (x_mv (v := I to_) rfl) ?_
   obtain ⟨r21z, hx20z, hM⟩ := M.e_bind hM
   refine s_callv (f := 86) rfl cf86 [I to_] rfl (level_Highest_1_ok to_ from_ r00 n_Lines r02 r03 (Has.here (k := 3) rfl) (hC_n_Lines.app _) hs_n_Lines hf8z hf9z (Has.here (k := 2) rfl) (Has.here (k := 1) rfl) (Has.here (k := 0) rfl) hx20z _ (St.give (T := [cBlk b_5 [.func (.func 86) #[] #[.pointer (some ⟨b_2, 0, none⟩), .pointer (some ⟨b_4, 0, none⟩), .pointer (some ⟨b_5, 0, none⟩)]] 146, cBlk b_4 [.pointer (some ⟨nb0_3, 0, none⟩)] 111, cBlk nb0_3 (List.flatten [[I r00, v_n_Lines], encF (α := Int) r02, encF (α := Leg) r03]) 120, cBlk b_2 [I from_] 3, cBlk b_1 [I n_Marks, v_n_Lines] 25]) H rfl)) ?_
   rintro vq w22z ⟨r2, u0_6, hr23z, hvq, H2_⟩
   subst hr23z
   subst vq
   try dsimp only at hM
   replace H : St w w22z [cOwn (α := Leg) 91 u0_6 r2, cBlk b_5 [.func (.func 86) #[] #[.pointer (some ⟨b_2, 0, none⟩), .pointer (some ⟨b_4, 0, none⟩), .pointer (some ⟨b_5, 0, none⟩)]] 146, cBlk b_4 [.pointer (some ⟨nb0_3, 0, none⟩)] 111, cBlk nb0_3 (List.flatten [[I r00, v_n_Lines], encF (α := Int) r02, encF (α := Leg) r03]) 120, cBlk b_2 [I from_] 3, cBlk b_1 [I n_Marks, v_n_Lines] 25] R := H.back H2_ rfl
   clear H2_
   refine s_val (x_as (v := u0_6) rfl) ?_
   refine s_val (x_as (v := I 0) rfl) ?_
   refine s_nil ?_
   refine W.ret ?_
   have hr_ := M.e_pure hM
   exact ⟨_, resE_tmp2 rfl, ⟨r2, 0, u0_6, hr_, rfl, (H.pick [0] (by decide) rfl)⟩⟩

def m_nilometerlaw01_twice_b0 (n_Lines : List Line) (l : List Leg) (end_ : Bool) : (Nat × (List Int)) -> M ((Nat × (List Int)) ⊕ ((List Int) ⊕ ((List Int) × (List Int)))) := fun (s, l2) =>
  bif decide ((s : Int) < (l.length : Int)) then (
  M.grd (decide ((s : Int) < (l.length : Int))) <|
  bif ((decide (((l.getD s default).line) < 0)) || (decide ((n_Lines.length : Int) <= ((l.getD s default).line)))) then (
  M.pure (.inr (.inl l2)))
  else (
  M.grd (decide ((0 : Int) <= ((l.getD s default).line)) && decide (((l.getD s default).line) < (n_Lines.length : Int))) <|
  bif (l.getD s default).back then (
  M.grd (decide ((l2.length + ([((n_Lines.getD (Int.toNat ((l.getD s default).line)) default).dst : Int)]).length) * 8 <= 140737488355328)) <|
  bif (((s : Int) == ((l.length : Int) - 1)) && end_) then (
  M.grd (decide (((l2 ++ ([((n_Lines.getD (Int.toNat ((l.getD s default).line)) default).dst : Int)])).length + ([((n_Lines.getD (Int.toNat ((l.getD s default).line)) default).src : Int)]).length) * 8 <= 140737488355328)) <|
  M.pure (.inl (s + 1, (l2 ++ ([((n_Lines.getD (Int.toNat ((l.getD s default).line)) default).dst : Int)])) ++ ([((n_Lines.getD (Int.toNat ((l.getD s default).line)) default).src : Int)]))))
  else (
  M.pure (.inl (s + 1, l2 ++ ([((n_Lines.getD (Int.toNat ((l.getD s default).line)) default).dst : Int)])))))
  else (
  M.grd (decide ((l2.length + ([((n_Lines.getD (Int.toNat ((l.getD s default).line)) default).src : Int)]).length) * 8 <= 140737488355328)) <|
  bif (((s : Int) == ((l.length : Int) - 1)) && end_) then (
  M.grd (decide (((l2 ++ ([((n_Lines.getD (Int.toNat ((l.getD s default).line)) default).src : Int)])).length + ([((n_Lines.getD (Int.toNat ((l.getD s default).line)) default).dst : Int)]).length) * 8 <= 140737488355328)) <|
  M.pure (.inl (s + 1, (l2 ++ ([((n_Lines.getD (Int.toNat ((l.getD s default).line)) default).src : Int)])) ++ ([((n_Lines.getD (Int.toNat ((l.getD s default).line)) default).dst : Int)]))))
  else (
  M.pure (.inl (s + 1, l2 ++ ([((n_Lines.getD (Int.toNat ((l.getD s default).line)) default).src : Int)])))))))
  else (
  M.pure (.inr (.inr (l2, l2))))
def m_nilometerlaw01_twice_b2 (l5 : List Int) (s3 : Nat) : Nat -> M (Nat ⊕ (Unit ⊕ Unit)) := fun s2 =>
  bif decide ((s2 : Int) < (s3 : Int)) then (
  M.grd (decide ((s3 : Int) < (l5.length : Int))) <|
  M.grd (decide ((s2 : Int) < (l5.length : Int))) <|
  bif (l5.getD s3 0) == (l5.getD s2 0) then (
  M.pure (.inr (.inl ())))
  else (
  M.pure (.inl (s2 + 1))))
  else (
  M.pure (.inr (.inr ())))
def m_nilometerlaw01_twice_b3 (l5 : List Int) : Nat -> M (Nat ⊕ (Unit ⊕ Unit)) := fun s3 =>
  bif decide ((s3 : Int) < (l5.length : Int)) then (
  M.bind (M.iter (m_nilometerlaw01_twice_b2 l5 s3) 0) fun x_ => match x_ with
  | (.inl (_ : Unit)) => (
  M.pure (.inr (.inl ())))
  | (.inr (_ : Unit)) => (
  M.pure (.inl (s3 + 1))))
  else (
  M.pure (.inr (.inr ())))
def m_nilometerlaw01_twice (n_Marks : Int) (n_Lines : List Line) (l : List Leg) (end_ : Bool) : M Bool :=
  M.bind (M.iter (m_nilometerlaw01_twice_b0 n_Lines l end_) (0, [])) fun x_ => match x_ with
  | (.inl l3) => (
  M.pure true)
  | (.inr (l4, l5)) => (
  M.bind (M.iter (m_nilometerlaw01_twice_b3 l5) 0) fun x_ => match x_ with
  | (.inl (_ : Unit)) => (
  M.pure true)
  | (.inr (_ : Unit)) => (
  M.pure false))
theorem nilometerlaw01_twice_ok {R : List Chunk} {C_n_Lines : Cells} {v_n_Lines : Value} {C_l : Cells} {v_l : Value} (n_Marks : Int) (n_Lines : List Line) (l : List Leg) (end_ : Bool) (hC_n_Lines : Reads R C_n_Lines) (hs_n_Lines : Sl C_n_Lines v_n_Lines n_Lines) (hC_l : Reads R C_l) (hs_l : Sl C_l v_l l) {r : Bool} (hM : (m_nilometerlaw01_twice n_Marks n_Lines l end_).Ends r) (w : World) (H : St w w [] R) : Ret Try.prog 49 #[.agg #[I n_Marks, v_n_Lines], v_l, B end_] w fun v w' => ∃ (y0 : Bool), y0 = r /\ v = B y0 /\ St w w' [] R := by
 refine ret_of_W Try.func49 rfl rfl rfl ?_
 refine W.seq ?_
 refine W.region rfl ?_
 refine t_box (v := .agg #[I n_Marks, v_n_Lines]) (cs := [I n_Marks, v_n_Lines]) H rfl rfl ?_
 intro b_1 w1z H
 refine s_val (x_as (v := B false) rfl) ?_
 refine s_nil ?_
 refine W.seq ?_
 refine W.region rfl ?_
 refine s_val (x_as (v := .slice none 0 0) rfl) ?_
 refine s_nil ?_
 refine W.seq ?_
 refine W.seq ?_
 refine W.region rfl ?_
 refine s_val (x_mv (v := v_l) rfl) ?_
 have hl2z := (hs_l).len_le
 refine s_val (x_lenS T88.und rfl hs_l) ?_
 refine s_val (x_mv (v := I 0) rfl) ?_
 refine s_nil ?_
 refine W.block ?_
 replace H : St w w1z [cOwn (α := Int) 3 (.slice none 0 0) ([]), cBlk b_1 [I n_Marks, v_n_Lines] 25] R := H.nilOwn (α := Int) 3
 obtain ⟨ex3z, hi4z, hk5z⟩ := M.e_bind hM
 obtain ⟨m0_, hi4z⟩ := M.e_iter hi4z
 refine W.loop (fun m σ W => ∃ (s : Nat) (l2 : List Int) (v_l2 : Value) (ρ : Env), σ = upds ρ [(1, v_l), (2, B end_), (3, .pointer (some ⟨b_1, 0, none⟩)), (7, v_l2), (14, v_l), (15, I (l.length : Int)), (16, I (s : Int))] /\ M.iterN (m_nilometerlaw01_twice_b0 n_Lines l end_) m (s, l2) = some ex3z /\ St w W [cOwn (α := Int) 3 v_l2 l2, cBlk b_1 [I n_Marks, v_n_Lines] 25] R) ?_ ?_
 ·exact ⟨_, 0, [], (.slice none 0 0), _, upds_of _ _ ⟨rfl, rfl, rfl, rfl, rfl, rfl, rfl, trivial⟩, hi4z, H⟩
 ·rintro m8z σ w6z ⟨s, l2, v_l2, ρ, rfl, hI7z, H⟩
  obtain ⟨m9z, lt10z, x11z, hM, hN12z⟩ := M.e_iterN hI7z
  simp only [m_nilometerlaw01_twice_b0] at hM
  clear hI7z
  refine W.seq ?_
  refine W.region rfl ?_
  refine s_val (x_cmp (kd := .i64) (a := (s : Int)) (b := (l.length : Int)) (r := decide ((s : Int) < (l.length : Int))) rfl rfl rfl) ?_
  refine s_nil ?_
  refine W.seq ?_
  refine W.cond (decide ((s : Int) < (l.length : Int))) rfl (fun c13z => ?_) (fun c13z => ?_)
  ·replace hM := M.e_t hM c13z
   simp only [decide_eq_true_eq, decide_eq_false_iff_not, beq_iff_eq, bne_iff_ne, beq_eq_false_iff_ne, bne_eq_false_iff_eq, ne_eq, Decidable.not_not] at c13z
   refine W.skip ?_
   refine W.seq ?_
   refine W.block ?_
   refine W.seq ?_
   refine W.region rfl ?_
   refine s_val (x_mv (v := I (s : Int)) rfl) ?_
   obtain ⟨sd14z, hM⟩ := M.e_grd hM
   simp only [Bool.and_eq_true, decide_eq_true_eq] at sd14z
   refine s_val (x_ix (a := v_l) (b := I (s : Int)) (v := vat v_l 2 (Int.toNat (s : Int))) rfl rfl (Sl.ix (α := Leg) T88.und T88.size hs_l (by omega) (by omega))) ?_
   refine s_val (x_ld (p := vat v_l 2 (Int.toNat (s : Int))) (v := .agg #[I ((l.getD s default).line), B ((l.getD s default).back)]) rfl (ld_ag Ag91 Sz91 (At.mono (Leg_atA hs_l (i := (s : Int)) (by omega) (by omega)) (hC_l.at H)))) ?_
   refine t_alloc (cs := [I 0, B false]) H Al91 rfl ?_
   intro b_2 w15z H
   refine s_val (x_as (v := I (s : Int)) rfl) ?_
   refine t_st (k := 0) (b := b_2) (off := 0) (cs := [I 0, B false]) (vs := [I ((l.getD s default).line), B ((l.getD s default).back)]) (cs' := [I ((l.getD s default).line), B ((l.getD s default).back)]) (v := .agg #[I ((l.getD s default).line), B ((l.getD s default).back)]) (L' := [cBlk b_2 [I ((l.getD s default).line), B ((l.getD s default).back)] 91, cOwn (α := Int) 3 v_l2 l2, cBlk b_1 [I n_Marks, v_n_Lines] 25]) H rfl rfl rfl Sz91 rfl rfl rfl rfl rfl rfl ?_
   intro w16z H
   refine s_nil ?_
   refine W.seq ?_
   refine W.seq ?_
   refine W.region rfl ?_
   refine s_val (x_fa (a := .pointer (some ⟨b_2, 0, none⟩)) (v := .pointer (some ⟨b_2, 0, none⟩)) rfl (fa_blk (o := 0) Fd91_0 Sz3)) ?_
   refine s_val (x_ld (p := .pointer (some ⟨b_2, 0, none⟩)) (v := I ((l.getD s default).line)) rfl (ldb_sc Sc3 (H.blk (k := 0) rfl) rfl)) ?_
   refine s_val (x_cmp (kd := .i64) (a := (l.getD s default).line) (b := 0) (r := decide (((l.getD s default).line) < 0)) rfl rfl rfl) ?_
   refine s_val (x_mv (v := B (decide (((l.getD s default).line) < 0))) rfl) ?_
   refine g_val (!(decide (((l.getD s default).line) < 0))) (gy_f rfl) (fun hg => x_fa (a := .pointer (some ⟨b_2, 0, none⟩)) (v := .pointer (some ⟨b_2, 0, none⟩)) rfl (fa_blk (o := 0) Fd91_0 Sz3)) ?_
   refine g_val (!(decide (((l.getD s default).line) < 0))) (gy_f rfl) (fun hg => x_ld (p := .pointer (some ⟨b_2, 0, none⟩)) (v := I ((l.getD s default).line)) (gd_of (c := !(decide (((l.getD s default).line) < 0))) hg (.pointer (some ⟨b_2, 0, none⟩))) (ldb_sc Sc3 (H.blk (k := 0) rfl) rfl)) ?_
   refine g_val (!(decide (((l.getD s default).line) < 0))) (gy_f rfl) (fun hg => x_fa (a := .pointer (some ⟨b_1, 0, none⟩)) (v := .pointer (some ⟨b_1, 1, none⟩)) rfl (fa_blk (o := 0) Fd25_1 Sz23)) ?_
   refine g_val (!(decide (((l.getD s default).line) < 0))) (gy_f rfl) (fun hg => x_ld (p := .pointer (some ⟨b_1, 1, none⟩)) (v := v_n_Lines) (gd_of (c := !(decide (((l.getD s default).line) < 0))) hg (.pointer (some ⟨b_1, 1, none⟩))) (ldb_sc Sc23 (H.blk (k := 2) rfl) rfl)) ?_
   refine g_val (!(decide (((l.getD s default).line) < 0))) (gy_f rfl) (fun hg => x_lenS T23.und (gd_of (c := !(decide (((l.getD s default).line) < 0))) hg (v_n_Lines)) hs_n_Lines) ?_
   refine g_val (!(decide (((l.getD s default).line) < 0))) (gy_f rfl) (fun hg => x_cmp (kd := .i64) (a := (l.getD s default).line) (b := (n_Lines.length : Int)) (r := decide ((n_Lines.length : Int) <= ((l.getD s default).line))) (gd_of (c := !(decide (((l.getD s default).line) < 0))) hg (I ((l.getD s default).line))) (gd_of (c := !(decide (((l.getD s default).line) < 0))) hg (I (n_Lines.length : Int))) rfl) ?_
   refine s_val (x_por (b := decide (((l.getD s default).line) < 0)) (r := decide ((n_Lines.length : Int) <= ((l.getD s default).line))) rfl rfl (fun hb => gd_of (c := !(decide (((l.getD s default).line) < 0))) (by first | exact hb | (rw [hb]; rfl) | simp_all) (B (decide ((n_Lines.length : Int) <= ((l.getD s default).line)))))) ?_
   refine s_nil ?_
   refine W.cond ((decide (((l.getD s default).line) < 0)) || (decide ((n_Lines.length : Int) <= ((l.getD s default).line)))) rfl (fun c18z => ?_) (fun c18z => ?_)
   ·replace hM := M.e_t hM c18z
    refine W.seq ?_
    refine W.region rfl ?_
    refine s_val (x_as (v := B true) rfl) ?_
    refine s_nil ?_
    refine W.ret ?_
    have hX19z := M.e_inr hM hN12z
    subst hX19z
    replace hM := hk5z
    try dsimp only at hM
    have hr_ := M.e_pure hM
    exact ⟨_, resE_tmp rfl, ⟨true, hr_, rfl, (H.pick [] (by decide) rfl)⟩⟩
   ·replace hM := M.e_f hM c18z
    refine W.skip ?_
    refine W.seq ?_
    refine W.draw (fun W => St w W [cBlk b_2 [I ((l.getD s default).line), B ((l.getD s default).back)] 91, cOwn (α := Int) 3 v_l2 l2, cBlk b_1 [I n_Marks, v_n_Lines] 25] R) [(0, true), (1, true), (2, true), (3, true), (4, true), (5, true), (6, true), (7, true), (8, true), (9, true), (10, true), (11, true), (12, true), (13, true), (14, true), (15, true)] mixed (by decide +kernel) rfl ?_
    intro w20z hx_
    replace H : St w w20z [cBlk b_2 [I ((l.getD s default).line), B ((l.getD s default).back)] 91, cOwn (α := Int) 3 v_l2 l2, cBlk b_1 [I n_Marks, v_n_Lines] 25] R := H.ext hx_
    clear hx_
    refine ⟨(H.pick [0, 1, 2] (by decide) rfl), ?_⟩
    refine d_q rfl (fun w' H => x_fa (a := .pointer (some ⟨b_1, 0, none⟩)) (v := .pointer (some ⟨b_1, 1, none⟩)) rfl (fa_blk (o := 0) Fd25_1 Sz23)) ?_
    refine d_q rfl (fun w' H => x_ld (p := .pointer (some ⟨b_1, 1, none⟩)) (v := v_n_Lines) rfl (ldb_sc Sc23 (H.blk (k := 2) rfl) rfl)) ?_
    refine d_q rfl (fun w' H => x_fa (a := .pointer (some ⟨b_2, 0, none⟩)) (v := .pointer (some ⟨b_2, 0, none⟩)) rfl (fa_blk (o := 0) Fd91_0 Sz3)) ?_
    refine d_q rfl (fun w' H => x_ld (p := .pointer (some ⟨b_2, 0, none⟩)) (v := I ((l.getD s default).line)) rfl (ldb_sc Sc3 (H.blk (k := 0) rfl) rfl)) ?_
    obtain ⟨sd21z, hM⟩ := M.e_grd hM
    simp only [Bool.and_eq_true, decide_eq_true_eq] at sd21z
    refine d_q rfl (fun w' H => x_ix (a := v_n_Lines) (b := I ((l.getD s default).line)) (v := vat v_n_Lines 5 (Int.toNat ((l.getD s default).line))) rfl rfl (Sl.ix (α := Line) T23.und T23.size hs_n_Lines (by omega) (by omega))) ?_
    refine d_q rfl (fun w' H => x_fa (a := vat v_n_Lines 5 (Int.toNat ((l.getD s default).line))) (v := fat (vat v_n_Lines 5 (Int.toNat ((l.getD s default).line))) 0) rfl (fa_pl Fd34_0 Sz3 (Sl.pl (i := (l.getD s default).line) hs_n_Lines (by omega) (by omega)))) ?_
    refine d_q rfl (fun w' H => x_ld (p := fat (vat v_n_Lines 5 (Int.toNat ((l.getD s default).line))) 0) (v := I ((n_Lines.getD (Int.toNat ((l.getD s default).line)) default).src)) rfl (ld_sc Sc3 (At.mono (Line_at0 hs_n_Lines (i := (l.getD s default).line) (by omega) (by omega)) (hC_n_Lines.at H)))) ?_
    refine d_q rfl (fun w' H => x_fa (a := .pointer (some ⟨b_1, 0, none⟩)) (v := .pointer (some ⟨b_1, 1, none⟩)) rfl (fa_blk (o := 0) Fd25_1 Sz23)) ?_
    refine d_q rfl (fun w' H => x_ld (p := .pointer (some ⟨b_1, 1, none⟩)) (v := v_n_Lines) rfl (ldb_sc Sc23 (H.blk (k := 2) rfl) rfl)) ?_
    refine d_q rfl (fun w' H => x_fa (a := .pointer (some ⟨b_2, 0, none⟩)) (v := .pointer (some ⟨b_2, 0, none⟩)) rfl (fa_blk (o := 0) Fd91_0 Sz3)) ?_
    refine d_q rfl (fun w' H => x_ld (p := .pointer (some ⟨b_2, 0, none⟩)) (v := I ((l.getD s default).line)) rfl (ldb_sc Sc3 (H.blk (k := 0) rfl) rfl)) ?_
    refine d_q rfl (fun w' H => x_ix (a := v_n_Lines) (b := I ((l.getD s default).line)) (v := vat v_n_Lines 5 (Int.toNat ((l.getD s default).line))) rfl rfl (Sl.ix (α := Line) T23.und T23.size hs_n_Lines (by omega) (by omega))) ?_
    refine d_q rfl (fun w' H => x_fa (a := vat v_n_Lines 5 (Int.toNat ((l.getD s default).line))) (v := fat (vat v_n_Lines 5 (Int.toNat ((l.getD s default).line))) 1) rfl (fa_pl Fd34_1 Sz3 (Sl.pl (i := (l.getD s default).line) hs_n_Lines (by omega) (by omega)))) ?_
    refine d_q rfl (fun w' H => x_ld (p := fat (vat v_n_Lines 5 (Int.toNat ((l.getD s default).line))) 1) (v := I ((n_Lines.getD (Int.toNat ((l.getD s default).line)) default).dst)) rfl (ld_sc Sc3 (At.mono (Line_at1 hs_n_Lines (i := (l.getD s default).line) (by omega) (by omega)) (hC_n_Lines.at H)))) ?_
    refine d_q rfl (fun w' H => x_as (v := I ((n_Lines.getD (Int.toNat ((l.getD s default).line)) default).src)) rfl) ?_
    refine d_q rfl (fun w' H => x_as (v := I ((n_Lines.getD (Int.toNat ((l.getD s default).line)) default).dst)) rfl) ?_
    refine d_nil ?_
    refine W.seq ?_
    refine W.seq ?_
    refine W.region rfl ?_
    refine s_val (x_fa (a := .pointer (some ⟨b_2, 0, none⟩)) (v := .pointer (some ⟨b_2, 1, none⟩)) rfl (fa_blk (o := 0) Fd91_1 Sz4)) ?_
    refine s_val (x_ld (p := .pointer (some ⟨b_2, 1, none⟩)) (v := B ((l.getD s default).back)) rfl (ldb_sc Sc4 (H.blk (k := 0) rfl) rfl)) ?_
    refine s_nil ?_
    refine W.cond ((l.getD s default).back) rfl (fun c22z => ?_) (fun c22z => ?_)
    ·replace hM := M.e_t hM c22z
     refine W.region rfl ?_
     refine s_val (x_mv (v := I ((n_Lines.getD (Int.toNat ((l.getD s default).line)) default).dst)) rfl) ?_
     refine s_val (x_mv (v := I ((n_Lines.getD (Int.toNat ((l.getD s default).line)) default).src)) rfl) ?_
     refine s_val (x_as (v := I ((n_Lines.getD (Int.toNat ((l.getD s default).line)) default).dst)) rfl) ?_
     refine s_val (x_as (v := I ((n_Lines.getD (Int.toNat ((l.getD s default).line)) default).src)) rfl) ?_
     refine s_nil ?_
     refine W.seq ?_
     refine W.region rfl ?_
     refine s_val (x_mv (v := v_l2) rfl) ?_
     refine s_val (x_mv (v := I ((n_Lines.getD (Int.toNat ((l.getD s default).line)) default).dst)) rfl) ?_
     refine t_bs (α := Int) T26 [I ((n_Lines.getD (Int.toNat ((l.getD s default).line)) default).dst)] [((n_Lines.getD (Int.toNat ((l.getD s default).line)) default).dst : Int)] H rfl (.cons rfl (Flat.rep_enc _ ((n_Lines.getD (Int.toNat ((l.getD s default).line)) default).dst : Int)) <| .nil) rfl rfl rfl ?_
     intro v23z w24z H
     obtain ⟨sd25z, hM⟩ := M.e_grd hM
     simp only [Bool.and_eq_true, decide_eq_true_eq] at sd25z
     refine t_app (α := Int) (k := 2) (l := l2) (l2 := [((n_Lines.getD (Int.toNat ((l.getD s default).line)) default).dst : Int)]) (l' := l2 ++ ([((n_Lines.getD (Int.toNat ((l.getD s default).line)) default).dst : Int)])) (vy := v23z) T26 rfl H rfl rfl rfl (ownSl (H.get (k := 0) rfl)) (ownLe _ (H.get (k := 0) rfl)) (rfl) (by first | omega | (simp only [List.length_nil] at *; omega)) ?_
     intro v26z w27z H
     replace H : St w w27z [cOwn (α := Int) 3 v23z ([((n_Lines.getD (Int.toNat ((l.getD s default).line)) default).dst : Int)]), cBlk b_2 [I ((l.getD s default).line), B ((l.getD s default).back)] 91, cOwn (α := Int) 3 v26z (l2 ++ ([((n_Lines.getD (Int.toNat ((l.getD s default).line)) default).dst : Int)])), cBlk b_1 [I n_Marks, v_n_Lines] 25] R := H
     refine s_val (x_as (v := v26z) rfl) ?_
     refine s_nil ?_
     refine W.seq ?_
     refine W.region rfl ?_
     refine s_val (x_mv (v := I (s : Int)) rfl) ?_
     refine s_val (x_mv (v := v_l) rfl) ?_
     have hl28z := (hs_l).len_le
     refine s_val (x_lenS T88.und rfl hs_l) ?_
     refine s_val (x_ari (a := (l.length : Int)) (b := 1) (r := (l.length : Int) - 1) rfl rfl rfl (by omega)) ?_
     refine s_val (x_cmp (kd := .i64) (a := (s : Int)) (b := (l.length : Int) - 1) (r := (s : Int) == ((l.length : Int) - 1)) rfl rfl rfl) ?_
     refine s_val (x_mv (v := B ((s : Int) == ((l.length : Int) - 1))) rfl) ?_
     refine g_val ((s : Int) == ((l.length : Int) - 1)) (gy_t rfl) (fun hg => x_mv (v := B end_) rfl) ?_
     refine s_val (x_pand (b := (s : Int) == ((l.length : Int) - 1)) (r := end_) rfl (fun hb => gd_of (c := (s : Int) == ((l.length : Int) - 1)) (by first | exact hb | (rw [hb]; rfl) | simp_all) (B end_)) rfl) ?_
     refine s_nil ?_
     refine W.cond (((s : Int) == ((l.length : Int) - 1)) && end_) rfl (fun c29z => ?_) (fun c29z => ?_)
     ·replace hM := M.e_t hM c29z
      refine W.region rfl ?_
      refine s_val (x_mv (v := v26z) rfl) ?_
      refine s_val (x_mv (v := I ((n_Lines.getD (Int.toNat ((l.getD s default).line)) default).src)) rfl) ?_
      refine t_bs (α := Int) T26 [I ((n_Lines.getD (Int.toNat ((l.getD s default).line)) default).src)] [((n_Lines.getD (Int.toNat ((l.getD s default).line)) default).src : Int)] H rfl (.cons rfl (Flat.rep_enc _ ((n_Lines.getD (Int.toNat ((l.getD s default).line)) default).src : Int)) <| .nil) rfl rfl rfl ?_
      intro v30z w31z H
      obtain ⟨sd32z, hM⟩ := M.e_grd hM
      simp only [Bool.and_eq_true, decide_eq_true_eq] at sd32z
      refine t_app (α := Int) (k := 3) (l := l2 ++ ([((n_Lines.getD (Int.toNat ((l.getD s default).line)) default).dst : Int)])) (l2 := [((n_Lines.getD (Int.toNat ((l.getD s default).line)) default).src : Int)]) (l' := (l2 ++ ([((n_Lines.getD (Int.toNat ((l.getD s default).line)) default).dst : Int)])) ++ ([((n_Lines.getD (Int.toNat ((l.getD s default).line)) default).src : Int)])) (vy := v30z) T26 rfl H rfl rfl rfl (ownSl (H.get (k := 0) rfl)) (ownLe _ (H.get (k := 0) rfl)) (rfl) (by first | omega | (simp only [List.length_nil] at *; omega)) ?_
      intro v33z w34z H
      replace H : St w w34z [cOwn (α := Int) 3 v30z ([((n_Lines.getD (Int.toNat ((l.getD s default).line)) default).src : Int)]), cOwn (α := Int) 3 v23z ([((n_Lines.getD (Int.toNat ((l.getD s default).line)) default).dst : Int)]), cBlk b_2 [I ((l.getD s default).line), B ((l.getD s default).back)] 91, cOwn (α := Int) 3 v33z ((l2 ++ ([((n_Lines.getD (Int.toNat ((l.getD s default).line)) default).dst : Int)])) ++ ([((n_Lines.getD (Int.toNat ((l.getD s default).line)) default).src : Int)])), cBlk b_1 [I n_Marks, v_n_Lines] 25] R := H
      refine s_val (x_as (v := v33z) rfl) ?_
      refine s_nil ?_
      refine W.region rfl ?_
      refine s_val (x_ari (a := (s : Int)) (b := 1) (r := (s : Int) + 1) rfl rfl rfl (by omega)) ?_
      refine s_val (x_mv (v := I ((s : Int) + 1)) rfl) ?_
      refine s_nil ?_
      exact ⟨m9z, lt10z, s + 1, (l2 ++ ([((n_Lines.getD (Int.toNat ((l.getD s default).line)) default).dst : Int)])) ++ ([((n_Lines.getD (Int.toNat ((l.getD s default).line)) default).src : Int)]), v33z, _, upds_of _ _ ⟨rfl, rfl, rfl, rfl, rfl, rfl, rfl, trivial⟩, M.e_inl hM hN12z, (H.pick [3, 4] (by decide) rfl)⟩
     ·replace hM := M.e_f hM c29z
      refine W.skip ?_
      refine W.region rfl ?_
      refine s_val (x_ari (a := (s : Int)) (b := 1) (r := (s : Int) + 1) rfl rfl rfl (by omega)) ?_
      refine s_val (x_mv (v := I ((s : Int) + 1)) rfl) ?_
      refine s_nil ?_
      exact ⟨m9z, lt10z, s + 1, l2 ++ ([((n_Lines.getD (Int.toNat ((l.getD s default).line)) default).dst : Int)]), v26z, _, upds_of _ _ ⟨rfl, rfl, rfl, rfl, rfl, rfl, rfl, trivial⟩, M.e_inl hM hN12z, (H.pick [2, 3] (by decide) rfl)⟩
    ·replace hM := M.e_f hM c22z
     refine W.skip ?_
     refine W.seq ?_
     refine W.region rfl ?_
     refine s_val (x_mv (v := v_l2) rfl) ?_
     refine s_val (x_mv (v := I ((n_Lines.getD (Int.toNat ((l.getD s default).line)) default).src)) rfl) ?_
     refine t_bs (α := Int) T26 [I ((n_Lines.getD (Int.toNat ((l.getD s default).line)) default).src)] [((n_Lines.getD (Int.toNat ((l.getD s default).line)) default).src : Int)] H rfl (.cons rfl (Flat.rep_enc _ ((n_Lines.getD (Int.toNat ((l.getD s default).line)) default).src : Int)) <| .nil) rfl rfl rfl ?_
     intro v35z w36z H
     obtain ⟨sd37z, hM⟩ := M.e_grd hM
     simp only [Bool.and_eq_true, decide_eq_true_eq] at sd37z
     refine t_app (α := Int) (k := 2) (l := l2) (l2 := [((n_Lines.getD (Int.toNat ((l.getD s default).line)) default).src : Int)]) (l' := l2 ++ ([((n_Lines.getD (Int.toNat ((l.getD s default).line)) default).src : Int)])) (vy := v35z) T26 rfl H rfl rfl rfl (ownSl (H.get (k := 0) rfl)) (ownLe _ (H.get (k := 0) rfl)) (rfl) (by first | omega | (simp only [List.length_nil] at *; omega)) ?_
     intro v38z w39z H
     replace H : St w w39z [cOwn (α := Int) 3 v35z ([((n_Lines.getD (Int.toNat ((l.getD s default).line)) default).src : Int)]), cBlk b_2 [I ((l.getD s default).line), B ((l.getD s default).back)] 91, cOwn (α := Int) 3 v38z (l2 ++ ([((n_Lines.getD (Int.toNat ((l.getD s default).line)) default).src : Int)])), cBlk b_1 [I n_Marks, v_n_Lines] 25] R := H
     refine s_val (x_as (v := v38z) rfl) ?_
     refine s_nil ?_
     refine W.seq ?_
     refine W.region rfl ?_
     refine s_val (x_mv (v := I (s : Int)) rfl) ?_
     refine s_val (x_mv (v := v_l) rfl) ?_
     have hl40z := (hs_l).len_le
     refine s_val (x_lenS T88.und rfl hs_l) ?_
     refine s_val (x_ari (a := (l.length : Int)) (b := 1) (r := (l.length : Int) - 1) rfl rfl rfl (by omega)) ?_
     refine s_val (x_cmp (kd := .i64) (a := (s : Int)) (b := (l.length : Int) - 1) (r := (s : Int) == ((l.length : Int) - 1)) rfl rfl rfl) ?_
     refine s_val (x_mv (v := B ((s : Int) == ((l.length : Int) - 1))) rfl) ?_
     refine g_val ((s : Int) == ((l.length : Int) - 1)) (gy_t rfl) (fun hg => x_mv (v := B end_) rfl) ?_
     refine s_val (x_pand (b := (s : Int) == ((l.length : Int) - 1)) (r := end_) rfl (fun hb => gd_of (c := (s : Int) == ((l.length : Int) - 1)) (by first | exact hb | (rw [hb]; rfl) | simp_all) (B end_)) rfl) ?_
     refine s_nil ?_
     refine W.cond (((s : Int) == ((l.length : Int) - 1)) && end_) rfl (fun c41z => ?_) (fun c41z => ?_)
     ·replace hM := M.e_t hM c41z
      refine W.region rfl ?_
      refine s_val (x_mv (v := v38z) rfl) ?_
      refine s_val (x_mv (v := I ((n_Lines.getD (Int.toNat ((l.getD s default).line)) default).dst)) rfl) ?_
      refine t_bs (α := Int) T26 [I ((n_Lines.getD (Int.toNat ((l.getD s default).line)) default).dst)] [((n_Lines.getD (Int.toNat ((l.getD s default).line)) default).dst : Int)] H rfl (.cons rfl (Flat.rep_enc _ ((n_Lines.getD (Int.toNat ((l.getD s default).line)) default).dst : Int)) <| .nil) rfl rfl rfl ?_
      intro v42z w43z H
      obtain ⟨sd44z, hM⟩ := M.e_grd hM
      simp only [Bool.and_eq_true, decide_eq_true_eq] at sd44z
      refine t_app (α := Int) (k := 3) (l := l2 ++ ([((n_Lines.getD (Int.toNat ((l.getD s default).line)) default).src : Int)])) (l2 := [((n_Lines.getD (Int.toNat ((l.getD s default).line)) default).dst : Int)]) (l' := (l2 ++ ([((n_Lines.getD (Int.toNat ((l.getD s default).line)) default).src : Int)])) ++ ([((n_Lines.getD (Int.toNat ((l.getD s default).line)) default).dst : Int)])) (vy := v42z) T26 rfl H rfl rfl rfl (ownSl (H.get (k := 0) rfl)) (ownLe _ (H.get (k := 0) rfl)) (rfl) (by first | omega | (simp only [List.length_nil] at *; omega)) ?_
      intro v45z w46z H
      replace H : St w w46z [cOwn (α := Int) 3 v42z ([((n_Lines.getD (Int.toNat ((l.getD s default).line)) default).dst : Int)]), cOwn (α := Int) 3 v35z ([((n_Lines.getD (Int.toNat ((l.getD s default).line)) default).src : Int)]), cBlk b_2 [I ((l.getD s default).line), B ((l.getD s default).back)] 91, cOwn (α := Int) 3 v45z ((l2 ++ ([((n_Lines.getD (Int.toNat ((l.getD s default).line)) default).src : Int)])) ++ ([((n_Lines.getD (Int.toNat ((l.getD s default).line)) default).dst : Int)])), cBlk b_1 [I n_Marks, v_n_Lines] 25] R := H
      refine s_val (x_as (v := v45z) rfl) ?_
      refine s_nil ?_
      refine W.region rfl ?_
      refine s_val (x_ari (a := (s : Int)) (b := 1) (r := (s : Int) + 1) rfl rfl rfl (by omega)) ?_
      refine s_val (x_mv (v := I ((s : Int) + 1)) rfl) ?_
      refine s_nil ?_
      exact ⟨m9z, lt10z, s + 1, (l2 ++ ([((n_Lines.getD (Int.toNat ((l.getD s default).line)) default).src : Int)])) ++ ([((n_Lines.getD (Int.toNat ((l.getD s default).line)) default).dst : Int)]), v45z, _, upds_of _ _ ⟨rfl, rfl, rfl, rfl, rfl, rfl, rfl, trivial⟩, M.e_inl hM hN12z, (H.pick [3, 4] (by decide) rfl)⟩
     ·replace hM := M.e_f hM c41z
      refine W.skip ?_
      refine W.region rfl ?_
      refine s_val (x_ari (a := (s : Int)) (b := 1) (r := (s : Int) + 1) rfl rfl rfl (by omega)) ?_
      refine s_val (x_mv (v := I ((s : Int) + 1)) rfl) ?_
      refine s_nil ?_
      exact ⟨m9z, lt10z, s + 1, l2 ++ ([((n_Lines.getD (Int.toNat ((l.getD s default).line)) default).src : Int)]), v38z, _, upds_of _ _ ⟨rfl, rfl, rfl, rfl, rfl, rfl, rfl, trivial⟩, M.e_inl hM hN12z, (H.pick [2, 3] (by decide) rfl)⟩
  ·replace hM := M.e_f hM c13z
   simp only [decide_eq_true_eq, decide_eq_false_iff_not, beq_iff_eq, bne_iff_ne, beq_eq_false_iff_ne, bne_eq_false_iff_eq, ne_eq, Decidable.not_not] at c13z
   refine W.exit ?_
   have hX47z := M.e_inr hM hN12z
   subst hX47z
   replace hM := hk5z
   try dsimp only at hM
   refine W.seq ?_
   refine W.seq ?_
   refine W.region rfl ?_
   refine s_val (x_mv (v := v_l2) rfl) ?_
   have hl48z := ((ownSl (H.get (k := 0) rfl))).len_le
   refine s_val (x_lenS T26.und rfl (ownSl (H.get (k := 0) rfl))) ?_
   refine s_val (x_mv (v := I 0) rfl) ?_
   refine s_nil ?_
   refine W.block ?_
   obtain ⟨ex49z, hi50z, hk51z⟩ := M.e_bind hM
   obtain ⟨m0_, hi50z⟩ := M.e_iter hi50z
   refine W.loop (fun m σ W => ∃ (s3 : Nat) (ρ : Env), σ = upds ρ [(7, v_l2), (68, I (l2.length : Int)), (69, I (s3 : Int))] /\ M.iterN (m_nilometerlaw01_twice_b3 l2) m s3 = some ex49z /\ St w W [cOwn (α := Int) 3 v_l2 l2, cBlk b_1 [I n_Marks, v_n_Lines] 25] R) ?_ ?_
   ·exact ⟨_, 0, _, upds_of _ _ ⟨rfl, rfl, rfl, trivial⟩, hi50z, H⟩
   ·rintro m54z σ w52z ⟨s3, ρ, rfl, hI53z, H⟩
    obtain ⟨m55z, lt56z, x57z, hM, hN58z⟩ := M.e_iterN hI53z
    simp only [m_nilometerlaw01_twice_b3] at hM
    clear hI53z
    refine W.seq ?_
    refine W.region rfl ?_
    refine s_val (x_cmp (kd := .i64) (a := (s3 : Int)) (b := (l2.length : Int)) (r := decide ((s3 : Int) < (l2.length : Int))) rfl rfl rfl) ?_
    refine s_nil ?_
    refine W.seq ?_
    refine W.cond (decide ((s3 : Int) < (l2.length : Int))) rfl (fun c59z => ?_) (fun c59z => ?_)
    ·replace hM := M.e_t hM c59z
     simp only [decide_eq_true_eq, decide_eq_false_iff_not, beq_iff_eq, bne_iff_ne, beq_eq_false_iff_ne, bne_eq_false_iff_eq, ne_eq, Decidable.not_not] at c59z
     refine W.skip ?_
     refine W.seq ?_
     refine W.block ?_
     refine W.seq ?_
     refine W.region rfl ?_
     refine s_val (x_mv (v := I (s3 : Int)) rfl) ?_
     refine s_val (x_as (v := I (s3 : Int)) rfl) ?_
     refine s_nil ?_
     refine W.seq ?_
     refine W.region rfl ?_
     refine s_val (x_mv (v := I (s3 : Int)) rfl) ?_
     refine s_val (x_mv (v := I 0) rfl) ?_
     refine s_nil ?_
     refine W.block ?_
     obtain ⟨ex60z, hi61z, hk62z⟩ := M.e_bind hM
     obtain ⟨m0_, hi61z⟩ := M.e_iter hi61z
     refine W.loop (fun m σ W => ∃ (s2 : Nat) (ρ : Env), σ = upds ρ [(7, v_l2), (12, I (s3 : Int)), (68, I (l2.length : Int)), (69, I (s3 : Int)), (72, I (s3 : Int)), (73, I (s2 : Int))] /\ M.iterN (m_nilometerlaw01_twice_b2 l2 s3) m s2 = some ex60z /\ St w W [cOwn (α := Int) 3 v_l2 l2, cBlk b_1 [I n_Marks, v_n_Lines] 25] R) ?_ ?_
     ·exact ⟨_, 0, _, upds_of _ _ ⟨rfl, rfl, rfl, rfl, rfl, rfl, trivial⟩, hi61z, H⟩
     ·rintro m65z σ w63z ⟨s2, ρ, rfl, hI64z, H⟩
      obtain ⟨m66z, lt67z, x68z, hM, hN69z⟩ := M.e_iterN hI64z
      simp only [m_nilometerlaw01_twice_b2] at hM
      clear hI64z
      refine W.seq ?_
      refine W.region rfl ?_
      refine s_val (x_cmp (kd := .i64) (a := (s2 : Int)) (b := (s3 : Int)) (r := decide ((s2 : Int) < (s3 : Int))) rfl rfl rfl) ?_
      refine s_nil ?_
      refine W.seq ?_
      refine W.cond (decide ((s2 : Int) < (s3 : Int))) rfl (fun c70z => ?_) (fun c70z => ?_)
      ·replace hM := M.e_t hM c70z
       simp only [decide_eq_true_eq, decide_eq_false_iff_not, beq_iff_eq, bne_iff_ne, beq_eq_false_iff_ne, bne_eq_false_iff_eq, ne_eq, Decidable.not_not] at c70z
       refine W.skip ?_
       refine W.seq ?_
       refine W.block ?_
       refine W.seq ?_
       refine W.region rfl ?_
       refine s_val (x_mv (v := I (s2 : Int)) rfl) ?_
       refine s_val (x_as (v := I (s2 : Int)) rfl) ?_
       refine s_nil ?_
       refine W.seq ?_
       refine W.draw (fun W => St w W [cOwn (α := Int) 3 v_l2 l2, cBlk b_1 [I n_Marks, v_n_Lines] 25] R) [(0, true), (1, true), (2, true), (3, true), (4, true), (5, true), (6, true), (7, true), (8, true)] mixed (by decide +kernel) rfl ?_
       intro w71z hx_
       replace H : St w w71z [cOwn (α := Int) 3 v_l2 l2, cBlk b_1 [I n_Marks, v_n_Lines] 25] R := H.ext hx_
       clear hx_
       refine ⟨(H.pick [0, 1] (by decide) rfl), ?_⟩
       refine d_q rfl (fun w' H => x_mv (v := v_l2) rfl) ?_
       refine d_q rfl (fun w' H => x_mv (v := I (s3 : Int)) rfl) ?_
       obtain ⟨sd72z, hM⟩ := M.e_grd hM
       simp only [Bool.and_eq_true, decide_eq_true_eq] at sd72z
       refine d_q rfl (fun w' H => x_ix (a := v_l2) (b := I (s3 : Int)) (v := vat v_l2 1 (Int.toNat (s3 : Int))) rfl rfl (Sl.ix (α := Int) T26.und T26.size (ownSl (H.get (k := 0) rfl)) (by omega) (by omega))) ?_
       refine d_q rfl (fun w' H => x_ld (p := vat v_l2 1 (Int.toNat (s3 : Int))) (v := I (l2.getD s3 0)) rfl (ld_sc Sc3 (At.mono (Int_at (ownSl (H.get (k := 0) rfl)) (i := (s3 : Int)) (by omega) (by omega)) (ownLe _ (H.get (k := 0) rfl))))) ?_
       refine d_q rfl (fun w' H => x_mv (v := v_l2) rfl) ?_
       refine d_q rfl (fun w' H => x_mv (v := I (s2 : Int)) rfl) ?_
       obtain ⟨sd73z, hM⟩ := M.e_grd hM
       simp only [Bool.and_eq_true, decide_eq_true_eq] at sd73z
       refine d_q rfl (fun w' H => x_ix (a := v_l2) (b := I (s2 : Int)) (v := vat v_l2 1 (Int.toNat (s2 : Int))) rfl rfl (Sl.ix (α := Int) T26.und T26.size (ownSl (H.get (k := 0) rfl)) (by omega) (by omega))) ?_
       refine d_q rfl (fun w' H => x_ld (p := vat v_l2 1 (Int.toNat (s2 : Int))) (v := I (l2.getD s2 0)) rfl (ld_sc Sc3 (At.mono (Int_at (ownSl (H.get (k := 0) rfl)) (i := (s2 : Int)) (by omega) (by omega)) (ownLe _ (H.get (k := 0) rfl))))) ?_
       refine d_q rfl (fun w' H => x_cmp (kd := .i64) (a := l2.getD s3 0) (b := l2.getD s2 0) (r := (l2.getD s3 0) == (l2.getD s2 0)) rfl rfl rfl) ?_
       refine d_nil ?_
       refine W.cond ((l2.getD s3 0) == (l2.getD s2 0)) rfl (fun c74z => ?_) (fun c74z => ?_)
       ·replace hM := M.e_t hM c74z
        simp only [decide_eq_true_eq, decide_eq_false_iff_not, beq_iff_eq, bne_iff_ne, beq_eq_false_iff_ne, bne_eq_false_iff_eq, ne_eq, Decidable.not_not] at c74z
        refine W.seq ?_
        refine W.region rfl ?_
        refine s_val (x_as (v := B true) rfl) ?_
        refine s_nil ?_
        refine W.ret ?_
        have hX75z := M.e_inr hM hN69z
        subst hX75z
        replace hM := hk62z
        try dsimp only at hM
        have hX76z := M.e_inr hM hN58z
        subst hX76z
        replace hM := hk51z
        try dsimp only at hM
        have hr_ := M.e_pure hM
        exact ⟨_, resE_tmp rfl, ⟨true, hr_, rfl, (H.pick [] (by decide) rfl)⟩⟩
       ·replace hM := M.e_f hM c74z
        simp only [decide_eq_true_eq, decide_eq_false_iff_not, beq_iff_eq, bne_iff_ne, beq_eq_false_iff_ne, bne_eq_false_iff_eq, ne_eq, Decidable.not_not] at c74z
        refine W.skip ?_
        refine W.region rfl ?_
        refine s_val (x_ari (a := (s2 : Int)) (b := 1) (r := (s2 : Int) + 1) rfl rfl rfl (by omega)) ?_
        refine s_val (x_mv (v := I ((s2 : Int) + 1)) rfl) ?_
        refine s_nil ?_
        exact ⟨m66z, lt67z, s2 + 1, _, upds_of _ _ ⟨rfl, rfl, rfl, rfl, rfl, rfl, trivial⟩, M.e_inl hM hN69z, H⟩
      ·replace hM := M.e_f hM c70z
       simp only [decide_eq_true_eq, decide_eq_false_iff_not, beq_iff_eq, bne_iff_ne, beq_eq_false_iff_ne, bne_eq_false_iff_eq, ne_eq, Decidable.not_not] at c70z
       refine W.exit ?_
       have hX77z := M.e_inr hM hN69z
       subst hX77z
       replace hM := hk62z
       try dsimp only at hM
       refine W.region rfl ?_
       refine s_val (x_ari (a := (s3 : Int)) (b := 1) (r := (s3 : Int) + 1) rfl rfl rfl (by omega)) ?_
       refine s_val (x_mv (v := I ((s3 : Int) + 1)) rfl) ?_
       refine s_nil ?_
       exact ⟨m55z, lt56z, s3 + 1, _, upds_of _ _ ⟨rfl, rfl, rfl, trivial⟩, M.e_inl hM hN58z, H⟩
    ·replace hM := M.e_f hM c59z
     simp only [decide_eq_true_eq, decide_eq_false_iff_not, beq_iff_eq, bne_iff_ne, beq_eq_false_iff_ne, bne_eq_false_iff_eq, ne_eq, Decidable.not_not] at c59z
     refine W.exit ?_
     have hX78z := M.e_inr hM hN58z
     subst hX78z
     replace hM := hk51z
     try dsimp only at hM
     refine W.seq ?_
     refine W.region rfl ?_
     refine s_val (x_as (v := B false) rfl) ?_
     refine s_nil ?_
     refine W.ret ?_
     have hr_ := M.e_pure hM
     exact ⟨_, resE_tmp rfl, ⟨false, hr_, rfl, (H.pick [] (by decide) rfl)⟩⟩

def m_slices_Reverse_level_Leg_b0 : ((List Leg) × Nat × Int) -> M (((List Leg) × Nat × Int) ⊕ (List Leg)) := fun (l, i, j) =>
  bif decide ((i : Int) < j) then (
  M.grd (decide ((0 : Int) <= j) && decide (j < (l.length : Int))) <|
  M.grd (decide ((i : Int) < (l.length : Int))) <|
  M.grd (decide ((0 : Int) <= j) && decide (j < ((l.set i (l.getD (Int.toNat j) default)).length : Int))) <|
  M.grd (decide ((-9223372036854775808 : Int) <= ((i : Int) + 1)) && decide (((i : Int) + 1) <= (9223372036854775807 : Int))) <|
  M.grd (decide ((-9223372036854775808 : Int) <= (j - 1)) && decide ((j - 1) <= (9223372036854775807 : Int))) <|
  M.pure (.inl ((l.set i (l.getD (Int.toNat j) default)).set (Int.toNat j) (l.getD i default), i + 1, j - 1)))
  else (
  M.pure (.inr l))
def m_slices_Reverse_level_Leg (s : List Leg) : M (List Leg) :=
  M.bind (M.iter (m_slices_Reverse_level_Leg_b0) (s, 0, (s.length : Int) - 1)) fun l2 =>
  M.pure l2
theorem slices_Reverse_level_Leg_ok {R : List Chunk} {v_s : Value} (s : List Leg)  {r : (List Leg)} (hM : (m_slices_Reverse_level_Leg s).Ends r) (w : World) (H : St w w [cOwn (α := Leg) 91 v_s s] R) : Ret Try.prog 100 #[v_s] w fun v w' => ∃ (y0 : List Leg), y0 = r /\ v = .tuple #[] /\ St w w' [cOwn (α := Leg) 91 v_s y0] R := by
 refine ret_of_W Try.func100 rfl rfl rfl ?_
 refine W.seq ?_
 refine W.region rfl ?_
 refine s_val (x_mv (v := v_s) rfl) ?_
 have hl1z := ((ownSl (H.get (k := 0) rfl))).len_le
 refine s_val (x_lenS T88.und rfl (ownSl (H.get (k := 0) rfl))) ?_
 refine s_val (x_ari (a := (s.length : Int)) (b := 1) (r := (s.length : Int) - 1) rfl rfl rfl (by omega)) ?_
 refine s_val (x_as (v := I 0) rfl) ?_
 refine s_val (x_as (v := I ((s.length : Int) - 1)) rfl) ?_
 refine s_nil ?_
 refine W.block ?_
 obtain ⟨ex2z, hi3z, hk4z⟩ := M.e_bind hM
 obtain ⟨m0_, hi3z⟩ := M.e_iter hi3z
 refine W.loop (fun m σ W => ∃ (l : List Leg) (i : Nat) (j : Int) (ρ : Env), σ = upds ρ [(0, v_s), (2, I (i : Int)), (3, I j)] /\ M.iterN (m_slices_Reverse_level_Leg_b0) m (l, i, j) = some ex2z /\ St w W [cOwn (α := Leg) 91 v_s l] R) ?_ ?_
 ·exact ⟨_, s, 0, (s.length : Int) - 1, _, upds_of _ _ ⟨rfl, rfl, rfl, trivial⟩, hi3z, H⟩
 ·rintro m7z σ w5z ⟨l, i, j, ρ, rfl, hI6z, H⟩
  obtain ⟨m8z, lt9z, x10z, hM, hN11z⟩ := M.e_iterN hI6z
  simp only [m_slices_Reverse_level_Leg_b0] at hM
  clear hI6z
  refine W.seq ?_
  refine W.seq ?_
  refine W.region rfl ?_
  refine s_val (x_mv (v := I (i : Int)) rfl) ?_
  refine s_val (x_mv (v := I j) rfl) ?_
  refine s_val (x_cmp (kd := .i64) (a := (i : Int)) (b := j) (r := decide ((i : Int) < j)) rfl rfl rfl) ?_
  refine s_nil ?_
  refine W.cond (decide ((i : Int) < j)) rfl (fun c12z => ?_) (fun c12z => ?_)
  ·replace hM := M.e_t hM c12z
   simp only [decide_eq_true_eq, decide_eq_false_iff_not, beq_iff_eq, bne_iff_ne, beq_eq_false_iff_ne, bne_eq_false_iff_eq, ne_eq, Decidable.not_not] at c12z
   refine W.skip ?_
   refine W.seq ?_
   refine W.block ?_
   refine W.drawT (fun W => St w W [] R) (.q 0 (.q 1 (.q 2 (.q 3 (.q 4 (.q 5 (.q 8 (.q 9 (.l2 6 (.l2 7 (.l 10 (.l 11 (.l 12 (.l 13 (.l 14 (.l 15 .nil)))))) 10 (.l2 7 (.l 11 (.l 12 (.l 13 (.l 14 (.l 15 .nil))))) 11 (.l 7 (.l 12 (.l 13 (.l 14 (.l 15 .nil))))))) 10 (.l2 6 (.l2 7 (.l 11 (.l 12 (.l 13 (.l 14 (.l 15 .nil))))) 11 (.l 7 (.l 12 (.l 13 (.l 14 (.l 15 .nil)))))) 11 (.l 6 (.l 7 (.l 12 (.l 13 (.l 14 (.l 15 .nil)))))))))))))))) mixed (by decide +kernel) rfl ?_
   intro w13z hx_
   replace H : St w w13z [cOwn (α := Leg) 91 v_s l] R := H.ext hx_
   clear hx_
   refine ⟨(H.pick [] (by decide) rfl), ?_⟩
   refine t_q rfl (fun w' H => x_mv (v := v_s) rfl) ?_
   refine t_q rfl (fun w' H => x_mv (v := I (i : Int)) rfl) ?_
   refine t_q rfl (fun w' H => x_mv (v := v_s) rfl) ?_
   refine t_q rfl (fun w' H => x_mv (v := I j) rfl) ?_
   refine t_q rfl (fun w' H => x_mv (v := v_s) rfl) ?_
   refine t_q rfl (fun w' H => x_mv (v := I j) rfl) ?_
   refine t_q rfl (fun w' H => x_mv (v := v_s) rfl) ?_
   refine t_q rfl (fun w' H => x_mv (v := I (i : Int)) rfl) ?_
   obtain ⟨sd14z, hM⟩ := M.e_grd hM
   simp only [Bool.and_eq_true, decide_eq_true_eq] at sd14z
   obtain ⟨sd15z, hM⟩ := M.e_grd hM
   simp only [Bool.and_eq_true, decide_eq_true_eq] at sd15z
   obtain ⟨sd17z, hM⟩ := M.e_grd hM
   simp only [Bool.and_eq_true, decide_eq_true_eq] at sd17z
   refine t_l2 rfl rfl ?_ ?_
   ·skip
    refine s_val (x_ix (a := v_s) (b := I j) (v := vat v_s 2 (Int.toNat j)) rfl rfl (Sl.ix (α := Leg) T88.und T88.size (ownSl (H.get (k := 0) rfl)) (by omega) (by omega))) ?_
    have hvc_q19z := Sl.cells (ownSl (H.get (k := 0) rfl))
    have hvo_q19z := Sl.oc (ownSl (H.get (k := 0) rfl))
    refine s_nil ⟨(H.pick [] (by decide) rfl), ?_⟩
    refine t_l2 rfl rfl ?_ ?_
    ·skip
     refine s_val (x_ld (p := vat v_s 2 (Int.toNat j)) (v := .agg #[I ((l.getD (Int.toNat j) default).line), B ((l.getD (Int.toNat j) default).back)]) rfl (ld_ag Ag91 Sz91 (At.mono (Leg_atA (ownSl (H.get (k := 0) rfl)) (i := j) (by omega) (by omega)) (ownLe _ (H.get (k := 0) rfl))))) ?_
     refine s_nil ⟨(H.pick [] (by decide) rfl), ?_⟩
     refine t_l rfl ?_
     refine s_val (x_ix (a := v_s) (b := I (i : Int)) (v := vat v_s 2 (Int.toNat (i : Int))) rfl rfl (Sl.ix (α := Leg) T88.und T88.size (ownSl (H.get (k := 0) rfl)) (by omega) (by omega))) ?_
     refine s_nil ⟨(H.pick [] (by decide) rfl), ?_⟩
     refine t_l rfl ?_
     refine s_val (x_ld (p := vat v_s 2 (Int.toNat (i : Int))) (v := .agg #[I ((l.getD i default).line), B ((l.getD i default).back)]) rfl (ld_ag Ag91 Sz91 (At.mono (Leg_atA (ownSl (H.get (k := 0) rfl)) (i := (i : Int)) (by omega) (by omega)) (ownLe _ (H.get (k := 0) rfl))))) ?_
     refine s_nil ⟨(H.pick [] (by decide) rfl), ?_⟩
     refine t_l rfl ?_
     refine s_val (x_ix (a := v_s) (b := I (i : Int)) (v := vat v_s 2 (Int.toNat (i : Int))) rfl rfl (Sl.ix (α := Leg) T88.und T88.size (ownSl (H.get (k := 0) rfl)) (by omega) (by omega))) ?_
     refine s_nil ⟨(H.pick [] (by decide) rfl), ?_⟩
     refine t_l rfl ?_
     refine t_ost (k := 0) (i := (i : Int)) (l := l) (l' := l.set i (l.getD (Int.toNat j) default)) (val := .agg #[I ((l.getD (Int.toNat j) default).line), B ((l.getD (Int.toNat j) default).back)]) (L' := [cOwn (α := Leg) 91 v_s (l.set i (l.getD (Int.toNat j) default))]) H rfl Sz91 (by omega) (by omega) (l.getD (Int.toNat j) default) rfl rfl rfl rfl rfl ?_
     intro w20z H
     refine s_nil ⟨(H.pick [] (by decide) rfl), ?_⟩
     refine t_l rfl ?_
     refine s_val (x_ix (a := v_s) (b := I j) (v := vat v_s 2 (Int.toNat j)) rfl rfl (Sl.ix (α := Leg) T88.und T88.size (ownSl (H.get (k := 0) rfl)) (by omega) (by omega))) ?_
     refine s_nil ⟨(H.pick [] (by decide) rfl), ?_⟩
     refine t_l rfl ?_
     refine t_ost (k := 0) (i := j) (l := l.set i (l.getD (Int.toNat j) default)) (l' := (l.set i (l.getD (Int.toNat j) default)).set (Int.toNat j) (l.getD i default)) (val := .agg #[I ((l.getD i default).line), B ((l.getD i default).back)]) (L' := [cOwn (α := Leg) 91 v_s ((l.set i (l.getD (Int.toNat j) default)).set (Int.toNat j) (l.getD i default))]) H rfl Sz91 (by omega) (by omega) (l.getD i default) rfl rfl rfl rfl rfl ?_
     intro w21z H
     refine s_nil ⟨(H.pick [] (by decide) rfl), ?_⟩
     refine t_nil ?_
     refine W.region rfl ?_
     refine s_val (x_mv (v := I (i : Int)) rfl) ?_
     obtain ⟨sd22z, hM⟩ := M.e_grd hM
     simp only [Bool.and_eq_true, decide_eq_true_eq] at sd22z
     refine s_val (x_ari (a := (i : Int)) (b := 1) (r := (i : Int) + 1) rfl rfl rfl (by omega)) ?_
     refine s_val (x_mv (v := I j) rfl) ?_
     obtain ⟨sd23z, hM⟩ := M.e_grd hM
     simp only [Bool.and_eq_true, decide_eq_true_eq] at sd23z
     refine s_val (x_ari (a := j) (b := 1) (r := j - 1) rfl rfl rfl (by omega)) ?_
     refine s_val (x_as (v := I ((i : Int) + 1)) rfl) ?_
     refine s_val (x_as (v := I (j - 1)) rfl) ?_
     refine s_nil ?_
     exact ⟨m8z, lt9z, (l.set i (l.getD (Int.toNat j) default)).set (Int.toNat j) (l.getD i default), i + 1, j - 1, _, upds_of _ _ ⟨rfl, rfl, rfl, trivial⟩, M.e_inl hM hN11z, H⟩
    ·skip
     refine s_val (x_ix (a := v_s) (b := I (i : Int)) (v := vat v_s 2 (Int.toNat (i : Int))) rfl rfl (Sl.ix (α := Leg) T88.und T88.size (ownSl (H.get (k := 0) rfl)) (by omega) (by omega))) ?_
     refine s_nil ⟨(H.pick [] (by decide) rfl), ?_⟩
     refine t_l2 rfl rfl ?_ ?_
     ·skip
      refine s_val (x_ld (p := vat v_s 2 (Int.toNat j)) (v := .agg #[I ((l.getD (Int.toNat j) default).line), B ((l.getD (Int.toNat j) default).back)]) rfl (ld_ag Ag91 Sz91 (At.mono (Leg_atA (ownSl (H.get (k := 0) rfl)) (i := j) (by omega) (by omega)) (ownLe _ (H.get (k := 0) rfl))))) ?_
      refine s_nil ⟨(H.pick [] (by decide) rfl), ?_⟩
      refine t_l rfl ?_
      refine s_val (x_ld (p := vat v_s 2 (Int.toNat (i : Int))) (v := .agg #[I ((l.getD i default).line), B ((l.getD i default).back)]) rfl (ld_ag Ag91 Sz91 (At.mono (Leg_atA (ownSl (H.get (k := 0) rfl)) (i := (i : Int)) (by omega) (by omega)) (ownLe _ (H.get (k := 0) rfl))))) ?_
      refine s_nil ⟨(H.pick [] (by decide) rfl), ?_⟩
      refine t_l rfl ?_
      refine s_val (x_ix (a := v_s) (b := I (i : Int)) (v := vat v_s 2 (Int.toNat (i : Int))) rfl rfl (Sl.ix (α := Leg) T88.und T88.size (ownSl (H.get (k := 0) rfl)) (by omega) (by omega))) ?_
      refine s_nil ⟨(H.pick [] (by decide) rfl), ?_⟩
      refine t_l rfl ?_
      refine t_ost (k := 0) (i := (i : Int)) (l := l) (l' := l.set i (l.getD (Int.toNat j) default)) (val := .agg #[I ((l.getD (Int.toNat j) default).line), B ((l.getD (Int.toNat j) default).back)]) (L' := [cOwn (α := Leg) 91 v_s (l.set i (l.getD (Int.toNat j) default))]) H rfl Sz91 (by omega) (by omega) (l.getD (Int.toNat j) default) rfl rfl rfl rfl rfl ?_
      intro w24z H
      refine s_nil ⟨(H.pick [] (by decide) rfl), ?_⟩
      refine t_l rfl ?_
      refine s_val (x_ix (a := v_s) (b := I j) (v := vat v_s 2 (Int.toNat j)) rfl rfl (Sl.ix (α := Leg) T88.und T88.size (ownSl (H.get (k := 0) rfl)) (by omega) (by omega))) ?_
      refine s_nil ⟨(H.pick [] (by decide) rfl), ?_⟩
      refine t_l rfl ?_
      refine t_ost (k := 0) (i := j) (l := l.set i (l.getD (Int.toNat j) default)) (l' := (l.set i (l.getD (Int.toNat j) default)).set (Int.toNat j) (l.getD i default)) (val := .agg #[I ((l.getD i default).line), B ((l.getD i default).back)]) (L' := [cOwn (α := Leg) 91 v_s ((l.set i (l.getD (Int.toNat j) default)).set (Int.toNat j) (l.getD i default))]) H rfl Sz91 (by omega) (by omega) (l.getD i default) rfl rfl rfl rfl rfl ?_
      intro w25z H
      refine s_nil ⟨(H.pick [] (by decide) rfl), ?_⟩
      refine t_nil ?_
      refine W.region rfl ?_
      refine s_val (x_mv (v := I (i : Int)) rfl) ?_
      obtain ⟨sd26z, hM⟩ := M.e_grd hM
      simp only [Bool.and_eq_true, decide_eq_true_eq] at sd26z
      refine s_val (x_ari (a := (i : Int)) (b := 1) (r := (i : Int) + 1) rfl rfl rfl (by omega)) ?_
      refine s_val (x_mv (v := I j) rfl) ?_
      obtain ⟨sd27z, hM⟩ := M.e_grd hM
      simp only [Bool.and_eq_true, decide_eq_true_eq] at sd27z
      refine s_val (x_ari (a := j) (b := 1) (r := j - 1) rfl rfl rfl (by omega)) ?_
      refine s_val (x_as (v := I ((i : Int) + 1)) rfl) ?_
      refine s_val (x_as (v := I (j - 1)) rfl) ?_
      refine s_nil ?_
      exact ⟨m8z, lt9z, (l.set i (l.getD (Int.toNat j) default)).set (Int.toNat j) (l.getD i default), i + 1, j - 1, _, upds_of _ _ ⟨rfl, rfl, rfl, trivial⟩, M.e_inl hM hN11z, H⟩
     ·skip
      refine s_val (x_ld (p := vat v_s 2 (Int.toNat (i : Int))) (v := .agg #[I ((l.getD i default).line), B ((l.getD i default).back)]) rfl (ld_ag Ag91 Sz91 (At.mono (Leg_atA (ownSl (H.get (k := 0) rfl)) (i := (i : Int)) (by omega) (by omega)) (ownLe _ (H.get (k := 0) rfl))))) ?_
      refine s_nil ⟨(H.pick [] (by decide) rfl), ?_⟩
      refine t_l rfl ?_
      refine s_val (x_ld (p := vat v_s 2 (Int.toNat j)) (v := .agg #[I ((l.getD (Int.toNat j) default).line), B ((l.getD (Int.toNat j) default).back)]) rfl (ld_ag Ag91 Sz91 (At.mono (Leg_atA (ownSl (H.get (k := 0) rfl)) (i := j) (by omega) (by omega)) (ownLe _ (H.get (k := 0) rfl))))) ?_
      refine s_nil ⟨(H.pick [] (by decide) rfl), ?_⟩
      refine t_l rfl ?_
      refine s_val (x_ix (a := v_s) (b := I (i : Int)) (v := vat v_s 2 (Int.toNat (i : Int))) rfl rfl (Sl.ix (α := Leg) T88.und T88.size (ownSl (H.get (k := 0) rfl)) (by omega) (by omega))) ?_
      refine s_nil ⟨(H.pick [] (by decide) rfl), ?_⟩
      refine t_l rfl ?_
      refine t_ost (k := 0) (i := (i : Int)) (l := l) (l' := l.set i (l.getD (Int.toNat j) default)) (val := .agg #[I ((l.getD (Int.toNat j) default).line), B ((l.getD (Int.toNat j) default).back)]) (L' := [cOwn (α := Leg) 91 v_s (l.set i (l.getD (Int.toNat j) default))]) H rfl Sz91 (by omega) (by omega) (l.getD (Int.toNat j) default) rfl rfl rfl rfl rfl ?_
      intro w28z H
      refine s_nil ⟨(H.pick [] (by decide) rfl), ?_⟩
      refine t_l rfl ?_
      refine s_val (x_ix (a := v_s) (b := I j) (v := vat v_s 2 (Int.toNat j)) rfl rfl (Sl.ix (α := Leg) T88.und T88.size (ownSl (H.get (k := 0) rfl)) (by omega) (by omega))) ?_
      refine s_nil ⟨(H.pick [] (by decide) rfl), ?_⟩
      refine t_l rfl ?_
      refine t_ost (k := 0) (i := j) (l := l.set i (l.getD (Int.toNat j) default)) (l' := (l.set i (l.getD (Int.toNat j) default)).set (Int.toNat j) (l.getD i default)) (val := .agg #[I ((l.getD i default).line), B ((l.getD i default).back)]) (L' := [cOwn (α := Leg) 91 v_s ((l.set i (l.getD (Int.toNat j) default)).set (Int.toNat j) (l.getD i default))]) H rfl Sz91 (by omega) (by omega) (l.getD i default) rfl rfl rfl rfl rfl ?_
      intro w29z H
      refine s_nil ⟨(H.pick [] (by decide) rfl), ?_⟩
      refine t_nil ?_
      refine W.region rfl ?_
      refine s_val (x_mv (v := I (i : Int)) rfl) ?_
      obtain ⟨sd30z, hM⟩ := M.e_grd hM
      simp only [Bool.and_eq_true, decide_eq_true_eq] at sd30z
      refine s_val (x_ari (a := (i : Int)) (b := 1) (r := (i : Int) + 1) rfl rfl rfl (by omega)) ?_
      refine s_val (x_mv (v := I j) rfl) ?_
      obtain ⟨sd31z, hM⟩ := M.e_grd hM
      simp only [Bool.and_eq_true, decide_eq_true_eq] at sd31z
      refine s_val (x_ari (a := j) (b := 1) (r := j - 1) rfl rfl rfl (by omega)) ?_
      refine s_val (x_as (v := I ((i : Int) + 1)) rfl) ?_
      refine s_val (x_as (v := I (j - 1)) rfl) ?_
      refine s_nil ?_
      exact ⟨m8z, lt9z, (l.set i (l.getD (Int.toNat j) default)).set (Int.toNat j) (l.getD i default), i + 1, j - 1, _, upds_of _ _ ⟨rfl, rfl, rfl, trivial⟩, M.e_inl hM hN11z, H⟩
   ·skip
    refine s_val (x_ix (a := v_s) (b := I (i : Int)) (v := vat v_s 2 (Int.toNat (i : Int))) rfl rfl (Sl.ix (α := Leg) T88.und T88.size (ownSl (H.get (k := 0) rfl)) (by omega) (by omega))) ?_
    have hvc_q32z := Sl.cells (ownSl (H.get (k := 0) rfl))
    have hvo_q32z := Sl.oc (ownSl (H.get (k := 0) rfl))
    refine s_nil ⟨(H.pick [] (by decide) rfl), ?_⟩
    refine t_l2 rfl rfl ?_ ?_
    ·skip
     refine s_val (x_ix (a := v_s) (b := I j) (v := vat v_s 2 (Int.toNat j)) rfl rfl (Sl.ix (α := Leg) T88.und T88.size (ownSl (H.get (k := 0) rfl)) (by omega) (by omega))) ?_
     refine s_nil ⟨(H.pick [] (by decide) rfl), ?_⟩
     refine t_l2 rfl rfl ?_ ?_
     ·skip
      refine s_val (x_ld (p := vat v_s 2 (Int.toNat j)) (v := .agg #[I ((l.getD (Int.toNat j) default).line), B ((l.getD (Int.toNat j) default).back)]) rfl (ld_ag Ag91 Sz91 (At.mono (Leg_atA (ownSl (H.get (k := 0) rfl)) (i := j) (by omega) (by omega)) (ownLe _ (H.get (k := 0) rfl))))) ?_
      refine s_nil ⟨(H.pick [] (by decide) rfl), ?_⟩
      refine t_l rfl ?_
      refine s_val (x_ld (p := vat v_s 2 (Int.toNat (i : Int))) (v := .agg #[I ((l.getD i default).line), B ((l.getD i default).back)]) rfl (ld_ag Ag91 Sz91 (At.mono (Leg_atA (ownSl (H.get (k := 0) rfl)) (i := (i : Int)) (by omega) (by omega)) (ownLe _ (H.get (k := 0) rfl))))) ?_
      refine s_nil ⟨(H.pick [] (by decide) rfl), ?_⟩
      refine t_l rfl ?_
      refine s_val (x_ix (a := v_s) (b := I (i : Int)) (v := vat v_s 2 (Int.toNat (i : Int))) rfl rfl (Sl.ix (α := Leg) T88.und T88.size (ownSl (H.get (k := 0) rfl)) (by omega) (by omega))) ?_
      refine s_nil ⟨(H.pick [] (by decide) rfl), ?_⟩
      refine t_l rfl ?_
      refine t_ost (k := 0) (i := (i : Int)) (l := l) (l' := l.set i (l.getD (Int.toNat j) default)) (val := .agg #[I ((l.getD (Int.toNat j) default).line), B ((l.getD (Int.toNat j) default).back)]) (L' := [cOwn (α := Leg) 91 v_s (l.set i (l.getD (Int.toNat j) default))]) H rfl Sz91 (by omega) (by omega) (l.getD (Int.toNat j) default) rfl rfl rfl rfl rfl ?_
      intro w33z H
      refine s_nil ⟨(H.pick [] (by decide) rfl), ?_⟩
      refine t_l rfl ?_
      refine s_val (x_ix (a := v_s) (b := I j) (v := vat v_s 2 (Int.toNat j)) rfl rfl (Sl.ix (α := Leg) T88.und T88.size (ownSl (H.get (k := 0) rfl)) (by omega) (by omega))) ?_
      refine s_nil ⟨(H.pick [] (by decide) rfl), ?_⟩
      refine t_l rfl ?_
      refine t_ost (k := 0) (i := j) (l := l.set i (l.getD (Int.toNat j) default)) (l' := (l.set i (l.getD (Int.toNat j) default)).set (Int.toNat j) (l.getD i default)) (val := .agg #[I ((l.getD i default).line), B ((l.getD i default).back)]) (L' := [cOwn (α := Leg) 91 v_s ((l.set i (l.getD (Int.toNat j) default)).set (Int.toNat j) (l.getD i default))]) H rfl Sz91 (by omega) (by omega) (l.getD i default) rfl rfl rfl rfl rfl ?_
      intro w34z H
      refine s_nil ⟨(H.pick [] (by decide) rfl), ?_⟩
      refine t_nil ?_
      refine W.region rfl ?_
      refine s_val (x_mv (v := I (i : Int)) rfl) ?_
      obtain ⟨sd35z, hM⟩ := M.e_grd hM
      simp only [Bool.and_eq_true, decide_eq_true_eq] at sd35z
      refine s_val (x_ari (a := (i : Int)) (b := 1) (r := (i : Int) + 1) rfl rfl rfl (by omega)) ?_
      refine s_val (x_mv (v := I j) rfl) ?_
      obtain ⟨sd36z, hM⟩ := M.e_grd hM
      simp only [Bool.and_eq_true, decide_eq_true_eq] at sd36z
      refine s_val (x_ari (a := j) (b := 1) (r := j - 1) rfl rfl rfl (by omega)) ?_
      refine s_val (x_as (v := I ((i : Int) + 1)) rfl) ?_
      refine s_val (x_as (v := I (j - 1)) rfl) ?_
      refine s_nil ?_
      exact ⟨m8z, lt9z, (l.set i (l.getD (Int.toNat j) default)).set (Int.toNat j) (l.getD i default), i + 1, j - 1, _, upds_of _ _ ⟨rfl, rfl, rfl, trivial⟩, M.e_inl hM hN11z, H⟩
     ·skip
      refine s_val (x_ld (p := vat v_s 2 (Int.toNat (i : Int))) (v := .agg #[I ((l.getD i default).line), B ((l.getD i default).back)]) rfl (ld_ag Ag91 Sz91 (At.mono (Leg_atA (ownSl (H.get (k := 0) rfl)) (i := (i : Int)) (by omega) (by omega)) (ownLe _ (H.get (k := 0) rfl))))) ?_
      refine s_nil ⟨(H.pick [] (by decide) rfl), ?_⟩
      refine t_l rfl ?_
      refine s_val (x_ld (p := vat v_s 2 (Int.toNat j)) (v := .agg #[I ((l.getD (Int.toNat j) default).line), B ((l.getD (Int.toNat j) default).back)]) rfl (ld_ag Ag91 Sz91 (At.mono (Leg_atA (ownSl (H.get (k := 0) rfl)) (i := j) (by omega) (by omega)) (ownLe _ (H.get (k := 0) rfl))))) ?_
      refine s_nil ⟨(H.pick [] (by decide) rfl), ?_⟩
      refine t_l rfl ?_
      refine s_val (x_ix (a := v_s) (b := I (i : Int)) (v := vat v_s 2 (Int.toNat (i : Int))) rfl rfl (Sl.ix (α := Leg) T88.und T88.size (ownSl (H.get (k := 0) rfl)) (by omega) (by omega))) ?_
      refine s_nil ⟨(H.pick [] (by decide) rfl), ?_⟩
      refine t_l rfl ?_
      refine t_ost (k := 0) (i := (i : Int)) (l := l) (l' := l.set i (l.getD (Int.toNat j) default)) (val := .agg #[I ((l.getD (Int.toNat j) default).line), B ((l.getD (Int.toNat j) default).back)]) (L' := [cOwn (α := Leg) 91 v_s (l.set i (l.getD (Int.toNat j) default))]) H rfl Sz91 (by omega) (by omega) (l.getD (Int.toNat j) default) rfl rfl rfl rfl rfl ?_
      intro w37z H
      refine s_nil ⟨(H.pick [] (by decide) rfl), ?_⟩
      refine t_l rfl ?_
      refine s_val (x_ix (a := v_s) (b := I j) (v := vat v_s 2 (Int.toNat j)) rfl rfl (Sl.ix (α := Leg) T88.und T88.size (ownSl (H.get (k := 0) rfl)) (by omega) (by omega))) ?_
      refine s_nil ⟨(H.pick [] (by decide) rfl), ?_⟩
      refine t_l rfl ?_
      refine t_ost (k := 0) (i := j) (l := l.set i (l.getD (Int.toNat j) default)) (l' := (l.set i (l.getD (Int.toNat j) default)).set (Int.toNat j) (l.getD i default)) (val := .agg #[I ((l.getD i default).line), B ((l.getD i default).back)]) (L' := [cOwn (α := Leg) 91 v_s ((l.set i (l.getD (Int.toNat j) default)).set (Int.toNat j) (l.getD i default))]) H rfl Sz91 (by omega) (by omega) (l.getD i default) rfl rfl rfl rfl rfl ?_
      intro w38z H
      refine s_nil ⟨(H.pick [] (by decide) rfl), ?_⟩
      refine t_nil ?_
      refine W.region rfl ?_
      refine s_val (x_mv (v := I (i : Int)) rfl) ?_
      obtain ⟨sd39z, hM⟩ := M.e_grd hM
      simp only [Bool.and_eq_true, decide_eq_true_eq] at sd39z
      refine s_val (x_ari (a := (i : Int)) (b := 1) (r := (i : Int) + 1) rfl rfl rfl (by omega)) ?_
      refine s_val (x_mv (v := I j) rfl) ?_
      obtain ⟨sd40z, hM⟩ := M.e_grd hM
      simp only [Bool.and_eq_true, decide_eq_true_eq] at sd40z
      refine s_val (x_ari (a := j) (b := 1) (r := j - 1) rfl rfl rfl (by omega)) ?_
      refine s_val (x_as (v := I ((i : Int) + 1)) rfl) ?_
      refine s_val (x_as (v := I (j - 1)) rfl) ?_
      refine s_nil ?_
      exact ⟨m8z, lt9z, (l.set i (l.getD (Int.toNat j) default)).set (Int.toNat j) (l.getD i default), i + 1, j - 1, _, upds_of _ _ ⟨rfl, rfl, rfl, trivial⟩, M.e_inl hM hN11z, H⟩
    ·skip
     refine s_val (x_ld (p := vat v_s 2 (Int.toNat (i : Int))) (v := .agg #[I ((l.getD i default).line), B ((l.getD i default).back)]) rfl (ld_ag Ag91 Sz91 (At.mono (Leg_atA (ownSl (H.get (k := 0) rfl)) (i := (i : Int)) (by omega) (by omega)) (ownLe _ (H.get (k := 0) rfl))))) ?_
     refine s_nil ⟨(H.pick [] (by decide) rfl), ?_⟩
     refine t_l rfl ?_
     refine s_val (x_ix (a := v_s) (b := I j) (v := vat v_s 2 (Int.toNat j)) rfl rfl (Sl.ix (α := Leg) T88.und T88.size (ownSl (H.get (k := 0) rfl)) (by omega) (by omega))) ?_
     refine s_nil ⟨(H.pick [] (by decide) rfl), ?_⟩
     refine t_l rfl ?_
     refine s_val (x_ld (p := vat v_s 2 (Int.toNat j)) (v := .agg #[I ((l.getD (Int.toNat j) default).line), B ((l.getD (Int.toNat j) default).back)]) rfl (ld_ag Ag91 Sz91 (At.mono (Leg_atA (ownSl (H.get (k := 0) rfl)) (i := j) (by omega) (by omega)) (ownLe _ (H.get (k := 0) rfl))))) ?_
     refine s_nil ⟨(H.pick [] (by decide) rfl), ?_⟩
     refine t_l rfl ?_
     refine s_val (x_ix (a := v_s) (b := I (i : Int)) (v := vat v_s 2 (Int.toNat (i : Int))) rfl rfl (Sl.ix (α := Leg) T88.und T88.size (ownSl (H.get (k := 0) rfl)) (by omega) (by omega))) ?_
     refine s_nil ⟨(H.pick [] (by decide) rfl), ?_⟩
     refine t_l rfl ?_
     refine t_ost (k := 0) (i := (i : Int)) (l := l) (l' := l.set i (l.getD (Int.toNat j) default)) (val := .agg #[I ((l.getD (Int.toNat j) default).line), B ((l.getD (Int.toNat j) default).back)]) (L' := [cOwn (α := Leg) 91 v_s (l.set i (l.getD (Int.toNat j) default))]) H rfl Sz91 (by omega) (by omega) (l.getD (Int.toNat j) default) rfl rfl rfl rfl rfl ?_
     intro w41z H
     refine s_nil ⟨(H.pick [] (by decide) rfl), ?_⟩
     refine t_l rfl ?_
     refine s_val (x_ix (a := v_s) (b := I j) (v := vat v_s 2 (Int.toNat j)) rfl rfl (Sl.ix (α := Leg) T88.und T88.size (ownSl (H.get (k := 0) rfl)) (by omega) (by omega))) ?_
     refine s_nil ⟨(H.pick [] (by decide) rfl), ?_⟩
     refine t_l rfl ?_
     refine t_ost (k := 0) (i := j) (l := l.set i (l.getD (Int.toNat j) default)) (l' := (l.set i (l.getD (Int.toNat j) default)).set (Int.toNat j) (l.getD i default)) (val := .agg #[I ((l.getD i default).line), B ((l.getD i default).back)]) (L' := [cOwn (α := Leg) 91 v_s ((l.set i (l.getD (Int.toNat j) default)).set (Int.toNat j) (l.getD i default))]) H rfl Sz91 (by omega) (by omega) (l.getD i default) rfl rfl rfl rfl rfl ?_
     intro w42z H
     refine s_nil ⟨(H.pick [] (by decide) rfl), ?_⟩
     refine t_nil ?_
     refine W.region rfl ?_
     refine s_val (x_mv (v := I (i : Int)) rfl) ?_
     obtain ⟨sd43z, hM⟩ := M.e_grd hM
     simp only [Bool.and_eq_true, decide_eq_true_eq] at sd43z
     refine s_val (x_ari (a := (i : Int)) (b := 1) (r := (i : Int) + 1) rfl rfl rfl (by omega)) ?_
     refine s_val (x_mv (v := I j) rfl) ?_
     obtain ⟨sd44z, hM⟩ := M.e_grd hM
     simp only [Bool.and_eq_true, decide_eq_true_eq] at sd44z
     refine s_val (x_ari (a := j) (b := 1) (r := j - 1) rfl rfl rfl (by omega)) ?_
     refine s_val (x_as (v := I ((i : Int) + 1)) rfl) ?_
     refine s_val (x_as (v := I (j - 1)) rfl) ?_
     refine s_nil ?_
     exact ⟨m8z, lt9z, (l.set i (l.getD (Int.toNat j) default)).set (Int.toNat j) (l.getD i default), i + 1, j - 1, _, upds_of _ _ ⟨rfl, rfl, rfl, trivial⟩, M.e_inl hM hN11z, H⟩
  ·replace hM := M.e_f hM c12z
   simp only [decide_eq_true_eq, decide_eq_false_iff_not, beq_iff_eq, bne_iff_ne, beq_eq_false_iff_ne, bne_eq_false_iff_eq, ne_eq, Decidable.not_not] at c12z
   refine W.exit ?_
   have hX45z := M.e_inr hM hN11z
   subst hX45z
   replace hM := hk4z
   try dsimp only at hM
   have hr_ := M.e_pure hM
   exact ⟨_, resE_tmp0 rfl, ⟨l, hr_, rfl, H⟩⟩

end Go.Proofs.Ytclhljenjphofaa
end
