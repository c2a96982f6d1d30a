/- Part 5 of the texts on which the proof rests. Conditions: none. -/
import Derived.Test.YtcgalcbkkijkhaaZB4
set_option linter.unusedVariables false
set_option linter.unusedSimpArgs false
set_option linter.unusedSectionVars false
namespace Go.Proofs.Ytcgalcbkkijkhaa
open Go Go.Nm
def m_nilometerlaw10_long_b0 (b_Olds : List Old10) : Nat -> M (Nat ⊕ (Unit ⊕ Unit)) := fun i =>
  bif decide ((i : Int) < (b_Olds.length : Int)) then (
  M.grd (decide ((i : Int) < (b_Olds.length : Int))) <|
  bif decide (12 < (((b_Olds.getD i default).passed).length : Int)) then (
  M.pure (.inr (.inl ())))
  else (
  M.pure (.inl (i + 1))))
  else (
  M.pure (.inr (.inr ())))
def m_nilometerlaw10_long (b_Years : List Yr) (b_Olds : List Old10) (b_First : Int) (b_Last : Int) : M Bool :=
  bif (((decide (65 < (b_Years.length : Int))) || (decide (10 < (b_Olds.length : Int)))) || ((((decide (0 <= b_First)) && (decide (b_Last <= 3000))) && (decide (40 < (wr64 (b_Last - b_First))))) && (decide ((wr64 (b_Last - b_First)) < 1000)))) then (
  M.pure true)
  else (
  M.bind (M.iter (m_nilometerlaw10_long_b0 b_Olds) 0) fun x_ => match x_ with
  | (.inl (_ : Unit)) => (
  M.pure true)
  | (.inr (_ : Unit)) => (
  M.pure false))
set_option maxRecDepth 100000 in
set_option maxHeartbeats 16000000 in
theorem nilometerlaw10_long_ok {R : List Chunk} {C_b_Years : Cells} {v_b_Years : Value} {C_b_Olds : Cells} {v_b_Olds : Value} (b_Years : List Yr) (b_Olds : List Old10) (b_First : Int) (b_Last : Int) (hC_b_Years : Reads R C_b_Years) (hs_b_Years : Sl C_b_Years v_b_Years b_Years) (hC_b_Olds : Reads R C_b_Olds) (hs_b_Olds : Sl C_b_Olds v_b_Olds b_Olds) {r : Bool} (hM : (m_nilometerlaw10_long b_Years b_Olds b_First b_Last).Ends r) (w : World) (H : St w w [] R) : Ret Try.prog 21 #[.agg #[v_b_Years, v_b_Olds, I b_First, I b_Last]] w fun v w' => ∃ (y0 : Bool), y0 = r /\ v = B y0 /\ St w w' [] R := by
 refine ret_of_W Try.func21 rfl rfl rfl ?_
 refine W.seq ?_
 refine W.region rfl ?_
 refine t_box (v := .agg #[v_b_Years, v_b_Olds, I b_First, I b_Last]) (cs := [v_b_Years, v_b_Olds, I b_First, I b_Last]) H rfl rfl ?_
 intro b_1 w1z H
 refine s_val (x_as (v := B false) rfl) ?_
 refine s_nil ?_
 refine W.seq ?_
 refine W.seq ?_
 refine W.region rfl ?_
 refine s_val (x_fa (a := .pointer (some ⟨b_1, 0, none⟩)) (v := .pointer (some ⟨b_1, 0, none⟩)) rfl (fa_blk (o := 0) Fd26_0 Sz23)) ?_
 refine s_val (x_ld (p := .pointer (some ⟨b_1, 0, none⟩)) (v := v_b_Years) rfl (ldb_sc Sc23 (H.blk (k := 0) rfl) rfl)) ?_
 have hl2z := (hs_b_Years).len_le
 refine s_val (x_lenS T23.und rfl hs_b_Years) ?_
 refine s_val (x_cmp (kd := .i64) (a := (b_Years.length : Int)) (b := 65) (r := decide (65 < (b_Years.length : Int))) rfl rfl rfl) ?_
 refine s_val (x_mv (v := B (decide (65 < (b_Years.length : Int)))) rfl) ?_
 refine g_val (!(decide (65 < (b_Years.length : Int)))) (gy_f rfl) (fun hg => x_fa (a := .pointer (some ⟨b_1, 0, none⟩)) (v := .pointer (some ⟨b_1, 1, none⟩)) rfl (fa_blk (o := 0) Fd26_1 Sz24)) ?_
 refine g_val (!(decide (65 < (b_Years.length : Int)))) (gy_f rfl) (fun hg => x_ld (p := .pointer (some ⟨b_1, 1, none⟩)) (v := v_b_Olds) (gd_of (c := !(decide (65 < (b_Years.length : Int)))) hg (.pointer (some ⟨b_1, 1, none⟩))) (ldb_sc Sc24 (H.blk (k := 0) rfl) rfl)) ?_
 refine g_val (!(decide (65 < (b_Years.length : Int)))) (gy_f rfl) (fun hg => x_lenS T24.und (gd_of (c := !(decide (65 < (b_Years.length : Int)))) hg (v_b_Olds)) hs_b_Olds) ?_
 refine g_val (!(decide (65 < (b_Years.length : Int)))) (gy_f rfl) (fun hg => x_cmp (kd := .i64) (a := (b_Olds.length : Int)) (b := 10) (r := decide (10 < (b_Olds.length : Int))) (gd_of (c := !(decide (65 < (b_Years.length : Int)))) hg (I (b_Olds.length : Int))) rfl rfl) ?_
 refine s_val (x_por (b := decide (65 < (b_Years.length : Int))) (r := decide (10 < (b_Olds.length : Int))) rfl rfl (fun hb => gd_of (c := !(decide (65 < (b_Years.length : Int)))) (by first | exact hb | (rw [hb]; rfl) | simp_all) (B (decide (10 < (b_Olds.length : Int)))))) ?_
 refine s_val (x_mv (v := B ((decide (65 < (b_Years.length : Int))) || (decide (10 < (b_Olds.length : Int))))) rfl) ?_
 refine g_val (!((decide (65 < (b_Years.length : Int))) || (decide (10 < (b_Olds.length : Int))))) (gy_f rfl) (fun hg => x_fa (a := .pointer (some ⟨b_1, 0, none⟩)) (v := .pointer (some ⟨b_1, 2, none⟩)) rfl (fa_blk (o := 0) Fd26_2 Sz3)) ?_
 refine g_val (!((decide (65 < (b_Years.length : Int))) || (decide (10 < (b_Olds.length : Int))))) (gy_f rfl) (fun hg => x_ld (p := .pointer (some ⟨b_1, 2, none⟩)) (v := I b_First) (gd_of (c := !((decide (65 < (b_Years.length : Int))) || (decide (10 < (b_Olds.length : Int))))) hg (.pointer (some ⟨b_1, 2, none⟩))) (ldb_sc Sc3 (H.blk (k := 0) rfl) rfl)) ?_
 refine g_val (!((decide (65 < (b_Years.length : Int))) || (decide (10 < (b_Olds.length : Int))))) (gy_f rfl) (fun hg => x_cmp (kd := .i64) (a := b_First) (b := 0) (r := decide (0 <= b_First)) (gd_of (c := !((decide (65 < (b_Years.length : Int))) || (decide (10 < (b_Olds.length : Int))))) hg (I b_First)) rfl rfl) ?_
 refine g_val (!((decide (65 < (b_Years.length : Int))) || (decide (10 < (b_Olds.length : Int))))) (gy_f rfl) (fun hg => x_mv (v := B (decide (0 <= b_First))) (gd_of (c := !((decide (65 < (b_Years.length : Int))) || (decide (10 < (b_Olds.length : Int))))) hg (B (decide (0 <= b_First))))) ?_
 refine g_val ((!((decide (65 < (b_Years.length : Int))) || (decide (10 < (b_Olds.length : Int))))) && (decide (0 <= b_First))) (gy_gt rfl rfl) (fun hg => x_fa (a := .pointer (some ⟨b_1, 0, none⟩)) (v := .pointer (some ⟨b_1, 3, none⟩)) rfl (fa_blk (o := 0) Fd26_3 Sz3)) ?_
 refine g_val ((!((decide (65 < (b_Years.length : Int))) || (decide (10 < (b_Olds.length : Int))))) && (decide (0 <= b_First))) (gy_gt rfl rfl) (fun hg => x_ld (p := .pointer (some ⟨b_1, 3, none⟩)) (v := I b_Last) (gd_of (c := ((!((decide (65 < (b_Years.length : Int))) || (decide (10 < (b_Olds.length : Int))))) && (decide (0 <= b_First)))) hg (.pointer (some ⟨b_1, 3, none⟩))) (ldb_sc Sc3 (H.blk (k := 0) rfl) rfl)) ?_
 refine g_val ((!((decide (65 < (b_Years.length : Int))) || (decide (10 < (b_Olds.length : Int))))) && (decide (0 <= b_First))) (gy_gt rfl rfl) (fun hg => x_cmp (kd := .i64) (a := b_Last) (b := 3000) (r := decide (b_Last <= 3000)) (gd_of (c := ((!((decide (65 < (b_Years.length : Int))) || (decide (10 < (b_Olds.length : Int))))) && (decide (0 <= b_First)))) hg (I b_Last)) rfl rfl) ?_
 refine g_val (!((decide (65 < (b_Years.length : Int))) || (decide (10 < (b_Olds.length : Int))))) (gy_f rfl) (fun hg => x_pand (b := decide (0 <= b_First)) (r := decide (b_Last <= 3000)) (gd_of (c := !((decide (65 < (b_Years.length : Int))) || (decide (10 < (b_Olds.length : Int))))) hg (B (decide (0 <= b_First)))) (fun hb => gd_of (c := ((!((decide (65 < (b_Years.length : Int))) || (decide (10 < (b_Olds.length : Int))))) && (decide (0 <= b_First)))) (by first | exact hb | (rw [hb]; rfl) | simp_all) (B (decide (b_Last <= 3000)))) rfl) ?_
 refine g_val (!((decide (65 < (b_Years.length : Int))) || (decide (10 < (b_Olds.length : Int))))) (gy_f rfl) (fun hg => x_mv (v := B ((decide (0 <= b_First)) && (decide (b_Last <= 3000)))) (gd_of (c := !((decide (65 < (b_Years.length : Int))) || (decide (10 < (b_Olds.length : Int))))) hg (B ((decide (0 <= b_First)) && (decide (b_Last <= 3000)))))) ?_
 refine g_val ((!((decide (65 < (b_Years.length : Int))) || (decide (10 < (b_Olds.length : Int))))) && ((decide (0 <= b_First)) && (decide (b_Last <= 3000)))) (gy_gt rfl rfl) (fun hg => x_fa (a := .pointer (some ⟨b_1, 0, none⟩)) (v := .pointer (some ⟨b_1, 3, none⟩)) rfl (fa_blk (o := 0) Fd26_3 Sz3)) ?_
 refine g_val ((!((decide (65 < (b_Years.length : Int))) || (decide (10 < (b_Olds.length : Int))))) && ((decide (0 <= b_First)) && (decide (b_Last <= 3000)))) (gy_gt rfl rfl) (fun hg => x_ld (p := .pointer (some ⟨b_1, 3, none⟩)) (v := I b_Last) (gd_of (c := ((!((decide (65 < (b_Years.length : Int))) || (decide (10 < (b_Olds.length : Int))))) && ((decide (0 <= b_First)) && (decide (b_Last <= 3000))))) hg (.pointer (some ⟨b_1, 3, none⟩))) (ldb_sc Sc3 (H.blk (k := 0) rfl) rfl)) ?_
 refine g_val ((!((decide (65 < (b_Years.length : Int))) || (decide (10 < (b_Olds.length : Int))))) && ((decide (0 <= b_First)) && (decide (b_Last <= 3000)))) (gy_gt rfl rfl) (fun hg => x_fa (a := .pointer (some ⟨b_1, 0, none⟩)) (v := .pointer (some ⟨b_1, 2, none⟩)) rfl (fa_blk (o := 0) Fd26_2 Sz3)) ?_
 refine g_val ((!((decide (65 < (b_Years.length : Int))) || (decide (10 < (b_Olds.length : Int))))) && ((decide (0 <= b_First)) && (decide (b_Last <= 3000)))) (gy_gt rfl rfl) (fun hg => x_ld (p := .pointer (some ⟨b_1, 2, none⟩)) (v := I b_First) (gd_of (c := ((!((decide (65 < (b_Years.length : Int))) || (decide (10 < (b_Olds.length : Int))))) && ((decide (0 <= b_First)) && (decide (b_Last <= 3000))))) hg (.pointer (some ⟨b_1, 2, none⟩))) (ldb_sc Sc3 (H.blk (k := 0) rfl) rfl)) ?_
 refine g_val ((!((decide (65 < (b_Years.length : Int))) || (decide (10 < (b_Olds.length : Int))))) && ((decide (0 <= b_First)) && (decide (b_Last <= 3000)))) (gy_gt rfl rfl) (fun hg => x_subW (a := b_Last) (b := b_First) (gd_of (c := ((!((decide (65 < (b_Years.length : Int))) || (decide (10 < (b_Olds.length : Int))))) && ((decide (0 <= b_First)) && (decide (b_Last <= 3000))))) hg (I b_Last)) (gd_of (c := ((!((decide (65 < (b_Years.length : Int))) || (decide (10 < (b_Olds.length : Int))))) && ((decide (0 <= b_First)) && (decide (b_Last <= 3000))))) hg (I b_First))) ?_
 refine g_val ((!((decide (65 < (b_Years.length : Int))) || (decide (10 < (b_Olds.length : Int))))) && ((decide (0 <= b_First)) && (decide (b_Last <= 3000)))) (gy_gt rfl rfl) (fun hg => x_cmp (kd := .i64) (a := wr64 (b_Last - b_First)) (b := 40) (r := decide (40 < (wr64 (b_Last - b_First)))) (gd_of (c := ((!((decide (65 < (b_Years.length : Int))) || (decide (10 < (b_Olds.length : Int))))) && ((decide (0 <= b_First)) && (decide (b_Last <= 3000))))) hg (I (wr64 (b_Last - b_First)))) rfl rfl) ?_
 refine g_val (!((decide (65 < (b_Years.length : Int))) || (decide (10 < (b_Olds.length : Int))))) (gy_f rfl) (fun hg => x_pand (b := ((decide (0 <= b_First)) && (decide (b_Last <= 3000)))) (r := decide (40 < (wr64 (b_Last - b_First)))) (gd_of (c := !((decide (65 < (b_Years.length : Int))) || (decide (10 < (b_Olds.length : Int))))) hg (B ((decide (0 <= b_First)) && (decide (b_Last <= 3000))))) (fun hb => gd_of (c := ((!((decide (65 < (b_Years.length : Int))) || (decide (10 < (b_Olds.length : Int))))) && ((decide (0 <= b_First)) && (decide (b_Last <= 3000))))) (by first | exact hb | (rw [hb]; rfl) | simp_all) (B (decide (40 < (wr64 (b_Last - b_First)))))) rfl) ?_
 refine g_val (!((decide (65 < (b_Years.length : Int))) || (decide (10 < (b_Olds.length : Int))))) (gy_f rfl) (fun hg => x_mv (v := B (((decide (0 <= b_First)) && (decide (b_Last <= 3000))) && (decide (40 < (wr64 (b_Last - b_First)))))) (gd_of (c := !((decide (65 < (b_Years.length : Int))) || (decide (10 < (b_Olds.length : Int))))) hg (B (((decide (0 <= b_First)) && (decide (b_Last <= 3000))) && (decide (40 < (wr64 (b_Last - b_First)))))))) ?_
 refine g_val ((!((decide (65 < (b_Years.length : Int))) || (decide (10 < (b_Olds.length : Int))))) && (((decide (0 <= b_First)) && (decide (b_Last <= 3000))) && (decide (40 < (wr64 (b_Last - b_First)))))) (gy_gt rfl rfl) (fun hg => x_fa (a := .pointer (some ⟨b_1, 0, none⟩)) (v := .pointer (some ⟨b_1, 3, none⟩)) rfl (fa_blk (o := 0) Fd26_3 Sz3)) ?_
 refine g_val ((!((decide (65 < (b_Years.length : Int))) || (decide (10 < (b_Olds.length : Int))))) && (((decide (0 <= b_First)) && (decide (b_Last <= 3000))) && (decide (40 < (wr64 (b_Last - b_First)))))) (gy_gt rfl rfl) (fun hg => x_ld (p := .pointer (some ⟨b_1, 3, none⟩)) (v := I b_Last) (gd_of (c := ((!((decide (65 < (b_Years.length : Int))) || (decide (10 < (b_Olds.length : Int))))) && (((decide (0 <= b_First)) && (decide (b_Last <= 3000))) && (decide (40 < (wr64 (b_Last - b_First))))))) hg (.pointer (some ⟨b_1, 3, none⟩))) (ldb_sc Sc3 (H.blk (k := 0) rfl) rfl)) ?_
 refine g_val ((!((decide (65 < (b_Years.length : Int))) || (decide (10 < (b_Olds.length : Int))))) && (((decide (0 <= b_First)) && (decide (b_Last <= 3000))) && (decide (40 < (wr64 (b_Last - b_First)))))) (gy_gt rfl rfl) (fun hg => x_fa (a := .pointer (some ⟨b_1, 0, none⟩)) (v := .pointer (some ⟨b_1, 2, none⟩)) rfl (fa_blk (o := 0) Fd26_2 Sz3)) ?_
 refine g_val ((!((decide (65 < (b_Years.length : Int))) || (decide (10 < (b_Olds.length : Int))))) && (((decide (0 <= b_First)) && (decide (b_Last <= 3000))) && (decide (40 < (wr64 (b_Last - b_First)))))) (gy_gt rfl rfl) (fun hg => x_ld (p := .pointer (some ⟨b_1, 2, none⟩)) (v := I b_First) (gd_of (c := ((!((decide (65 < (b_Years.length : Int))) || (decide (10 < (b_Olds.length : Int))))) && (((decide (0 <= b_First)) && (decide (b_Last <= 3000))) && (decide (40 < (wr64 (b_Last - b_First))))))) hg (.pointer (some ⟨b_1, 2, none⟩))) (ldb_sc Sc3 (H.blk (k := 0) rfl) rfl)) ?_
 refine g_val ((!((decide (65 < (b_Years.length : Int))) || (decide (10 < (b_Olds.length : Int))))) && (((decide (0 <= b_First)) && (decide (b_Last <= 3000))) && (decide (40 < (wr64 (b_Last - b_First)))))) (gy_gt rfl rfl) (fun hg => x_subW (a := b_Last) (b := b_First) (gd_of (c := ((!((decide (65 < (b_Years.length : Int))) || (decide (10 < (b_Olds.length : Int))))) && (((decide (0 <= b_First)) && (decide (b_Last <= 3000))) && (decide (40 < (wr64 (b_Last - b_First))))))) hg (I b_Last)) (gd_of (c := ((!((decide (65 < (b_Years.length : Int))) || (decide (10 < (b_Olds.length : Int))))) && (((decide (0 <= b_First)) && (decide (b_Last <= 3000))) && (decide (40 < (wr64 (b_Last - b_First))))))) hg (I b_First))) ?_
 refine g_val ((!((decide (65 < (b_Years.length : Int))) || (decide (10 < (b_Olds.length : Int))))) && (((decide (0 <= b_First)) && (decide (b_Last <= 3000))) && (decide (40 < (wr64 (b_Last - b_First)))))) (gy_gt rfl rfl) (fun hg => x_cmp (kd := .i64) (a := wr64 (b_Last - b_First)) (b := 1000) (r := decide ((wr64 (b_Last - b_First)) < 1000)) (gd_of (c := ((!((decide (65 < (b_Years.length : Int))) || (decide (10 < (b_Olds.length : Int))))) && (((decide (0 <= b_First)) && (decide (b_Last <= 3000))) && (decide (40 < (wr64 (b_Last - b_First))))))) hg (I (wr64 (b_Last - b_First)))) rfl rfl) ?_
 refine g_val (!((decide (65 < (b_Years.length : Int))) || (decide (10 < (b_Olds.length : Int))))) (gy_f rfl) (fun hg => x_pand (b := (((decide (0 <= b_First)) && (decide (b_Last <= 3000))) && (decide (40 < (wr64 (b_Last - b_First)))))) (r := decide ((wr64 (b_Last - b_First)) < 1000)) (gd_of (c := !((decide (65 < (b_Years.length : Int))) || (decide (10 < (b_Olds.length : Int))))) hg (B (((decide (0 <= b_First)) && (decide (b_Last <= 3000))) && (decide (40 < (wr64 (b_Last - b_First))))))) (fun hb => gd_of (c := ((!((decide (65 < (b_Years.length : Int))) || (decide (10 < (b_Olds.length : Int))))) && (((decide (0 <= b_First)) && (decide (b_Last <= 3000))) && (decide (40 < (wr64 (b_Last - b_First))))))) (by first | exact hb | (rw [hb]; rfl) | simp_all) (B (decide ((wr64 (b_Last - b_First)) < 1000)))) rfl) ?_
 refine s_val (x_por (b := ((decide (65 < (b_Years.length : Int))) || (decide (10 < (b_Olds.length : Int))))) (r := ((((decide (0 <= b_First)) && (decide (b_Last <= 3000))) && (decide (40 < (wr64 (b_Last - b_First))))) && (decide ((wr64 (b_Last - b_First)) < 1000)))) rfl rfl (fun hb => gd_of (c := !((decide (65 < (b_Years.length : Int))) || (decide (10 < (b_Olds.length : Int))))) (by first | exact hb | (rw [hb]; rfl) | simp_all) (B ((((decide (0 <= b_First)) && (decide (b_Last <= 3000))) && (decide (40 < (wr64 (b_Last - b_First))))) && (decide ((wr64 (b_Last - b_First)) < 1000)))))) ?_
 refine s_nil ?_
 refine W.cond (((decide (65 < (b_Years.length : Int))) || (decide (10 < (b_Olds.length : Int)))) || ((((decide (0 <= b_First)) && (decide (b_Last <= 3000))) && (decide (40 < (wr64 (b_Last - b_First))))) && (decide ((wr64 (b_Last - b_First)) < 1000)))) rfl (fun c4z => ?_) (fun c4z => ?_)
 ·replace hM := M.e_t hM c4z
  refine W.seq ?_
  refine W.region rfl ?_
  refine s_val (x_as (v := B true) rfl) ?_
  refine s_nil ?_
  refine W.ret ?_
  have hr_ := M.e_pure hM
  exact ⟨_, resE_tmp rfl, ⟨true, hr_, rfl, (H.pick [] (by decide) rfl)⟩⟩
 ·replace hM := M.e_f hM c4z
  refine W.skip ?_
  refine W.seq ?_
  refine W.seq ?_
  refine W.region rfl ?_
  refine s_val (x_as (v := I 0) rfl) ?_
  refine s_nil ?_
  refine W.block ?_
  obtain ⟨ex5z, hi6z, hk7z⟩ := M.e_bind hM
  obtain ⟨m0_, hi6z⟩ := M.e_iter hi6z
  refine W.loop (fun m σ W => ∃ (i : Nat) (ρ : Env), σ = upds ρ [(1, .pointer (some ⟨b_1, 0, none⟩)), (3, I (i : Int))] /\ M.iterN (m_nilometerlaw10_long_b0 b_Olds) m i = some ex5z /\ St w W [cBlk b_1 [v_b_Years, v_b_Olds, I b_First, I b_Last] 26] R) ?_ ?_
  ·exact ⟨_, 0, _, upds_of _ _ ⟨rfl, rfl, trivial⟩, hi6z, H⟩
  ·rintro m10z σ w8z ⟨i, ρ, rfl, hI9z, H⟩
   obtain ⟨m11z, lt12z, x13z, hM, hN14z⟩ := M.e_iterN hI9z
   simp only [m_nilometerlaw10_long_b0] at hM
   clear hI9z
   refine W.seq ?_
   refine W.seq ?_
   refine W.region rfl ?_
   refine s_val (x_mv (v := I (i : Int)) rfl) ?_
   refine s_val (x_fa (a := .pointer (some ⟨b_1, 0, none⟩)) (v := .pointer (some ⟨b_1, 1, none⟩)) rfl (fa_blk (o := 0) Fd26_1 Sz24)) ?_
   refine s_val (x_ld (p := .pointer (some ⟨b_1, 1, none⟩)) (v := v_b_Olds) rfl (ldb_sc Sc24 (H.blk (k := 0) rfl) rfl)) ?_
   have hl15z := (hs_b_Olds).len_le
   refine s_val (x_lenS T24.und rfl hs_b_Olds) ?_
   refine s_val (x_cmp (kd := .i64) (a := (i : Int)) (b := (b_Olds.length : Int)) (r := decide ((i : Int) < (b_Olds.length : Int))) rfl rfl rfl) ?_
   refine s_nil ?_
   refine W.cond (decide ((i : Int) < (b_Olds.length : Int))) rfl (fun c16z => ?_) (fun c16z => ?_)
   ·replace hM := M.e_t hM c16z
    simp only [decide_eq_true_eq, decide_eq_false_iff_not, beq_iff_eq, bne_iff_ne, beq_eq_false_iff_ne, bne_eq_false_iff_eq, ne_eq, Decidable.not_not] at c16z
    refine W.skip ?_
    refine W.seq ?_
    refine W.block ?_
    refine W.seq ?_
    refine W.region rfl ?_
    refine s_val (x_fa (a := .pointer (some ⟨b_1, 0, none⟩)) (v := .pointer (some ⟨b_1, 1, none⟩)) rfl (fa_blk (o := 0) Fd26_1 Sz24)) ?_
    refine s_val (x_ld (p := .pointer (some ⟨b_1, 1, none⟩)) (v := v_b_Olds) rfl (ldb_sc Sc24 (H.blk (k := 0) rfl) rfl)) ?_
    refine s_val (x_mv (v := I (i : Int)) rfl) ?_
    obtain ⟨sd17z, hM⟩ := M.e_grd hM
    simp only [Bool.and_eq_true, decide_eq_true_eq] at sd17z
    refine s_val (x_ix (a := v_b_Olds) (b := I (i : Int)) (v := vat v_b_Olds 4 (Int.toNat (i : Int))) rfl rfl (Sl.ix (α := Old10) T24.und T24.size hs_b_Olds (by omega) (by omega))) ?_
    refine s_val (x_fa (a := vat v_b_Olds 4 (Int.toNat (i : Int))) (v := fat (vat v_b_Olds 4 (Int.toNat (i : Int))) 3) rfl (fa_pl Fd43_3 Sz27 (Sl.pl (i := (i : Int)) hs_b_Olds (by omega) (by omega)))) ?_
    obtain ⟨u18z, ha_u18z, hs19z⟩ := Old10_at3 hs_b_Olds (i := (i : Int)) (by omega) (by omega)
    replace hs19z : Sl _ u18z (b_Olds.getD i default).passed := hs19z
    have hl_hs19z := hs19z.len_le
    refine s_val (x_ld (p := fat (vat v_b_Olds 4 (Int.toNat (i : Int))) 3) (v := u18z) rfl (ld_sc Sc27 (At.mono (ha_u18z) (hC_b_Olds.at H)))) ?_
    have hl20z := (hs19z).len_le
    refine s_val (x_lenS T27.und rfl hs19z) ?_
    refine s_val (x_cmp (kd := .i64) (a := (((b_Olds.getD i default).passed).length : Int)) (b := 12) (r := decide (12 < (((b_Olds.getD i default).passed).length : Int))) rfl rfl rfl) ?_
    refine s_nil ?_
    refine W.cond (decide (12 < (((b_Olds.getD i default).passed).length : Int))) rfl (fun c21z => ?_) (fun c21z => ?_)
    ·replace hM := M.e_t hM c21z
     simp only [decide_eq_true_eq, decide_eq_false_iff_not, beq_iff_eq, bne_iff_ne, beq_eq_false_iff_ne, bne_eq_false_iff_eq, ne_eq, Decidable.not_not] at c21z
     refine W.seq ?_
     refine W.region rfl ?_
     refine s_val (x_as (v := B true) rfl) ?_
     refine s_nil ?_
     refine W.ret ?_
     have hX22z := M.e_inr hM hN14z
     subst hX22z
     replace hM := hk7z
     try dsimp only at hM
     have hr_ := M.e_pure hM
     exact ⟨_, resE_tmp rfl, ⟨true, hr_, rfl, (H.pick [] (by decide) rfl)⟩⟩
    ·replace hM := M.e_f hM c21z
     simp only [decide_eq_true_eq, decide_eq_false_iff_not, beq_iff_eq, bne_iff_ne, beq_eq_false_iff_ne, bne_eq_false_iff_eq, ne_eq, Decidable.not_not] at c21z
     refine W.skip ?_
     refine W.region rfl ?_
     refine s_val (x_mv (v := I (i : Int)) rfl) ?_
     refine s_val (x_ari (a := (i : Int)) (b := 1) (r := (i : Int) + 1) rfl rfl rfl (by omega)) ?_
     refine s_val (x_as (v := I ((i : Int) + 1)) rfl) ?_
     refine s_nil ?_
     exact ⟨m11z, lt12z, i + 1, _, upds_of _ _ ⟨rfl, rfl, trivial⟩, M.e_inl hM hN14z, H⟩
   ·replace hM := M.e_f hM c16z
    simp only [decide_eq_true_eq, decide_eq_false_iff_not, beq_iff_eq, bne_iff_ne, beq_eq_false_iff_ne, bne_eq_false_iff_eq, ne_eq, Decidable.not_not] at c16z
    refine W.exit ?_
    have hX23z := M.e_inr hM hN14z
    subst hX23z
    replace hM := hk7z
    try dsimp only at hM
    refine W.seq ?_
    refine W.region rfl ?_
    refine s_val (x_as (v := B false) rfl) ?_
    refine s_nil ?_
    refine W.ret ?_
    have hr_ := M.e_pure hM
    exact ⟨_, resE_tmp rfl, ⟨false, hr_, rfl, (H.pick [] (by decide) rfl)⟩⟩

def m_nilometerkit_Copy_often_Year (l : List Yr) : M (List Yr) :=
  M.grd (decide ((([] : List Yr).length + l.length) * 24 <= 140737488355328)) <|
  M.pure l
set_option maxRecDepth 100000 in
set_option maxHeartbeats 16000000 in
theorem nilometerkit_Copy_often_Year_ok {R : List Chunk} {C_l : Cells} {v_l : Value} (l : List Yr) (hC_l : Reads R C_l) (hs_l : Sl C_l v_l l) {r : (List Yr)} (hM : (m_nilometerkit_Copy_often_Year l).Ends r) (w : World) (H : St w w [] R) : Ret Try.prog 57 #[v_l] w fun v w' => ∃ (y0 : List Yr) (u0 : Value), y0 = r /\ v = u0 /\ St w w' [cOwn (α := Yr) 41 u0 y0] R := by
 refine ret_of_W Try.func57 rfl rfl rfl ?_
 refine W.seq ?_
 refine W.region rfl ?_
 refine s_val (x_as (v := .slice none 0 0) rfl) ?_
 refine s_nil ?_
 refine W.seq ?_
 refine W.region rfl ?_
 refine s_val (x_as (v := .slice none 0 0) rfl) ?_
 refine s_nil ?_
 refine W.seq ?_
 refine W.region rfl ?_
 refine s_val (x_mv (v := .slice none 0 0) rfl) ?_
 refine s_val (x_mv (v := v_l) rfl) ?_
 replace H : St w w [cOwn (α := Yr) 41 (.slice none 0 0) ([])] R := H.nilOwn (α := Yr) 41
 obtain ⟨sd1z, hM⟩ := M.e_grd hM
 simp only [Bool.and_eq_true, decide_eq_true_eq] at sd1z
 refine t_app (α := Yr) (k := 0) (l := []) (l2 := l) (l' := l) (vy := v_l) T23 rfl H rfl rfl rfl hs_l (hC_l.at H) (List.nil_append _) (by first | omega | (simp only [List.length_nil] at *; omega)) ?_
 intro v2z w3z H
 replace H : St w w3z [cOwn (α := Yr) 41 v2z l] R := H
 refine s_val (x_as (v := v2z) rfl) ?_
 refine s_nil ?_
 refine W.ret ?_
 have hr_ := M.e_pure hM
 exact ⟨_, resE_tmp rfl, ⟨l, v2z, hr_, rfl, H⟩⟩

def m_nilometerlaw10_Copy_b0 (b_Olds : List Old10) : (Nat × (List Old10)) -> M ((Nat × (List Old10)) ⊕ ((List Old10) × (List Old10))) := fun (i, l) =>
  bif decide ((i : Int) < (b_Olds.length : Int)) then (
  M.grd (decide ((i : Int) < (b_Olds.length : Int))) <|
  M.bind (m_nilometerkit_Copy_int ((b_Olds.getD i default).passed)) fun r3 =>
  M.grd (decide ((l.length + ([(⟨((b_Olds.getD i default).src : Int), ((b_Olds.getD i default).dst : Int), ((b_Olds.getD i default).stage : Int), r3⟩ : Old10)]).length) * 48 <= 140737488355328)) <|
  M.pure (.inl (i + 1, l ++ ([(⟨((b_Olds.getD i default).src : Int), ((b_Olds.getD i default).dst : Int), ((b_Olds.getD i default).stage : Int), r3⟩ : Old10)]))))
  else (
  M.pure (.inr (l, l)))
def m_nilometerlaw10_Copy (b_Years : List Yr) (b_Olds : List Old10) (b_First : Int) (b_Last : Int) : M ((List Yr) × (List Old10) × Int × Int) :=
  M.bind (m_nilometerkit_Copy_often_Year b_Years) fun r2 =>
  M.bind (M.iter (m_nilometerlaw10_Copy_b0 b_Olds) (0, [])) fun (l2, l3) =>
  M.pure (r2, l3, b_First, b_Last)
set_option maxRecDepth 100000 in
set_option maxHeartbeats 16000000 in
theorem nilometerlaw10_Copy_ok {R : List Chunk} {C_b_Years : Cells} {v_b_Years : Value} {C_b_Olds : Cells} {v_b_Olds : Value} (b_Years : List Yr) (b_Olds : List Old10) (b_First : Int) (b_Last : Int) (hC_b_Years : Reads R C_b_Years) (hs_b_Years : Sl C_b_Years v_b_Years b_Years) (hC_b_Olds : Reads R C_b_Olds) (hs_b_Olds : Sl C_b_Olds v_b_Olds b_Olds) {r : ((List Yr) × (List Old10) × Int × Int)} (hM : (m_nilometerlaw10_Copy b_Years b_Olds b_First b_Last).Ends r) (w : World) (H : St w w [] R) : Ret Try.prog 16 #[.agg #[v_b_Years, v_b_Olds, I b_First, I b_Last]] w fun v w' => ∃ (y0 : List Yr) (y1 : List Old10) (y2 : Int) (y3 : Int) (u0 : Value) (u1 : Value) (rr2 : List (Raw 3)) (Bs3 : Base), (y0, y1, y2, y3) = r /\ v = .agg #[u0, u1, I y2, I y3] /\ St w w' [cOwn (α := Yr) 41 u0 y0, cOwn (α := Raw 3) 43 u1 rr2, cRo Bs3] R /\ RepR (α := Old10) Bs3.cells rr2 y1 := by
 refine ret_of_W Try.func16 rfl rfl rfl ?_
 refine W.seq ?_
 refine W.region rfl ?_
 refine t_box (v := .agg #[v_b_Years, v_b_Olds, I b_First, I b_Last]) (cs := [v_b_Years, v_b_Olds, I b_First, I b_Last]) H rfl rfl ?_
 intro b_1 w1z H
 refine t_alloc (cs := [.slice none 0 0, .slice none 0 0, I 0, I 0]) H Al26 rfl ?_
 intro b_2 w2z H
 refine s_nil ?_
 refine W.seq ?_
 refine W.drawT (fun W => St w W [cBlk b_2 [.slice none 0 0, .slice none 0 0, I 0, I 0] 26, cBlk b_1 [v_b_Years, v_b_Olds, I b_First, I b_Last] 26] R) (.q 0 (.q 1 (.q 2 (.q 3 (.q 4 (.q 5 (.l2 6 (.q 7 (.l 8 (.l 9 .nil))) 8 (.l 6 (.q 7 (.l 9 .nil)))))))))) mixed (by decide +kernel) rfl ?_
 intro w3z hx_
 replace H : St w w3z [cBlk b_2 [.slice none 0 0, .slice none 0 0, I 0, I 0] 26, cBlk b_1 [v_b_Years, v_b_Olds, I b_First, I b_Last] 26] R := H.ext hx_
 clear hx_
 refine ⟨(H.pick [0, 1] (by decide) rfl), ?_⟩
 refine t_q rfl (fun w' H => x_fa (a := .pointer (some ⟨b_1, 0, none⟩)) (v := .pointer (some ⟨b_1, 2, none⟩)) rfl (fa_blk (o := 0) Fd26_2 Sz3)) ?_
 refine t_q rfl (fun w' H => x_ld (p := .pointer (some ⟨b_1, 2, none⟩)) (v := I b_First) rfl (ldb_sc Sc3 (H.blk (k := 1) rfl) rfl)) ?_
 refine t_q rfl (fun w' H => x_fa (a := .pointer (some ⟨b_1, 0, none⟩)) (v := .pointer (some ⟨b_1, 3, none⟩)) rfl (fa_blk (o := 0) Fd26_3 Sz3)) ?_
 refine t_q rfl (fun w' H => x_ld (p := .pointer (some ⟨b_1, 3, none⟩)) (v := I b_Last) rfl (ldb_sc Sc3 (H.blk (k := 1) rfl) rfl)) ?_
 refine t_q rfl (fun w' H => x_fa (a := .pointer (some ⟨b_1, 0, none⟩)) (v := .pointer (some ⟨b_1, 0, none⟩)) rfl (fa_blk (o := 0) Fd26_0 Sz23)) ?_
 refine t_q rfl (fun w' H => x_ld (p := .pointer (some ⟨b_1, 0, none⟩)) (v := v_b_Years) rfl (ldb_sc Sc23 (H.blk (k := 1) rfl) rfl)) ?_
 refine t_l2 rfl rfl ?_ ?_
 ·skip
  obtain ⟨r16z, hx15z, hM⟩ := M.e_bind hM
  refine s_call cf57 [v_b_Years] rfl (nilometerkit_Copy_often_Year_ok b_Years (hC_b_Years.app _) hs_b_Years hx15z _ (St.give (T := [cBlk b_2 [.slice none 0 0, .slice none 0 0, I 0, I 0] 26, cBlk b_1 [v_b_Years, v_b_Olds, I b_First, I b_Last] 26]) H rfl)) ?_
  rintro vq w17z ⟨r2, u0_3, hr18z, hvq, H2_⟩
  subst hr18z
  subst vq
  try dsimp only at hM
  replace H : St w w17z [cOwn (α := Yr) 41 u0_3 r2, cBlk b_2 [.slice none 0 0, .slice none 0 0, I 0, I 0] 26, cBlk b_1 [v_b_Years, v_b_Olds, I b_First, I b_Last] 26] R := H.back H2_ rfl
  clear H2_
  have hvc_q19z := Sl.cells (ownSl (H.get (k := 0) rfl))
  have hvo_q19z := Sl.oc (ownSl (H.get (k := 0) rfl))
  refine s_nil ⟨(H.pick [1, 2] (by decide) rfl), ?_⟩
  refine t_q rfl (fun w' H => x_bld (ps := [(2, I b_First), (3, I b_Last), (0, u0_3)]) (zs := [.slice none 0 0, .slice none 0 0, I 0, I 0]) (L' := [u0_3, .slice none 0 0, I b_First, I b_Last]) rfl Try.underlying26 Al26 rfl (Bd26 Try.underlying26) (.cons (cs := [I b_First]) rfl rfl rfl rfl rfl <| .cons (cs := [I b_Last]) rfl rfl rfl rfl rfl <| .cons (cs := [u0_3]) hvc_q19z rfl rfl rfl rfl <| .nil)) ?_
  refine t_l rfl ?_
  refine t_alloc (cs := [.slice none 0 0, .slice none 0 0, I 0, I 0]) H Al26 rfl ?_
  intro b_4 w20z H
  refine s_nil ⟨(H.pick [2, 3] (by decide) rfl), ?_⟩
  refine t_l rfl ?_
  refine t_st (k := 0) (b := b_4) (off := 0) (cs := [.slice none 0 0, .slice none 0 0, I 0, I 0]) (vs := [u0_3, .slice none 0 0, I b_First, I b_Last]) (cs' := [u0_3, .slice none 0 0, I b_First, I b_Last]) (v := .agg #[u0_3, .slice none 0 0, I b_First, I b_Last]) (L' := [cBlk b_4 [u0_3, .slice none 0 0, I b_First, I b_Last] 26, cOwn (α := Yr) 41 u0_3 r2, cBlk b_2 [.slice none 0 0, .slice none 0 0, I 0, I 0] 26, cBlk b_1 [v_b_Years, v_b_Olds, I b_First, I b_Last] 26]) H rfl rfl rfl Sz26 rfl rfl rfl (by simp only [List.all_cons, List.all_nil, Bool.true_and, Bool.and_true, Sl.oc (ownSl (H.get (k := 1) rfl))]; try rfl) rfl rfl ?_
  intro w21z H
  refine s_nil ⟨(H.pick [2, 3] (by decide) rfl), ?_⟩
  refine t_nil ?_
  refine W.seq ?_
  refine W.seq ?_
  refine W.region rfl ?_
  refine s_val (x_as (v := I 0) rfl) ?_
  refine s_nil ?_
  refine W.block ?_
  obtain ⟨Bs_14, H⟩ := H.emptyE
  replace H : St w w21z [cOwn (α := Raw 3) 43 (.slice none 0 0) ([]), cRo Bs_14, cBlk b_4 [u0_3, .slice none 0 0, I b_First, I b_Last] 26, cOwn (α := Yr) 41 u0_3 r2, cBlk b_2 [.slice none 0 0, .slice none 0 0, I 0, I 0] 26, cBlk b_1 [v_b_Years, v_b_Olds, I b_First, I b_Last] 26] R := H.nilOwn (α := Raw 3) 43
  have hr22z : RepR (α := Old10) (n := 3) Bs_14.cells [] [] := .nil
  obtain ⟨ex23z, hi24z, hk25z⟩ := M.e_bind hM
  obtain ⟨m0_, hi24z⟩ := M.e_iter hi24z
  refine W.loop (fun m σ W => ∃ (i : Nat) (l : List Old10) (v_l : Value) (rw_l : List (Raw 3)) (B_l : Base) (ρ : Env), σ = upds ρ [(1, .pointer (some ⟨b_1, 0, none⟩)), (2, .pointer (some ⟨b_2, 0, none⟩)), (3, .pointer (some ⟨b_4, 0, none⟩)), (4, I (i : Int))] /\ M.iterN (m_nilometerlaw10_Copy_b0 b_Olds) m (i, l) = some ex23z /\ St w W [cOwn (α := Raw 3) 43 v_l rw_l, cRo B_l, cBlk b_4 [u0_3, v_l, I b_First, I b_Last] 26, cOwn (α := Yr) 41 u0_3 r2, cBlk b_2 [.slice none 0 0, .slice none 0 0, I 0, I 0] 26, cBlk b_1 [v_b_Years, v_b_Olds, I b_First, I b_Last] 26] R /\ RepR (α := Old10) B_l.cells rw_l l) ?_ ?_
  ·exact ⟨_, 0, [], (.slice none 0 0), [], Bs_14, _, upds_of _ _ ⟨rfl, rfl, rfl, rfl, trivial⟩, hi24z, H, hr22z⟩
  ·rintro m28z σ w26z ⟨i, l, v_l, rw_l, B_l, ρ, rfl, hI27z, H, hr_l⟩
   obtain ⟨m29z, lt30z, x31z, hM, hN32z⟩ := M.e_iterN hI27z
   simp only [m_nilometerlaw10_Copy_b0] at hM
   clear hI27z
   refine W.seq ?_
   refine W.seq ?_
   refine W.region rfl ?_
   refine s_val (x_mv (v := I (i : Int)) rfl) ?_
   refine s_val (x_fa (a := .pointer (some ⟨b_1, 0, none⟩)) (v := .pointer (some ⟨b_1, 1, none⟩)) rfl (fa_blk (o := 0) Fd26_1 Sz24)) ?_
   refine s_val (x_ld (p := .pointer (some ⟨b_1, 1, none⟩)) (v := v_b_Olds) rfl (ldb_sc Sc24 (H.blk (k := 5) rfl) rfl)) ?_
   have hl33z := (hs_b_Olds).len_le
   refine s_val (x_lenS T24.und rfl hs_b_Olds) ?_
   refine s_val (x_cmp (kd := .i64) (a := (i : Int)) (b := (b_Olds.length : Int)) (r := decide ((i : Int) < (b_Olds.length : Int))) rfl rfl rfl) ?_
   refine s_nil ?_
   refine W.cond (decide ((i : Int) < (b_Olds.length : Int))) rfl (fun c34z => ?_) (fun c34z => ?_)
   ·replace hM := M.e_t hM c34z
    simp only [decide_eq_true_eq, decide_eq_false_iff_not, beq_iff_eq, bne_iff_ne, beq_eq_false_iff_ne, bne_eq_false_iff_eq, ne_eq, Decidable.not_not] at c34z
    refine W.skip ?_
    refine W.seq ?_
    refine W.block ?_
    refine W.seq ?_
    refine W.region rfl ?_
    refine s_val (x_fa (a := .pointer (some ⟨b_1, 0, none⟩)) (v := .pointer (some ⟨b_1, 1, none⟩)) rfl (fa_blk (o := 0) Fd26_1 Sz24)) ?_
    refine s_val (x_ld (p := .pointer (some ⟨b_1, 1, none⟩)) (v := v_b_Olds) rfl (ldb_sc Sc24 (H.blk (k := 5) rfl) rfl)) ?_
    refine s_val (x_mv (v := I (i : Int)) rfl) ?_
    obtain ⟨sd35z, hM⟩ := M.e_grd hM
    simp only [Bool.and_eq_true, decide_eq_true_eq] at sd35z
    refine s_val (x_ix (a := v_b_Olds) (b := I (i : Int)) (v := vat v_b_Olds 4 (Int.toNat (i : Int))) rfl rfl (Sl.ix (α := Old10) T24.und T24.size hs_b_Olds (by omega) (by omega))) ?_
    obtain ⟨u36z, ha38z, hs37z⟩ := Old10_atA hs_b_Olds (i := (i : Int)) (by omega) (by omega)
    replace hs37z : Sl _ u36z (b_Olds.getD i default).passed := hs37z
    have hl_hs37z := hs37z.len_le
    refine s_val (x_ld (p := vat v_b_Olds 4 (Int.toNat (i : Int))) (v := .agg #[I ((b_Olds.getD i default).src), I ((b_Olds.getD i default).dst), I ((b_Olds.getD i default).stage), u36z]) rfl (ld_ag Ag43 Sz43 (At.mono ha38z (hC_b_Olds.at H)))) ?_
    refine t_alloc (cs := [I 0, I 0, I 0, .slice none 0 0]) H Al43 rfl ?_
    intro b_5 w39z H
    refine t_st (k := 0) (b := b_5) (off := 0) (cs := [I 0, I 0, I 0, .slice none 0 0]) (vs := [I ((b_Olds.getD i default).src), I ((b_Olds.getD i default).dst), I ((b_Olds.getD i default).stage), u36z]) (cs' := [I ((b_Olds.getD i default).src), I ((b_Olds.getD i default).dst), I ((b_Olds.getD i default).stage), u36z]) (v := .agg #[I ((b_Olds.getD i default).src), I ((b_Olds.getD i default).dst), I ((b_Olds.getD i default).stage), u36z]) (L' := [cBlk b_5 [I ((b_Olds.getD i default).src), I ((b_Olds.getD i default).dst), I ((b_Olds.getD i default).stage), u36z] 43, cOwn (α := Raw 3) 43 v_l rw_l, cRo B_l, cBlk b_4 [u0_3, v_l, I b_First, I b_Last] 26, cOwn (α := Yr) 41 u0_3 r2, cBlk b_2 [.slice none 0 0, .slice none 0 0, I 0, I 0] 26, cBlk b_1 [v_b_Years, v_b_Olds, I b_First, I b_Last] 26]) H rfl rfl rfl Sz43 rfl rfl rfl (by simp only [List.all_cons, List.all_nil, Bool.true_and, Bool.and_true, Sl.oc hs37z]; try rfl) rfl rfl ?_
    intro w40z H
    refine s_nil ?_
    refine W.seq ?_
    refine W.region rfl ?_
    refine s_val (x_fa (a := .pointer (some ⟨b_5, 0, none⟩)) (v := .pointer (some ⟨b_5, 3, none⟩)) rfl (fa_blk (o := 0) Fd43_3 Sz27)) ?_
    refine s_val (x_ld (p := .pointer (some ⟨b_5, 3, none⟩)) (v := u36z) rfl (ldb_sc Sc27 (H.blk (k := 0) rfl) rfl)) ?_
    obtain ⟨r42z, hx41z, hM⟩ := M.e_bind hM
    refine s_call cf31 [u36z] rfl (nilometerkit_Copy_int_ok ((b_Olds.getD i default).passed) (hC_b_Olds.app _) hs37z hx41z _ (St.give (T := [cBlk b_5 [I ((b_Olds.getD i default).src), I ((b_Olds.getD i default).dst), I ((b_Olds.getD i default).stage), u36z] 43, cOwn (α := Raw 3) 43 v_l rw_l, cRo B_l, cBlk b_4 [u0_3, v_l, I b_First, I b_Last] 26, cOwn (α := Yr) 41 u0_3 r2, cBlk b_2 [.slice none 0 0, .slice none 0 0, I 0, I 0] 26, cBlk b_1 [v_b_Years, v_b_Olds, I b_First, I b_Last] 26]) H rfl)) ?_
    rintro vq w43z ⟨r3, u0_6, hr44z, hvq, H2_⟩
    subst hr44z
    subst vq
    try dsimp only at hM
    replace H : St w w43z [cOwn (α := Int) 3 u0_6 r3, cBlk b_5 [I ((b_Olds.getD i default).src), I ((b_Olds.getD i default).dst), I ((b_Olds.getD i default).stage), u36z] 43, cOwn (α := Raw 3) 43 v_l rw_l, cRo B_l, cBlk b_4 [u0_3, v_l, I b_First, I b_Last] 26, cOwn (α := Yr) 41 u0_3 r2, cBlk b_2 [.slice none 0 0, .slice none 0 0, I 0, I 0] 26, cBlk b_1 [v_b_Years, v_b_Olds, I b_First, I b_Last] 26] R := H.back H2_ rfl
    clear H2_
    refine s_val (x_fa (a := .pointer (some ⟨b_5, 0, none⟩)) (v := .pointer (some ⟨b_5, 3, none⟩)) rfl (fa_blk (o := 0) Fd43_3 Sz27)) ?_
    refine t_st (k := 1) (b := b_5) (off := 3) (cs := [I ((b_Olds.getD i default).src), I ((b_Olds.getD i default).dst), I ((b_Olds.getD i default).stage), u36z]) (vs := [u0_6]) (cs' := [I ((b_Olds.getD i default).src), I ((b_Olds.getD i default).dst), I ((b_Olds.getD i default).stage), u0_6]) (v := u0_6) (L' := [cOwn (α := Int) 3 u0_6 r3, cBlk b_5 [I ((b_Olds.getD i default).src), I ((b_Olds.getD i default).dst), I ((b_Olds.getD i default).stage), u0_6] 43, cOwn (α := Raw 3) 43 v_l rw_l, cRo B_l, cBlk b_4 [u0_3, v_l, I b_First, I b_Last] 26, cOwn (α := Yr) 41 u0_3 r2, cBlk b_2 [.slice none 0 0, .slice none 0 0, I 0, I 0] 26, cBlk b_1 [v_b_Years, v_b_Olds, I b_First, I b_Last] 26]) H rfl rfl rfl Sz27 (Sl.cells (ownSl (H.get (k := 0) rfl))) rfl rfl (by simp only [List.all_cons, List.all_nil, Bool.true_and, Bool.and_true, Sl.oc (ownSl (H.get (k := 0) rfl))]; try rfl) rfl rfl ?_
    intro w45z H
    refine s_nil ?_
    refine W.region rfl ?_
    refine s_val (x_fa (a := .pointer (some ⟨b_4, 0, none⟩)) (v := .pointer (some ⟨b_4, 1, none⟩)) rfl (fa_blk (o := 0) Fd26_1 Sz24)) ?_
    refine s_val (x_ld (p := .pointer (some ⟨b_4, 1, none⟩)) (v := v_l) rfl (ldb_sc Sc24 (H.blk (k := 4) rfl) rfl)) ?_
    refine s_val (x_ld (p := .pointer (some ⟨b_5, 0, none⟩)) (v := .agg #[I ((b_Olds.getD i default).src), I ((b_Olds.getD i default).dst), I ((b_Olds.getD i default).stage), u0_6]) rfl (ldb_ag (ds := [I ((b_Olds.getD i default).src), I ((b_Olds.getD i default).dst), I ((b_Olds.getD i default).stage), u0_6]) Ag43 Sz43 (H.blk (k := 1) rfl) rfl rfl)) ?_
    obtain ⟨Bs_7, H⟩ := H.emptyE
    obtain ⟨Bs_8, H, hs47z⟩ := H.freezeE (k := 1) rfl
    replace H : St w w45z [cRo Bs_7, cRo Bs_8, cBlk b_5 [I ((b_Olds.getD i default).src), I ((b_Olds.getD i default).dst), I ((b_Olds.getD i default).stage), u0_6] 43, cOwn (α := Raw 3) 43 v_l rw_l, cRo B_l, cBlk b_4 [u0_3, v_l, I b_First, I b_Last] 26, cOwn (α := Yr) 41 u0_3 r2, cBlk b_2 [.slice none 0 0, .slice none 0 0, I 0, I 0] 26, cBlk b_1 [v_b_Years, v_b_Olds, I b_First, I b_Last] 26] R := H
    have hq46z := hs47z
    obtain ⟨Bs_9, H, le48z, le49z⟩ := H.joinE (i := 0) (j := 1) rfl rfl
    replace hq46z := hq46z.mono le49z
    obtain ⟨rw50z, hrw_rw50z⟩ : ∃ r : Raw 3, r.cs = [I ((b_Olds.getD i default).src), I ((b_Olds.getD i default).dst), I ((b_Olds.getD i default).stage), u0_6] := ⟨Raw.of [I ((b_Olds.getD i default).src), I ((b_Olds.getD i default).dst), I ((b_Olds.getD i default).stage), u0_6] rfl (by simp only [List.all_cons, List.all_nil, Bool.true_and, Bool.and_true, Sl.oc hq46z]; try rfl), rfl⟩
    have hr51z : RepR (α := Old10) Bs_9.cells [rw50z] [(⟨((b_Olds.getD i default).src : Int), ((b_Olds.getD i default).dst : Int), ((b_Olds.getD i default).stage : Int), r3⟩ : Old10)] := .cons (by rw [hrw_rw50z]; exact ⟨_, rfl, hq46z⟩) <| .nil
    refine t_bs (α := Raw 3) T24 [.agg #[I ((b_Olds.getD i default).src), I ((b_Olds.getD i default).dst), I ((b_Olds.getD i default).stage), u0_6]] [rw50z] H rfl (.cons (by rw [show (Flat.enc rw50z : List Value) = rw50z.cs from rfl, hrw_rw50z]; rfl) (Flat.rep_enc _ _) <| .nil) rfl rfl rfl ?_
    intro v52z w53z H
    replace H : St w w53z [cOwn (α := Raw 3) 43 v52z ([rw50z]), cRo Bs_9, cRo Bs_7, cRo Bs_8, cBlk b_5 [I ((b_Olds.getD i default).src), I ((b_Olds.getD i default).dst), I ((b_Olds.getD i default).stage), u0_6] 43, cOwn (α := Raw 3) 43 v_l rw_l, cRo B_l, cBlk b_4 [u0_3, v_l, I b_First, I b_Last] 26, cOwn (α := Yr) 41 u0_3 r2, cBlk b_2 [.slice none 0 0, .slice none 0 0, I 0, I 0] 26, cBlk b_1 [v_b_Years, v_b_Olds, I b_First, I b_Last] 26] R := H
    obtain ⟨sd54z, hM⟩ := M.e_grd hM
    simp only [Bool.and_eq_true, decide_eq_true_eq] at sd54z
    have hr55z := hr51z
    obtain ⟨Bs_13, H, le56z, le57z⟩ := H.joinE (i := 6) (j := 1) rfl rfl
    replace hr_l := hr_l.mono le56z
    replace hr55z := hr55z.mono le57z
    have hr60z := hr_l.app hr55z
    refine t_app (α := Raw 3) (k := 6) (l := rw_l) (l2 := [rw50z]) (l' := rw_l ++ ([rw50z])) (vy := v52z) T24 rfl H rfl rfl rfl (ownSl (H.get (k := 1) rfl)) (ownLe _ (H.get (k := 1) rfl)) (rfl) (by have a_ := hr_l.len; have b_ := hr55z.len; (try simp only [List.length_nil] at *); first | omega | (rw [a_, b_]; omega)) ?_
    intro v58z w59z H
    replace H : St w w59z [cRo Bs_13, cOwn (α := Raw 3) 43 v52z ([rw50z]), cRo Bs_9, cRo Bs_7, cRo Bs_8, cBlk b_5 [I ((b_Olds.getD i default).src), I ((b_Olds.getD i default).dst), I ((b_Olds.getD i default).stage), u0_6] 43, cOwn (α := Raw 3) 43 v58z (rw_l ++ ([rw50z])), cRo B_l, cBlk b_4 [u0_3, v_l, I b_First, I b_Last] 26, cOwn (α := Yr) 41 u0_3 r2, cBlk b_2 [.slice none 0 0, .slice none 0 0, I 0, I 0] 26, cBlk b_1 [v_b_Years, v_b_Olds, I b_First, I b_Last] 26] R := H
    refine s_val (x_fa (a := .pointer (some ⟨b_4, 0, none⟩)) (v := .pointer (some ⟨b_4, 1, none⟩)) rfl (fa_blk (o := 0) Fd26_1 Sz24)) ?_
    refine t_st (k := 8) (b := b_4) (off := 1) (cs := [u0_3, v_l, I b_First, I b_Last]) (vs := [v58z]) (cs' := [u0_3, v58z, I b_First, I b_Last]) (v := v58z) (L' := [cRo Bs_13, cOwn (α := Raw 3) 43 v52z ([rw50z]), cRo Bs_9, cRo Bs_7, cRo Bs_8, cBlk b_5 [I ((b_Olds.getD i default).src), I ((b_Olds.getD i default).dst), I ((b_Olds.getD i default).stage), u0_6] 43, cOwn (α := Raw 3) 43 v58z (rw_l ++ ([rw50z])), cRo B_l, cBlk b_4 [u0_3, v58z, I b_First, I b_Last] 26, cOwn (α := Yr) 41 u0_3 r2, cBlk b_2 [.slice none 0 0, .slice none 0 0, I 0, I 0] 26, cBlk b_1 [v_b_Years, v_b_Olds, I b_First, I b_Last] 26]) H rfl rfl rfl Sz24 (Sl.cells (rowSl rfl (H.get (k := 6) rfl) (roLe _ (H.get (k := 0) rfl)) hr60z)) rfl rfl (by simp only [List.all_cons, List.all_nil, Bool.true_and, Bool.and_true, Sl.oc (rowSl rfl (H.get (k := 6) rfl) (roLe _ (H.get (k := 0) rfl)) hr60z)]; try rfl) rfl rfl ?_
    intro w61z H
    refine s_nil ?_
    refine W.region rfl ?_
    refine s_val (x_mv (v := I (i : Int)) rfl) ?_
    refine s_val (x_ari (a := (i : Int)) (b := 1) (r := (i : Int) + 1) rfl rfl rfl (by omega)) ?_
    refine s_val (x_as (v := I ((i : Int) + 1)) rfl) ?_
    refine s_nil ?_
    exact ⟨m29z, lt30z, i + 1, l ++ ([(⟨((b_Olds.getD i default).src : Int), ((b_Olds.getD i default).dst : Int), ((b_Olds.getD i default).stage : Int), r3⟩ : Old10)]), v58z, rw_l ++ ([rw50z]), Bs_13, _, upds_of _ _ ⟨rfl, rfl, rfl, rfl, trivial⟩, M.e_inl hM hN32z, (H.pick [6, 0, 8, 9, 10, 11] (by decide) rfl), hr60z⟩
   ·replace hM := M.e_f hM c34z
    simp only [decide_eq_true_eq, decide_eq_false_iff_not, beq_iff_eq, bne_iff_ne, beq_eq_false_iff_ne, bne_eq_false_iff_eq, ne_eq, Decidable.not_not] at c34z
    refine W.exit ?_
    have hX62z := M.e_inr hM hN32z
    subst hX62z
    replace hM := hk25z
    try dsimp only at hM
    refine W.seq ?_
    refine W.region rfl ?_
    refine s_val (x_ld (p := .pointer (some ⟨b_4, 0, none⟩)) (v := .agg #[u0_3, v_l, I b_First, I b_Last]) rfl (ldb_ag (ds := [u0_3, v_l, I b_First, I b_Last]) Ag26 Sz26 (H.blk (k := 2) rfl) rfl rfl)) ?_
    refine t_st (k := 4) (b := b_2) (off := 0) (cs := [.slice none 0 0, .slice none 0 0, I 0, I 0]) (vs := [u0_3, v_l, I b_First, I b_Last]) (cs' := [u0_3, v_l, I b_First, I b_Last]) (v := .agg #[u0_3, v_l, I b_First, I b_Last]) (L' := [cOwn (α := Raw 3) 43 v_l rw_l, cRo B_l, cBlk b_4 [u0_3, v_l, I b_First, I b_Last] 26, cOwn (α := Yr) 41 u0_3 r2, cBlk b_2 [u0_3, v_l, I b_First, I b_Last] 26, cBlk b_1 [v_b_Years, v_b_Olds, I b_First, I b_Last] 26]) H rfl rfl rfl Sz26 rfl rfl rfl (by simp only [List.all_cons, List.all_nil, Bool.true_and, Bool.and_true, Sl.oc (ownSl (H.get (k := 3) rfl)), Sl.oc (rowSl rfl (H.get (k := 0) rfl) (roLe _ (H.get (k := 1) rfl)) hr_l)]; try rfl) rfl rfl ?_
    intro w63z H
    refine s_nil ?_
    refine W.ret ?_
    have hb64z := (H.blk (k := 4) rfl)
    have hr_ := M.e_pure hM
    exact ⟨_, (resE_of1 (v := .agg #[u0_3, v_l, I b_First, I b_Last]) rfl (.cell (v := .agg #[u0_3, v_l, I b_First, I b_Last]) rfl (run_loadVar_ag (ds := [u0_3, v_l, I b_First, I b_Last]) Ag26 Sz26 hb64z rfl rfl) <| .nil)), ⟨r2, l, b_First, b_Last, u0_3, v_l, rw_l, B_l, hr_, rfl, (H.pick [3, 0, 1] (by decide) rfl), hr_l⟩⟩
 ·skip
  refine t_alloc (cs := [.slice none 0 0, .slice none 0 0, I 0, I 0]) H Al26 rfl ?_
  intro b_4 w65z H
  refine s_nil ⟨(H.pick [1, 2] (by decide) rfl), ?_⟩
  refine t_l rfl ?_
  obtain ⟨r67z, hx66z, hM⟩ := M.e_bind hM
  refine s_call cf57 [v_b_Years] rfl (nilometerkit_Copy_often_Year_ok b_Years (hC_b_Years.app _) hs_b_Years hx66z _ (St.give (T := [cBlk b_4 [.slice none 0 0, .slice none 0 0, I 0, I 0] 26, cBlk b_2 [.slice none 0 0, .slice none 0 0, I 0, I 0] 26, cBlk b_1 [v_b_Years, v_b_Olds, I b_First, I b_Last] 26]) H rfl)) ?_
  rintro vq w68z ⟨r2, u0_3, hr69z, hvq, H2_⟩
  subst hr69z
  subst vq
  try dsimp only at hM
  replace H : St w w68z [cOwn (α := Yr) 41 u0_3 r2, cBlk b_4 [.slice none 0 0, .slice none 0 0, I 0, I 0] 26, cBlk b_2 [.slice none 0 0, .slice none 0 0, I 0, I 0] 26, cBlk b_1 [v_b_Years, v_b_Olds, I b_First, I b_Last] 26] R := H.back H2_ rfl
  clear H2_
  have hvc_q70z := Sl.cells (ownSl (H.get (k := 0) rfl))
  have hvo_q70z := Sl.oc (ownSl (H.get (k := 0) rfl))
  refine s_nil ⟨(H.pick [2, 3] (by decide) rfl), ?_⟩
  refine t_q rfl (fun w' H => x_bld (ps := [(2, I b_First), (3, I b_Last), (0, u0_3)]) (zs := [.slice none 0 0, .slice none 0 0, I 0, I 0]) (L' := [u0_3, .slice none 0 0, I b_First, I b_Last]) rfl Try.underlying26 Al26 rfl (Bd26 Try.underlying26) (.cons (cs := [I b_First]) rfl rfl rfl rfl rfl <| .cons (cs := [I b_Last]) rfl rfl rfl rfl rfl <| .cons (cs := [u0_3]) hvc_q70z rfl rfl rfl rfl <| .nil)) ?_
  refine t_l rfl ?_
  refine t_st (k := 1) (b := b_4) (off := 0) (cs := [.slice none 0 0, .slice none 0 0, I 0, I 0]) (vs := [u0_3, .slice none 0 0, I b_First, I b_Last]) (cs' := [u0_3, .slice none 0 0, I b_First, I b_Last]) (v := .agg #[u0_3, .slice none 0 0, I b_First, I b_Last]) (L' := [cOwn (α := Yr) 41 u0_3 r2, cBlk b_4 [u0_3, .slice none 0 0, I b_First, I b_Last] 26, cBlk b_2 [.slice none 0 0, .slice none 0 0, I 0, I 0] 26, cBlk b_1 [v_b_Years, v_b_Olds, I b_First, I b_Last] 26]) H rfl rfl rfl Sz26 rfl rfl rfl (by simp only [List.all_cons, List.all_nil, Bool.true_and, Bool.and_true, Sl.oc (ownSl (H.get (k := 0) rfl))]; try rfl) rfl rfl ?_
  intro w71z H
  refine s_nil ⟨(H.pick [2, 3] (by decide) rfl), ?_⟩
  refine t_nil ?_
  refine W.seq ?_
  refine W.seq ?_
  refine W.region rfl ?_
  refine s_val (x_as (v := I 0) rfl) ?_
  refine s_nil ?_
  refine W.block ?_
  obtain ⟨Bs_14, H⟩ := H.emptyE
  replace H : St w w71z [cOwn (α := Raw 3) 43 (.slice none 0 0) ([]), cRo Bs_14, cOwn (α := Yr) 41 u0_3 r2, cBlk b_4 [u0_3, .slice none 0 0, I b_First, I b_Last] 26, cBlk b_2 [.slice none 0 0, .slice none 0 0, I 0, I 0] 26, cBlk b_1 [v_b_Years, v_b_Olds, I b_First, I b_Last] 26] R := H.nilOwn (α := Raw 3) 43
  have hr72z : RepR (α := Old10) (n := 3) Bs_14.cells [] [] := .nil
  obtain ⟨ex73z, hi74z, hk75z⟩ := M.e_bind hM
  obtain ⟨m0_, hi74z⟩ := M.e_iter hi74z
  refine W.loop (fun m σ W => ∃ (i : Nat) (l : List Old10) (v_l : Value) (rw_l : List (Raw 3)) (B_l : Base) (ρ : Env), σ = upds ρ [(1, .pointer (some ⟨b_1, 0, none⟩)), (2, .pointer (some ⟨b_2, 0, none⟩)), (3, .pointer (some ⟨b_4, 0, none⟩)), (4, I (i : Int))] /\ M.iterN (m_nilometerlaw10_Copy_b0 b_Olds) m (i, l) = some ex73z /\ St w W [cOwn (α := Raw 3) 43 v_l rw_l, cRo B_l, cOwn (α := Yr) 41 u0_3 r2, cBlk b_4 [u0_3, v_l, I b_First, I b_Last] 26, cBlk b_2 [.slice none 0 0, .slice none 0 0, I 0, I 0] 26, cBlk b_1 [v_b_Years, v_b_Olds, I b_First, I b_Last] 26] R /\ RepR (α := Old10) B_l.cells rw_l l) ?_ ?_
  ·exact ⟨_, 0, [], (.slice none 0 0), [], Bs_14, _, upds_of _ _ ⟨rfl, rfl, rfl, rfl, trivial⟩, hi74z, H, hr72z⟩
  ·rintro m78z σ w76z ⟨i, l, v_l, rw_l, B_l, ρ, rfl, hI77z, H, hr_l⟩
   obtain ⟨m79z, lt80z, x81z, hM, hN82z⟩ := M.e_iterN hI77z
   simp only [m_nilometerlaw10_Copy_b0] at hM
   clear hI77z
   refine W.seq ?_
   refine W.seq ?_
   refine W.region rfl ?_
   refine s_val (x_mv (v := I (i : Int)) rfl) ?_
   refine s_val (x_fa (a := .pointer (some ⟨b_1, 0, none⟩)) (v := .pointer (some ⟨b_1, 1, none⟩)) rfl (fa_blk (o := 0) Fd26_1 Sz24)) ?_
   refine s_val (x_ld (p := .pointer (some ⟨b_1, 1, none⟩)) (v := v_b_Olds) rfl (ldb_sc Sc24 (H.blk (k := 5) rfl) rfl)) ?_
   have hl83z := (hs_b_Olds).len_le
   refine s_val (x_lenS T24.und rfl hs_b_Olds) ?_
   refine s_val (x_cmp (kd := .i64) (a := (i : Int)) (b := (b_Olds.length : Int)) (r := decide ((i : Int) < (b_Olds.length : Int))) rfl rfl rfl) ?_
   refine s_nil ?_
   refine W.cond (decide ((i : Int) < (b_Olds.length : Int))) rfl (fun c84z => ?_) (fun c84z => ?_)
   ·replace hM := M.e_t hM c84z
    simp only [decide_eq_true_eq, decide_eq_false_iff_not, beq_iff_eq, bne_iff_ne, beq_eq_false_iff_ne, bne_eq_false_iff_eq, ne_eq, Decidable.not_not] at c84z
    refine W.skip ?_
    refine W.seq ?_
    refine W.block ?_
    refine W.seq ?_
    refine W.region rfl ?_
    refine s_val (x_fa (a := .pointer (some ⟨b_1, 0, none⟩)) (v := .pointer (some ⟨b_1, 1, none⟩)) rfl (fa_blk (o := 0) Fd26_1 Sz24)) ?_
    refine s_val (x_ld (p := .pointer (some ⟨b_1, 1, none⟩)) (v := v_b_Olds) rfl (ldb_sc Sc24 (H.blk (k := 5) rfl) rfl)) ?_
    refine s_val (x_mv (v := I (i : Int)) rfl) ?_
    obtain ⟨sd85z, hM⟩ := M.e_grd hM
    simp only [Bool.and_eq_true, decide_eq_true_eq] at sd85z
    refine s_val (x_ix (a := v_b_Olds) (b := I (i : Int)) (v := vat v_b_Olds 4 (Int.toNat (i : Int))) rfl rfl (Sl.ix (α := Old10) T24.und T24.size hs_b_Olds (by omega) (by omega))) ?_
    obtain ⟨u86z, ha88z, hs87z⟩ := Old10_atA hs_b_Olds (i := (i : Int)) (by omega) (by omega)
    replace hs87z : Sl _ u86z (b_Olds.getD i default).passed := hs87z
    have hl_hs87z := hs87z.len_le
    refine s_val (x_ld (p := vat v_b_Olds 4 (Int.toNat (i : Int))) (v := .agg #[I ((b_Olds.getD i default).src), I ((b_Olds.getD i default).dst), I ((b_Olds.getD i default).stage), u86z]) rfl (ld_ag Ag43 Sz43 (At.mono ha88z (hC_b_Olds.at H)))) ?_
    refine t_alloc (cs := [I 0, I 0, I 0, .slice none 0 0]) H Al43 rfl ?_
    intro b_5 w89z H
    refine t_st (k := 0) (b := b_5) (off := 0) (cs := [I 0, I 0, I 0, .slice none 0 0]) (vs := [I ((b_Olds.getD i default).src), I ((b_Olds.getD i default).dst), I ((b_Olds.getD i default).stage), u86z]) (cs' := [I ((b_Olds.getD i default).src), I ((b_Olds.getD i default).dst), I ((b_Olds.getD i default).stage), u86z]) (v := .agg #[I ((b_Olds.getD i default).src), I ((b_Olds.getD i default).dst), I ((b_Olds.getD i default).stage), u86z]) (L' := [cBlk b_5 [I ((b_Olds.getD i default).src), I ((b_Olds.getD i default).dst), I ((b_Olds.getD i default).stage), u86z] 43, cOwn (α := Raw 3) 43 v_l rw_l, cRo B_l, cOwn (α := Yr) 41 u0_3 r2, cBlk b_4 [u0_3, v_l, I b_First, I b_Last] 26, cBlk b_2 [.slice none 0 0, .slice none 0 0, I 0, I 0] 26, cBlk b_1 [v_b_Years, v_b_Olds, I b_First, I b_Last] 26]) H rfl rfl rfl Sz43 rfl rfl rfl (by simp only [List.all_cons, List.all_nil, Bool.true_and, Bool.and_true, Sl.oc hs87z]; try rfl) rfl rfl ?_
    intro w90z H
    refine s_nil ?_
    refine W.seq ?_
    refine W.region rfl ?_
    refine s_val (x_fa (a := .pointer (some ⟨b_5, 0, none⟩)) (v := .pointer (some ⟨b_5, 3, none⟩)) rfl (fa_blk (o := 0) Fd43_3 Sz27)) ?_
    refine s_val (x_ld (p := .pointer (some ⟨b_5, 3, none⟩)) (v := u86z) rfl (ldb_sc Sc27 (H.blk (k := 0) rfl) rfl)) ?_
    obtain ⟨r92z, hx91z, hM⟩ := M.e_bind hM
    refine s_call cf31 [u86z] rfl (nilometerkit_Copy_int_ok ((b_Olds.getD i default).passed) (hC_b_Olds.app _) hs87z hx91z _ (St.give (T := [cBlk b_5 [I ((b_Olds.getD i default).src), I ((b_Olds.getD i default).dst), I ((b_Olds.getD i default).stage), u86z] 43, cOwn (α := Raw 3) 43 v_l rw_l, cRo B_l, cOwn (α := Yr) 41 u0_3 r2, cBlk b_4 [u0_3, v_l, I b_First, I b_Last] 26, cBlk b_2 [.slice none 0 0, .slice none 0 0, I 0, I 0] 26, cBlk b_1 [v_b_Years, v_b_Olds, I b_First, I b_Last] 26]) H rfl)) ?_
    rintro vq w93z ⟨r3, u0_6, hr94z, hvq, H2_⟩
    subst hr94z
    subst vq
    try dsimp only at hM
    replace H : St w w93z [cOwn (α := Int) 3 u0_6 r3, cBlk b_5 [I ((b_Olds.getD i default).src), I ((b_Olds.getD i default).dst), I ((b_Olds.getD i default).stage), u86z] 43, cOwn (α := Raw 3) 43 v_l rw_l, cRo B_l, cOwn (α := Yr) 41 u0_3 r2, cBlk b_4 [u0_3, v_l, I b_First, I b_Last] 26, cBlk b_2 [.slice none 0 0, .slice none 0 0, I 0, I 0] 26, cBlk b_1 [v_b_Years, v_b_Olds, I b_First, I b_Last] 26] R := H.back H2_ rfl
    clear H2_
    refine s_val (x_fa (a := .pointer (some ⟨b_5, 0, none⟩)) (v := .pointer (some ⟨b_5, 3, none⟩)) rfl (fa_blk (o := 0) Fd43_3 Sz27)) ?_
    refine t_st (k := 1) (b := b_5) (off := 3) (cs := [I ((b_Olds.getD i default).src), I ((b_Olds.getD i default).dst), I ((b_Olds.getD i default).stage), u86z]) (vs := [u0_6]) (cs' := [I ((b_Olds.getD i default).src), I ((b_Olds.getD i default).dst), I ((b_Olds.getD i default).stage), u0_6]) (v := u0_6) (L' := [cOwn (α := Int) 3 u0_6 r3, cBlk b_5 [I ((b_Olds.getD i default).src), I ((b_Olds.getD i default).dst), I ((b_Olds.getD i default).stage), u0_6] 43, cOwn (α := Raw 3) 43 v_l rw_l, cRo B_l, cOwn (α := Yr) 41 u0_3 r2, cBlk b_4 [u0_3, v_l, I b_First, I b_Last] 26, cBlk b_2 [.slice none 0 0, .slice none 0 0, I 0, I 0] 26, cBlk b_1 [v_b_Years, v_b_Olds, I b_First, I b_Last] 26]) H rfl rfl rfl Sz27 (Sl.cells (ownSl (H.get (k := 0) rfl))) rfl rfl (by simp only [List.all_cons, List.all_nil, Bool.true_and, Bool.and_true, Sl.oc (ownSl (H.get (k := 0) rfl))]; try rfl) rfl rfl ?_
    intro w95z H
    refine s_nil ?_
    refine W.region rfl ?_
    refine s_val (x_fa (a := .pointer (some ⟨b_4, 0, none⟩)) (v := .pointer (some ⟨b_4, 1, none⟩)) rfl (fa_blk (o := 0) Fd26_1 Sz24)) ?_
    refine s_val (x_ld (p := .pointer (some ⟨b_4, 1, none⟩)) (v := v_l) rfl (ldb_sc Sc24 (H.blk (k := 5) rfl) rfl)) ?_
    refine s_val (x_ld (p := .pointer (some ⟨b_5, 0, none⟩)) (v := .agg #[I ((b_Olds.getD i default).src), I ((b_Olds.getD i default).dst), I ((b_Olds.getD i default).stage), u0_6]) rfl (ldb_ag (ds := [I ((b_Olds.getD i default).src), I ((b_Olds.getD i default).dst), I ((b_Olds.getD i default).stage), u0_6]) Ag43 Sz43 (H.blk (k := 1) rfl) rfl rfl)) ?_
    obtain ⟨Bs_7, H⟩ := H.emptyE
    obtain ⟨Bs_8, H, hs97z⟩ := H.freezeE (k := 1) rfl
    replace H : St w w95z [cRo Bs_7, cRo Bs_8, cBlk b_5 [I ((b_Olds.getD i default).src), I ((b_Olds.getD i default).dst), I ((b_Olds.getD i default).stage), u0_6] 43, cOwn (α := Raw 3) 43 v_l rw_l, cRo B_l, cOwn (α := Yr) 41 u0_3 r2, cBlk b_4 [u0_3, v_l, I b_First, I b_Last] 26, cBlk b_2 [.slice none 0 0, .slice none 0 0, I 0, I 0] 26, cBlk b_1 [v_b_Years, v_b_Olds, I b_First, I b_Last] 26] R := H
    have hq96z := hs97z
    obtain ⟨Bs_9, H, le98z, le99z⟩ := H.joinE (i := 0) (j := 1) rfl rfl
    replace hq96z := hq96z.mono le99z
    obtain ⟨rw100z, hrw_rw100z⟩ : ∃ r : Raw 3, r.cs = [I ((b_Olds.getD i default).src), I ((b_Olds.getD i default).dst), I ((b_Olds.getD i default).stage), u0_6] := ⟨Raw.of [I ((b_Olds.getD i default).src), I ((b_Olds.getD i default).dst), I ((b_Olds.getD i default).stage), u0_6] rfl (by simp only [List.all_cons, List.all_nil, Bool.true_and, Bool.and_true, Sl.oc hq96z]; try rfl), rfl⟩
    have hr101z : RepR (α := Old10) Bs_9.cells [rw100z] [(⟨((b_Olds.getD i default).src : Int), ((b_Olds.getD i default).dst : Int), ((b_Olds.getD i default).stage : Int), r3⟩ : Old10)] := .cons (by rw [hrw_rw100z]; exact ⟨_, rfl, hq96z⟩) <| .nil
    refine t_bs (α := Raw 3) T24 [.agg #[I ((b_Olds.getD i default).src), I ((b_Olds.getD i default).dst), I ((b_Olds.getD i default).stage), u0_6]] [rw100z] H rfl (.cons (by rw [show (Flat.enc rw100z : List Value) = rw100z.cs from rfl, hrw_rw100z]; rfl) (Flat.rep_enc _ _) <| .nil) rfl rfl rfl ?_
    intro v102z w103z H
    replace H : St w w103z [cOwn (α := Raw 3) 43 v102z ([rw100z]), cRo Bs_9, cRo Bs_7, cRo Bs_8, cBlk b_5 [I ((b_Olds.getD i default).src), I ((b_Olds.getD i default).dst), I ((b_Olds.getD i default).stage), u0_6] 43, cOwn (α := Raw 3) 43 v_l rw_l, cRo B_l, cOwn (α := Yr) 41 u0_3 r2, cBlk b_4 [u0_3, v_l, I b_First, I b_Last] 26, cBlk b_2 [.slice none 0 0, .slice none 0 0, I 0, I 0] 26, cBlk b_1 [v_b_Years, v_b_Olds, I b_First, I b_Last] 26] R := H
    obtain ⟨sd104z, hM⟩ := M.e_grd hM
    simp only [Bool.and_eq_true, decide_eq_true_eq] at sd104z
    have hr105z := hr101z
    obtain ⟨Bs_13, H, le106z, le107z⟩ := H.joinE (i := 6) (j := 1) rfl rfl
    replace hr_l := hr_l.mono le106z
    replace hr105z := hr105z.mono le107z
    have hr110z := hr_l.app hr105z
    refine t_app (α := Raw 3) (k := 6) (l := rw_l) (l2 := [rw100z]) (l' := rw_l ++ ([rw100z])) (vy := v102z) T24 rfl H rfl rfl rfl (ownSl (H.get (k := 1) rfl)) (ownLe _ (H.get (k := 1) rfl)) (rfl) (by have a_ := hr_l.len; have b_ := hr105z.len; (try simp only [List.length_nil] at *); first | omega | (rw [a_, b_]; omega)) ?_
    intro v108z w109z H
    replace H : St w w109z [cRo Bs_13, cOwn (α := Raw 3) 43 v102z ([rw100z]), cRo Bs_9, cRo Bs_7, cRo Bs_8, cBlk b_5 [I ((b_Olds.getD i default).src), I ((b_Olds.getD i default).dst), I ((b_Olds.getD i default).stage), u0_6] 43, cOwn (α := Raw 3) 43 v108z (rw_l ++ ([rw100z])), cRo B_l, cOwn (α := Yr) 41 u0_3 r2, cBlk b_4 [u0_3, v_l, I b_First, I b_Last] 26, cBlk b_2 [.slice none 0 0, .slice none 0 0, I 0, I 0] 26, cBlk b_1 [v_b_Years, v_b_Olds, I b_First, I b_Last] 26] R := H
    refine s_val (x_fa (a := .pointer (some ⟨b_4, 0, none⟩)) (v := .pointer (some ⟨b_4, 1, none⟩)) rfl (fa_blk (o := 0) Fd26_1 Sz24)) ?_
    refine t_st (k := 9) (b := b_4) (off := 1) (cs := [u0_3, v_l, I b_First, I b_Last]) (vs := [v108z]) (cs' := [u0_3, v108z, I b_First, I b_Last]) (v := v108z) (L' := [cRo Bs_13, cOwn (α := Raw 3) 43 v102z ([rw100z]), cRo Bs_9, cRo Bs_7, cRo Bs_8, cBlk b_5 [I ((b_Olds.getD i default).src), I ((b_Olds.getD i default).dst), I ((b_Olds.getD i default).stage), u0_6] 43, cOwn (α := Raw 3) 43 v108z (rw_l ++ ([rw100z])), cRo B_l, cOwn (α := Yr) 41 u0_3 r2, cBlk b_4 [u0_3, v108z, I b_First, I b_Last] 26, cBlk b_2 [.slice none 0 0, .slice none 0 0, I 0, I 0] 26, cBlk b_1 [v_b_Years, v_b_Olds, I b_First, I b_Last] 26]) H rfl rfl rfl Sz24 (Sl.cells (rowSl rfl (H.get (k := 6) rfl) (roLe _ (H.get (k := 0) rfl)) hr110z)) rfl rfl (by simp only [List.all_cons, List.all_nil, Bool.true_and, Bool.and_true, Sl.oc (rowSl rfl (H.get (k := 6) rfl) (roLe _ (H.get (k := 0) rfl)) hr110z)]; try rfl) rfl rfl ?_
    intro w111z H
    refine s_nil ?_
    refine W.region rfl ?_
    refine s_val (x_mv (v := I (i : Int)) rfl) ?_
    refine s_val (x_ari (a := (i : Int)) (b := 1) (r := (i : Int) + 1) rfl rfl rfl (by omega)) ?_
    refine s_val (x_as (v := I ((i : Int) + 1)) rfl) ?_
    refine s_nil ?_
    exact ⟨m79z, lt80z, i + 1, l ++ ([(⟨((b_Olds.getD i default).src : Int), ((b_Olds.getD i default).dst : Int), ((b_Olds.getD i default).stage : Int), r3⟩ : Old10)]), v108z, rw_l ++ ([rw100z]), Bs_13, _, upds_of _ _ ⟨rfl, rfl, rfl, rfl, trivial⟩, M.e_inl hM hN82z, (H.pick [6, 0, 8, 9, 10, 11] (by decide) rfl), hr110z⟩
   ·replace hM := M.e_f hM c84z
    simp only [decide_eq_true_eq, decide_eq_false_iff_not, beq_iff_eq, bne_iff_ne, beq_eq_false_iff_ne, bne_eq_false_iff_eq, ne_eq, Decidable.not_not] at c84z
    refine W.exit ?_
    have hX112z := M.e_inr hM hN82z
    subst hX112z
    replace hM := hk75z
    try dsimp only at hM
    refine W.seq ?_
    refine W.region rfl ?_
    refine s_val (x_ld (p := .pointer (some ⟨b_4, 0, none⟩)) (v := .agg #[u0_3, v_l, I b_First, I b_Last]) rfl (ldb_ag (ds := [u0_3, v_l, I b_First, I b_Last]) Ag26 Sz26 (H.blk (k := 3) rfl) rfl rfl)) ?_
    refine t_st (k := 4) (b := b_2) (off := 0) (cs := [.slice none 0 0, .slice none 0 0, I 0, I 0]) (vs := [u0_3, v_l, I b_First, I b_Last]) (cs' := [u0_3, v_l, I b_First, I b_Last]) (v := .agg #[u0_3, v_l, I b_First, I b_Last]) (L' := [cOwn (α := Raw 3) 43 v_l rw_l, cRo B_l, cOwn (α := Yr) 41 u0_3 r2, cBlk b_4 [u0_3, v_l, I b_First, I b_Last] 26, cBlk b_2 [u0_3, v_l, I b_First, I b_Last] 26, cBlk b_1 [v_b_Years, v_b_Olds, I b_First, I b_Last] 26]) H rfl rfl rfl Sz26 rfl rfl rfl (by simp only [List.all_cons, List.all_nil, Bool.true_and, Bool.and_true, Sl.oc (ownSl (H.get (k := 2) rfl)), Sl.oc (rowSl rfl (H.get (k := 0) rfl) (roLe _ (H.get (k := 1) rfl)) hr_l)]; try rfl) rfl rfl ?_
    intro w113z H
    refine s_nil ?_
    refine W.ret ?_
    have hb114z := (H.blk (k := 4) rfl)
    have hr_ := M.e_pure hM
    exact ⟨_, (resE_of1 (v := .agg #[u0_3, v_l, I b_First, I b_Last]) rfl (.cell (v := .agg #[u0_3, v_l, I b_First, I b_Last]) rfl (run_loadVar_ag (ds := [u0_3, v_l, I b_First, I b_Last]) Ag26 Sz26 hb114z rfl rfl) <| .nil)), ⟨r2, l, b_First, b_Last, u0_3, v_l, rw_l, B_l, hr_, rfl, (H.pick [2, 0, 1] (by decide) rfl), hr_l⟩⟩

def m_nilometerlaw10_Book_b0 (b_Years : List Yr) : (Nat × (List Yr)) -> M ((Nat × (List Yr)) ⊕ ((List Yr) × (List Yr))) := fun (i, l) =>
  bif decide ((i : Int) < (b_Years.length : Int)) then (
  M.grd (decide ((i : Int) < (b_Years.length : Int))) <|
  M.grd (decide ((l.length + ([(b_Years.getD i default)]).length) * 24 <= 140737488355328)) <|
  M.pure (.inl (i + 1, l ++ ([(b_Years.getD i default)]))))
  else (
  M.pure (.inr (l, l)))
def m_nilometerlaw10_Book_b1 (b_Olds : List Old10) : (Nat × (List Old10)) -> M ((Nat × (List Old10)) ⊕ ((List Old10) × (List Old10))) := fun (i2, l4) =>
  bif decide ((i2 : Int) < (b_Olds.length : Int)) then (
  M.grd (decide ((i2 : Int) < (b_Olds.length : Int))) <|
  M.grd (decide ((l4.length + ([(b_Olds.getD i2 default)]).length) * 48 <= 140737488355328)) <|
  M.pure (.inl (i2 + 1, l4 ++ ([(b_Olds.getD i2 default)]))))
  else (
  M.pure (.inr (l4, l4)))
def m_nilometerlaw10_Book (b_Years : List Yr) (b_Olds : List Old10) (b_First : Int) (b_Last : Int) : M ((List Yr) × (List Old10) × Int × Int) :=
  M.bind (M.iter (m_nilometerlaw10_Book_b0 b_Years) (0, [])) fun (l2, l3) =>
  M.bind (M.iter (m_nilometerlaw10_Book_b1 b_Olds) (0, [])) fun (l5, l6) =>
  M.pure (l3, l6, b_First, b_Last)
set_option maxRecDepth 100000 in
set_option maxHeartbeats 16000000 in
theorem nilometerlaw10_Book_ok {R : List Chunk} {C_b_Years : Cells} {v_b_Years : Value} {C_b_Olds : Cells} {v_b_Olds : Value} (b_Years : List Yr) (b_Olds : List Old10) (b_First : Int) (b_Last : Int) (hC_b_Years : Reads R C_b_Years) (hs_b_Years : Sl C_b_Years v_b_Years b_Years) (hC_b_Olds : Reads R C_b_Olds) (hs_b_Olds : Sl C_b_Olds v_b_Olds b_Olds) {r : ((List Yr) × (List Old10) × Int × Int)} (hM : (m_nilometerlaw10_Book b_Years b_Olds b_First b_Last).Ends r) (w : World) (H : St w w [] R) : Ret Try.prog 22 #[.agg #[v_b_Years, v_b_Olds, I b_First, I b_Last]] w fun v w' => ∃ (y0 : List Yr) (y1 : List Old10) (y2 : Int) (y3 : Int) (u0 : Value) (u1 : Value) (rr2 : List (Raw 3)) (Bs3 : Base), (y0, y1, y2, y3) = r /\ v = .agg #[u0, u1, I y2, I y3] /\ St w w' [cOwn (α := Yr) 127 u0 y0, cOwn (α := Raw 3) 128 u1 rr2, cRo Bs3] R /\ RepR (α := Old10) (Cells.sup C_b_Olds Bs3.cells) rr2 y1 := by
 refine ret_of_W Try.func22 rfl rfl rfl ?_
 refine W.seq ?_
 refine W.region rfl ?_
 refine t_box (v := .agg #[v_b_Years, v_b_Olds, I b_First, I b_Last]) (cs := [v_b_Years, v_b_Olds, I b_First, I b_Last]) H rfl rfl ?_
 intro b_1 w1z H
 refine t_alloc (cs := [.slice none 0 0, .slice none 0 0, I 0, I 0]) H Al55 rfl ?_
 intro b_2 w2z H
 refine s_nil ?_
 refine W.seq ?_
 refine W.region rfl ?_
 refine s_val (x_fa (a := .pointer (some ⟨b_1, 0, none⟩)) (v := .pointer (some ⟨b_1, 2, none⟩)) rfl (fa_blk (o := 0) Fd26_2 Sz3)) ?_
 refine s_val (x_ld (p := .pointer (some ⟨b_1, 2, none⟩)) (v := I b_First) rfl (ldb_sc Sc3 (H.blk (k := 1) rfl) rfl)) ?_
 refine s_val (x_fa (a := .pointer (some ⟨b_1, 0, none⟩)) (v := .pointer (some ⟨b_1, 3, none⟩)) rfl (fa_blk (o := 0) Fd26_3 Sz3)) ?_
 refine s_val (x_ld (p := .pointer (some ⟨b_1, 3, none⟩)) (v := I b_Last) rfl (ldb_sc Sc3 (H.blk (k := 1) rfl) rfl)) ?_
 refine s_val (x_bld (ps := [(2, I b_First), (3, I b_Last)]) (zs := [.slice none 0 0, .slice none 0 0, I 0, I 0]) (L' := [.slice none 0 0, .slice none 0 0, I b_First, I b_Last]) rfl Try.underlying55 Al55 rfl (Bd55 Try.underlying55) (.cons (cs := [I b_First]) rfl rfl rfl rfl rfl <| .cons (cs := [I b_Last]) rfl rfl rfl rfl rfl <| .nil)) ?_
 refine t_alloc (cs := [.slice none 0 0, .slice none 0 0, I 0, I 0]) H Al55 rfl ?_
 intro b_3 w3z H
 refine t_st (k := 0) (b := b_3) (off := 0) (cs := [.slice none 0 0, .slice none 0 0, I 0, I 0]) (vs := [.slice none 0 0, .slice none 0 0, I b_First, I b_Last]) (cs' := [.slice none 0 0, .slice none 0 0, I b_First, I b_Last]) (v := .agg #[.slice none 0 0, .slice none 0 0, I b_First, I b_Last]) (L' := [cBlk b_3 [.slice none 0 0, .slice none 0 0, I b_First, I b_Last] 55, cBlk b_2 [.slice none 0 0, .slice none 0 0, I 0, I 0] 55, cBlk b_1 [v_b_Years, v_b_Olds, I b_First, I b_Last] 26]) H rfl rfl rfl Sz55 rfl rfl rfl rfl rfl rfl ?_
 intro w4z H
 refine s_nil ?_
 refine W.seq ?_
 refine W.seq ?_
 refine W.region rfl ?_
 refine s_val (x_as (v := I 0) rfl) ?_
 refine s_nil ?_
 refine W.block ?_
 replace H : St w w4z [cOwn (α := Yr) 127 (.slice none 0 0) ([]), cBlk b_3 [.slice none 0 0, .slice none 0 0, I b_First, I b_Last] 55, cBlk b_2 [.slice none 0 0, .slice none 0 0, I 0, I 0] 55, cBlk b_1 [v_b_Years, v_b_Olds, I b_First, I b_Last] 26] R := H.nilOwn (α := Yr) 127
 obtain ⟨ex5z, hi6z, hk7z⟩ := M.e_bind hM
 obtain ⟨m0_, hi6z⟩ := M.e_iter hi6z
 refine W.loop (fun m σ W => ∃ (i : Nat) (l : List Yr) (v_l : Value) (ρ : Env), σ = upds ρ [(1, .pointer (some ⟨b_1, 0, none⟩)), (2, .pointer (some ⟨b_2, 0, none⟩)), (3, .pointer (some ⟨b_3, 0, none⟩)), (4, I (i : Int))] /\ M.iterN (m_nilometerlaw10_Book_b0 b_Years) m (i, l) = some ex5z /\ St w W [cOwn (α := Yr) 127 v_l l, cBlk b_3 [v_l, .slice none 0 0, I b_First, I b_Last] 55, cBlk b_2 [.slice none 0 0, .slice none 0 0, I 0, I 0] 55, cBlk b_1 [v_b_Years, v_b_Olds, I b_First, I b_Last] 26] R) ?_ ?_
 ·exact ⟨_, 0, [], (.slice none 0 0), _, upds_of _ _ ⟨rfl, rfl, rfl, rfl, trivial⟩, hi6z, H⟩
 ·rintro m10z σ w8z ⟨i, l, v_l, ρ, rfl, hI9z, H⟩
  obtain ⟨m11z, lt12z, x13z, hM, hN14z⟩ := M.e_iterN hI9z
  simp only [m_nilometerlaw10_Book_b0] at hM
  clear hI9z
  refine W.seq ?_
  refine W.seq ?_
  refine W.region rfl ?_
  refine s_val (x_mv (v := I (i : Int)) rfl) ?_
  refine s_val (x_fa (a := .pointer (some ⟨b_1, 0, none⟩)) (v := .pointer (some ⟨b_1, 0, none⟩)) rfl (fa_blk (o := 0) Fd26_0 Sz23)) ?_
  refine s_val (x_ld (p := .pointer (some ⟨b_1, 0, none⟩)) (v := v_b_Years) rfl (ldb_sc Sc23 (H.blk (k := 3) rfl) rfl)) ?_
  have hl15z := (hs_b_Years).len_le
  refine s_val (x_lenS T23.und rfl hs_b_Years) ?_
  refine s_val (x_cmp (kd := .i64) (a := (i : Int)) (b := (b_Years.length : Int)) (r := decide ((i : Int) < (b_Years.length : Int))) rfl rfl rfl) ?_
  refine s_nil ?_
  refine W.cond (decide ((i : Int) < (b_Years.length : Int))) rfl (fun c16z => ?_) (fun c16z => ?_)
  ·replace hM := M.e_t hM c16z
   simp only [decide_eq_true_eq, decide_eq_false_iff_not, beq_iff_eq, bne_iff_ne, beq_eq_false_iff_ne, bne_eq_false_iff_eq, ne_eq, Decidable.not_not] at c16z
   refine W.skip ?_
   refine W.seq ?_
   refine W.block ?_
   refine W.drawT (fun W => St w W [cBlk b_2 [.slice none 0 0, .slice none 0 0, I 0, I 0] 55, cBlk b_1 [v_b_Years, v_b_Olds, I b_First, I b_Last] 26] R) (.q 0 (.q 2 (.q 3 (.q 4 (.q 5 (.q 6 (.l2 1 (.l 7 (.l 8 (.q 9 (.l 10 .nil)))) 7 (.l 1 (.l 8 (.q 9 (.l 10 .nil))))))))))) mixed (by decide +kernel) rfl ?_
   intro w17z hx_
   replace H : St w w17z [cOwn (α := Yr) 127 v_l l, cBlk b_3 [v_l, .slice none 0 0, I b_First, I b_Last] 55, cBlk b_2 [.slice none 0 0, .slice none 0 0, I 0, I 0] 55, cBlk b_1 [v_b_Years, v_b_Olds, I b_First, I b_Last] 26] R := H.ext hx_
   clear hx_
   refine ⟨(H.pick [2, 3] (by decide) rfl), ?_⟩
   refine t_q rfl (fun w' H => x_fa (a := .pointer (some ⟨b_3, 0, none⟩)) (v := .pointer (some ⟨b_3, 0, none⟩)) rfl (fa_blk (o := 0) Fd55_0 Sz52)) ?_
   refine t_q rfl (fun w' H => x_fa (a := .pointer (some ⟨b_1, 0, none⟩)) (v := .pointer (some ⟨b_1, 0, none⟩)) rfl (fa_blk (o := 0) Fd26_0 Sz23)) ?_
   refine t_q rfl (fun w' H => x_ld (p := .pointer (some ⟨b_1, 0, none⟩)) (v := v_b_Years) rfl (ldb_sc Sc23 (H.blk (k := 1) rfl) rfl)) ?_
   refine t_q rfl (fun w' H => x_mv (v := I (i : Int)) rfl) ?_
   obtain ⟨sd18z, hM⟩ := M.e_grd hM
   simp only [Bool.and_eq_true, decide_eq_true_eq] at sd18z
   refine t_q rfl (fun w' H => x_ix (a := v_b_Years) (b := I (i : Int)) (v := vat v_b_Years 3 (Int.toNat (i : Int))) rfl rfl (Sl.ix (α := Yr) T23.und T23.size hs_b_Years (by omega) (by omega))) ?_
   refine t_q rfl (fun w' H => x_ld (p := vat v_b_Years 3 (Int.toNat (i : Int))) (v := .agg #[I ((b_Years.getD i default).year), I ((b_Years.getD i default).lo), I ((b_Years.getD i default).hi)]) rfl (ld_ag Ag41 Sz41 (At.mono (Yr_atA hs_b_Years (i := (i : Int)) (by omega) (by omega)) (hC_b_Years.at H)))) ?_
   obtain ⟨sd21z, hM⟩ := M.e_grd hM
   simp only [Bool.and_eq_true, decide_eq_true_eq] at sd21z
   refine t_l2 rfl rfl ?_ ?_
   ·skip
    refine s_val (x_ld (p := .pointer (some ⟨b_3, 0, none⟩)) (v := v_l) rfl (ldb_sc Sc52 (H.blk (k := 1) rfl) rfl)) ?_
    have hvc_q25z := Sl.cells (ownSl (H.get (k := 0) rfl))
    have hvo_q25z := Sl.oc (ownSl (H.get (k := 0) rfl))
    refine s_nil ⟨(H.pick [2, 3] (by decide) rfl), ?_⟩
    refine t_l rfl ?_
    refine t_bs (α := Yr) T52 [.agg #[I ((b_Years.getD i default).year), I ((b_Years.getD i default).lo), I ((b_Years.getD i default).hi)]] [(b_Years.getD i default)] H rfl (.cons rfl (Flat.rep_enc _ (b_Years.getD i default)) <| .nil) rfl rfl rfl ?_
    intro v26z w27z H
    have hvc_q28z := Sl.cells (ownSl (H.get (k := 0) rfl))
    have hvo_q28z := Sl.oc (ownSl (H.get (k := 0) rfl))
    refine s_nil ⟨(H.pick [3, 4] (by decide) rfl), ?_⟩
    refine t_l rfl ?_
    refine t_app (α := Yr) (k := 1) (l := l) (l2 := [(b_Years.getD i default)]) (l' := l ++ ([(b_Years.getD i default)])) (vy := v26z) T52 rfl H rfl rfl rfl (ownSl (H.get (k := 0) rfl)) (ownLe _ (H.get (k := 0) rfl)) (rfl) (by first | omega | (simp only [List.length_nil] at *; omega)) ?_
    intro v29z w30z H
    replace H : St w w30z [cOwn (α := Yr) 127 v26z ([(b_Years.getD i default)]), cOwn (α := Yr) 127 v29z (l ++ ([(b_Years.getD i default)])), cBlk b_3 [v_l, .slice none 0 0, I b_First, I b_Last] 55, cBlk b_2 [.slice none 0 0, .slice none 0 0, I 0, I 0] 55, cBlk b_1 [v_b_Years, v_b_Olds, I b_First, I b_Last] 26] R := H
    have hvc_q31z := Sl.cells (ownSl (H.get (k := 1) rfl))
    have hvo_q31z := Sl.oc (ownSl (H.get (k := 1) rfl))
    refine s_nil ⟨(H.pick [3, 4] (by decide) rfl), ?_⟩
    refine t_q rfl (fun w' H => x_fa (a := .pointer (some ⟨b_3, 0, none⟩)) (v := .pointer (some ⟨b_3, 0, none⟩)) rfl (fa_blk (o := 0) Fd55_0 Sz52)) ?_
    refine t_l rfl ?_
    refine t_st (k := 2) (b := b_3) (off := 0) (cs := [v_l, .slice none 0 0, I b_First, I b_Last]) (vs := [v29z]) (cs' := [v29z, .slice none 0 0, I b_First, I b_Last]) (v := v29z) (L' := [cOwn (α := Yr) 127 v26z ([(b_Years.getD i default)]), cOwn (α := Yr) 127 v29z (l ++ ([(b_Years.getD i default)])), cBlk b_3 [v29z, .slice none 0 0, I b_First, I b_Last] 55, cBlk b_2 [.slice none 0 0, .slice none 0 0, I 0, I 0] 55, cBlk b_1 [v_b_Years, v_b_Olds, I b_First, I b_Last] 26]) H rfl rfl rfl Sz52 (Sl.cells (ownSl (H.get (k := 1) rfl))) rfl rfl (by simp only [List.all_cons, List.all_nil, Bool.true_and, Bool.and_true, Sl.oc (ownSl (H.get (k := 1) rfl))]; try rfl) rfl rfl ?_
    intro w32z H
    refine s_nil ⟨(H.pick [3, 4] (by decide) rfl), ?_⟩
    refine t_nil ?_
    refine W.region rfl ?_
    refine s_val (x_mv (v := I (i : Int)) rfl) ?_
    refine s_val (x_ari (a := (i : Int)) (b := 1) (r := (i : Int) + 1) rfl rfl rfl (by omega)) ?_
    refine s_val (x_as (v := I ((i : Int) + 1)) rfl) ?_
    refine s_nil ?_
    exact ⟨m11z, lt12z, i + 1, l ++ ([(b_Years.getD i default)]), v29z, _, upds_of _ _ ⟨rfl, rfl, rfl, rfl, trivial⟩, M.e_inl hM hN14z, (H.pick [1, 2, 3, 4] (by decide) rfl)⟩
   ·skip
    refine t_bs (α := Yr) T52 [.agg #[I ((b_Years.getD i default).year), I ((b_Years.getD i default).lo), I ((b_Years.getD i default).hi)]] [(b_Years.getD i default)] H rfl (.cons rfl (Flat.rep_enc _ (b_Years.getD i default)) <| .nil) rfl rfl rfl ?_
    intro v33z w34z H
    have hvc_q35z := Sl.cells (ownSl (H.get (k := 0) rfl))
    have hvo_q35z := Sl.oc (ownSl (H.get (k := 0) rfl))
    have hvc_q36z := Sl.cells (ownSl (H.get (k := 1) rfl))
    have hvo_q36z := Sl.oc (ownSl (H.get (k := 1) rfl))
    refine s_nil ⟨(H.pick [3, 4] (by decide) rfl), ?_⟩
    refine t_l rfl ?_
    refine s_val (x_ld (p := .pointer (some ⟨b_3, 0, none⟩)) (v := v_l) rfl (ldb_sc Sc52 (H.blk (k := 2) rfl) rfl)) ?_
    refine s_nil ⟨(H.pick [3, 4] (by decide) rfl), ?_⟩
    refine t_l rfl ?_
    refine t_app (α := Yr) (k := 1) (l := l) (l2 := [(b_Years.getD i default)]) (l' := l ++ ([(b_Years.getD i default)])) (vy := v33z) T52 rfl H rfl rfl rfl (ownSl (H.get (k := 0) rfl)) (ownLe _ (H.get (k := 0) rfl)) (rfl) (by first | omega | (simp only [List.length_nil] at *; omega)) ?_
    intro v37z w38z H
    replace H : St w w38z [cOwn (α := Yr) 127 v33z ([(b_Years.getD i default)]), cOwn (α := Yr) 127 v37z (l ++ ([(b_Years.getD i default)])), cBlk b_3 [v_l, .slice none 0 0, I b_First, I b_Last] 55, cBlk b_2 [.slice none 0 0, .slice none 0 0, I 0, I 0] 55, cBlk b_1 [v_b_Years, v_b_Olds, I b_First, I b_Last] 26] R := H
    have hvc_q39z := Sl.cells (ownSl (H.get (k := 1) rfl))
    have hvo_q39z := Sl.oc (ownSl (H.get (k := 1) rfl))
    refine s_nil ⟨(H.pick [3, 4] (by decide) rfl), ?_⟩
    refine t_q rfl (fun w' H => x_fa (a := .pointer (some ⟨b_3, 0, none⟩)) (v := .pointer (some ⟨b_3, 0, none⟩)) rfl (fa_blk (o := 0) Fd55_0 Sz52)) ?_
    refine t_l rfl ?_
    refine t_st (k := 2) (b := b_3) (off := 0) (cs := [v_l, .slice none 0 0, I b_First, I b_Last]) (vs := [v37z]) (cs' := [v37z, .slice none 0 0, I b_First, I b_Last]) (v := v37z) (L' := [cOwn (α := Yr) 127 v33z ([(b_Years.getD i default)]), cOwn (α := Yr) 127 v37z (l ++ ([(b_Years.getD i default)])), cBlk b_3 [v37z, .slice none 0 0, I b_First, I b_Last] 55, cBlk b_2 [.slice none 0 0, .slice none 0 0, I 0, I 0] 55, cBlk b_1 [v_b_Years, v_b_Olds, I b_First, I b_Last] 26]) H rfl rfl rfl Sz52 (Sl.cells (ownSl (H.get (k := 1) rfl))) rfl rfl (by simp only [List.all_cons, List.all_nil, Bool.true_and, Bool.and_true, Sl.oc (ownSl (H.get (k := 1) rfl))]; try rfl) rfl rfl ?_
    intro w40z H
    refine s_nil ⟨(H.pick [3, 4] (by decide) rfl), ?_⟩
    refine t_nil ?_
    refine W.region rfl ?_
    refine s_val (x_mv (v := I (i : Int)) rfl) ?_
    refine s_val (x_ari (a := (i : Int)) (b := 1) (r := (i : Int) + 1) rfl rfl rfl (by omega)) ?_
    refine s_val (x_as (v := I ((i : Int) + 1)) rfl) ?_
    refine s_nil ?_
    exact ⟨m11z, lt12z, i + 1, l ++ ([(b_Years.getD i default)]), v37z, _, upds_of _ _ ⟨rfl, rfl, rfl, rfl, trivial⟩, M.e_inl hM hN14z, (H.pick [1, 2, 3, 4] (by decide) rfl)⟩
  ·replace hM := M.e_f hM c16z
   simp only [decide_eq_true_eq, decide_eq_false_iff_not, beq_iff_eq, bne_iff_ne, beq_eq_false_iff_ne, bne_eq_false_iff_eq, ne_eq, Decidable.not_not] at c16z
   refine W.exit ?_
   have hX41z := M.e_inr hM hN14z
   subst hX41z
   replace hM := hk7z
   try dsimp only at hM
   refine W.seq ?_
   refine W.seq ?_
   refine W.region rfl ?_
   refine s_val (x_as (v := I 0) rfl) ?_
   refine s_nil ?_
   refine W.block ?_
   obtain ⟨Bs_12, H⟩ := H.emptyE
   replace H : St w w8z [cOwn (α := Raw 3) 128 (.slice none 0 0) ([]), cRo Bs_12, cOwn (α := Yr) 127 v_l l, cBlk b_3 [v_l, .slice none 0 0, I b_First, I b_Last] 55, cBlk b_2 [.slice none 0 0, .slice none 0 0, I 0, I 0] 55, cBlk b_1 [v_b_Years, v_b_Olds, I b_First, I b_Last] 26] R := H.nilOwn (α := Raw 3) 128
   have hr42z : RepR (α := Old10) (n := 3) Bs_12.cells [] [] := .nil
   replace hr42z := hr42z.mono (Cells.sup_r (hC_b_Olds.at H) (roLe _ (H.get (k := 1) rfl)))
   obtain ⟨ex43z, hi44z, hk45z⟩ := M.e_bind hM
   obtain ⟨m0_, hi44z⟩ := M.e_iter hi44z
   refine W.loop (fun m σ W => ∃ (i2 : Nat) (l4 : List Old10) (v_l4 : Value) (rw_l4 : List (Raw 3)) (B_l4 : Base) (ρ : Env), σ = upds ρ [(1, .pointer (some ⟨b_1, 0, none⟩)), (2, .pointer (some ⟨b_2, 0, none⟩)), (3, .pointer (some ⟨b_3, 0, none⟩)), (5, I (i2 : Int))] /\ M.iterN (m_nilometerlaw10_Book_b1 b_Olds) m (i2, l4) = some ex43z /\ St w W [cOwn (α := Raw 3) 128 v_l4 rw_l4, cRo B_l4, cOwn (α := Yr) 127 v_l l, cBlk b_3 [v_l, v_l4, I b_First, I b_Last] 55, cBlk b_2 [.slice none 0 0, .slice none 0 0, I 0, I 0] 55, cBlk b_1 [v_b_Years, v_b_Olds, I b_First, I b_Last] 26] R /\ RepR (α := Old10) (Cells.sup C_b_Olds B_l4.cells) rw_l4 l4) ?_ ?_
   ·exact ⟨_, 0, [], (.slice none 0 0), [], Bs_12, _, upds_of _ _ ⟨rfl, rfl, rfl, rfl, trivial⟩, hi44z, H, hr42z⟩
   ·rintro m48z σ w46z ⟨i2, l4, v_l4, rw_l4, B_l4, ρ, rfl, hI47z, H, hr_l4⟩
    obtain ⟨m49z, lt50z, x51z, hM, hN52z⟩ := M.e_iterN hI47z
    simp only [m_nilometerlaw10_Book_b1] at hM
    clear hI47z
    refine W.seq ?_
    refine W.seq ?_
    refine W.region rfl ?_
    refine s_val (x_mv (v := I (i2 : Int)) rfl) ?_
    refine s_val (x_fa (a := .pointer (some ⟨b_1, 0, none⟩)) (v := .pointer (some ⟨b_1, 1, none⟩)) rfl (fa_blk (o := 0) Fd26_1 Sz24)) ?_
    refine s_val (x_ld (p := .pointer (some ⟨b_1, 1, none⟩)) (v := v_b_Olds) rfl (ldb_sc Sc24 (H.blk (k := 5) rfl) rfl)) ?_
    have hl53z := (hs_b_Olds).len_le
    refine s_val (x_lenS T24.und rfl hs_b_Olds) ?_
    refine s_val (x_cmp (kd := .i64) (a := (i2 : Int)) (b := (b_Olds.length : Int)) (r := decide ((i2 : Int) < (b_Olds.length : Int))) rfl rfl rfl) ?_
    refine s_nil ?_
    refine W.cond (decide ((i2 : Int) < (b_Olds.length : Int))) rfl (fun c54z => ?_) (fun c54z => ?_)
    ·replace hM := M.e_t hM c54z
     simp only [decide_eq_true_eq, decide_eq_false_iff_not, beq_iff_eq, bne_iff_ne, beq_eq_false_iff_ne, bne_eq_false_iff_eq, ne_eq, Decidable.not_not] at c54z
     refine W.skip ?_
     refine W.seq ?_
     refine W.block ?_
     refine W.drawT (fun W => St w W [cRo B_l4, cOwn (α := Yr) 127 v_l l, cBlk b_2 [.slice none 0 0, .slice none 0 0, I 0, I 0] 55, cBlk b_1 [v_b_Years, v_b_Olds, I b_First, I b_Last] 26] R) (.q 0 (.q 2 (.q 3 (.q 4 (.q 5 (.q 6 (.l2 1 (.l 7 (.l 8 (.q 9 (.l 10 .nil)))) 7 (.l 1 (.l 8 (.q 9 (.l 10 .nil))))))))))) mixed (by decide +kernel) rfl ?_
     intro w55z hx_
     replace H : St w w55z [cOwn (α := Raw 3) 128 v_l4 rw_l4, cRo B_l4, cOwn (α := Yr) 127 v_l l, cBlk b_3 [v_l, v_l4, I b_First, I b_Last] 55, cBlk b_2 [.slice none 0 0, .slice none 0 0, I 0, I 0] 55, cBlk b_1 [v_b_Years, v_b_Olds, I b_First, I b_Last] 26] R := H.ext hx_
     clear hx_
     refine ⟨(H.pick [1, 2, 4, 5] (by decide) rfl), ?_⟩
     refine t_q rfl (fun w' H => x_fa (a := .pointer (some ⟨b_3, 0, none⟩)) (v := .pointer (some ⟨b_3, 1, none⟩)) rfl (fa_blk (o := 0) Fd55_1 Sz53)) ?_
     refine t_q rfl (fun w' H => x_fa (a := .pointer (some ⟨b_1, 0, none⟩)) (v := .pointer (some ⟨b_1, 1, none⟩)) rfl (fa_blk (o := 0) Fd26_1 Sz24)) ?_
     refine t_q rfl (fun w' H => x_ld (p := .pointer (some ⟨b_1, 1, none⟩)) (v := v_b_Olds) rfl (ldb_sc Sc24 (H.blk (k := 3) rfl) rfl)) ?_
     refine t_q rfl (fun w' H => x_mv (v := I (i2 : Int)) rfl) ?_
     obtain ⟨sd56z, hM⟩ := M.e_grd hM
     simp only [Bool.and_eq_true, decide_eq_true_eq] at sd56z
     refine t_q rfl (fun w' H => x_ix (a := v_b_Olds) (b := I (i2 : Int)) (v := vat v_b_Olds 4 (Int.toNat (i2 : Int))) rfl rfl (Sl.ix (α := Old10) T24.und T24.size hs_b_Olds (by omega) (by omega))) ?_
     obtain ⟨u57z, ha59z, hs58z⟩ := Old10_atA hs_b_Olds (i := (i2 : Int)) (by omega) (by omega)
     replace hs58z : Sl _ u57z (b_Olds.getD i2 default).passed := hs58z
     have hl_hs58z := hs58z.len_le
     refine t_q rfl (fun w' H => x_ld (p := vat v_b_Olds 4 (Int.toNat (i2 : Int))) (v := .agg #[I ((b_Olds.getD i2 default).src), I ((b_Olds.getD i2 default).dst), I ((b_Olds.getD i2 default).stage), u57z]) rfl (ld_ag Ag43 Sz43 (At.mono ha59z (hC_b_Olds.at H)))) ?_
     obtain ⟨sd65z, hM⟩ := M.e_grd hM
     simp only [Bool.and_eq_true, decide_eq_true_eq] at sd65z
     refine t_l2 rfl rfl ?_ ?_
     ·skip
      refine s_val (x_ld (p := .pointer (some ⟨b_3, 1, none⟩)) (v := v_l4) rfl (ldb_sc Sc53 (H.blk (k := 3) rfl) rfl)) ?_
      have hvc_q73z := Sl.cells (ownSl (H.get (k := 0) rfl))
      have hvo_q73z := Sl.oc (ownSl (H.get (k := 0) rfl))
      refine s_nil ⟨(H.pick [1, 2, 4, 5] (by decide) rfl), ?_⟩
      refine t_l rfl ?_
      obtain ⟨Bs_7, H⟩ := H.emptyE
      have hq74z := hs58z
      replace hq74z := hq74z.mono (Cells.sup_l _ Bs_7.cells)
      obtain ⟨rw75z, hrw_rw75z⟩ : ∃ r : Raw 3, r.cs = [I ((b_Olds.getD i2 default).src), I ((b_Olds.getD i2 default).dst), I ((b_Olds.getD i2 default).stage), u57z] := ⟨Raw.of [I ((b_Olds.getD i2 default).src), I ((b_Olds.getD i2 default).dst), I ((b_Olds.getD i2 default).stage), u57z] rfl (by simp only [List.all_cons, List.all_nil, Bool.true_and, Bool.and_true, Sl.oc hq74z]; try rfl), rfl⟩
      have hr76z : RepR (α := Old10) (Cells.sup C_b_Olds Bs_7.cells) [rw75z] [(b_Olds.getD i2 default)] := .cons (by rw [hrw_rw75z]; exact ⟨_, rfl, hq74z⟩) <| .nil
      refine t_bs (α := Raw 3) T53 [.agg #[I ((b_Olds.getD i2 default).src), I ((b_Olds.getD i2 default).dst), I ((b_Olds.getD i2 default).stage), u57z]] [rw75z] H rfl (.cons (by rw [show (Flat.enc rw75z : List Value) = rw75z.cs from rfl, hrw_rw75z]; rfl) (Flat.rep_enc _ _) <| .nil) rfl rfl rfl ?_
      intro v77z w78z H
      replace H : St w w78z [cOwn (α := Raw 3) 128 v77z ([rw75z]), cRo Bs_7, cOwn (α := Raw 3) 128 v_l4 rw_l4, cRo B_l4, cOwn (α := Yr) 127 v_l l, cBlk b_3 [v_l, v_l4, I b_First, I b_Last] 55, cBlk b_2 [.slice none 0 0, .slice none 0 0, I 0, I 0] 55, cBlk b_1 [v_b_Years, v_b_Olds, I b_First, I b_Last] 26] R := H
      have hvc_q79z := Sl.cells (ownSl (H.get (k := 0) rfl))
      have hvo_q79z := Sl.oc (ownSl (H.get (k := 0) rfl))
      refine s_nil ⟨(H.pick [3, 4, 6, 7] (by decide) rfl), ?_⟩
      refine t_l rfl ?_
      have hr80z := hr76z
      obtain ⟨Bs_11, H, le81z, le82z⟩ := H.joinE (i := 3) (j := 1) rfl rfl
      replace hr_l4 := hr_l4.mono (Cells.sup_mono le81z (hC_b_Olds.at H) (roLe _ (H.get (k := 0) rfl)))
      replace hr80z := hr80z.mono (Cells.sup_mono le82z (hC_b_Olds.at H) (roLe _ (H.get (k := 0) rfl)))
      have hr85z := hr_l4.app hr80z
      refine t_app (α := Raw 3) (k := 3) (l := rw_l4) (l2 := [rw75z]) (l' := rw_l4 ++ ([rw75z])) (vy := v77z) T53 rfl H rfl rfl rfl (ownSl (H.get (k := 1) rfl)) (ownLe _ (H.get (k := 1) rfl)) (rfl) (by have a_ := hr_l4.len; have b_ := hr80z.len; (try simp only [List.length_nil] at *); first | omega | (rw [a_, b_]; omega)) ?_
      intro v83z w84z H
      replace H : St w w84z [cRo Bs_11, cOwn (α := Raw 3) 128 v77z ([rw75z]), cRo Bs_7, cOwn (α := Raw 3) 128 v83z (rw_l4 ++ ([rw75z])), cRo B_l4, cOwn (α := Yr) 127 v_l l, cBlk b_3 [v_l, v_l4, I b_First, I b_Last] 55, cBlk b_2 [.slice none 0 0, .slice none 0 0, I 0, I 0] 55, cBlk b_1 [v_b_Years, v_b_Olds, I b_First, I b_Last] 26] R := H
      have hvc_q86z := Sl.cells (ownSl (H.get (k := 3) rfl))
      have hvo_q86z := Sl.oc (ownSl (H.get (k := 3) rfl))
      refine s_nil ⟨(H.pick [4, 5, 7, 8] (by decide) rfl), ?_⟩
      refine t_q rfl (fun w' H => x_fa (a := .pointer (some ⟨b_3, 0, none⟩)) (v := .pointer (some ⟨b_3, 1, none⟩)) rfl (fa_blk (o := 0) Fd55_1 Sz53)) ?_
      refine t_l rfl ?_
      refine t_st (k := 6) (b := b_3) (off := 1) (cs := [v_l, v_l4, I b_First, I b_Last]) (vs := [v83z]) (cs' := [v_l, v83z, I b_First, I b_Last]) (v := v83z) (L' := [cRo Bs_11, cOwn (α := Raw 3) 128 v77z ([rw75z]), cRo Bs_7, cOwn (α := Raw 3) 128 v83z (rw_l4 ++ ([rw75z])), cRo B_l4, cOwn (α := Yr) 127 v_l l, cBlk b_3 [v_l, v83z, I b_First, I b_Last] 55, cBlk b_2 [.slice none 0 0, .slice none 0 0, I 0, I 0] 55, cBlk b_1 [v_b_Years, v_b_Olds, I b_First, I b_Last] 26]) H rfl rfl rfl Sz53 (Sl.cells (rowSl rfl (H.get (k := 3) rfl) (Cells.sup_le (hC_b_Olds.at H) (roLe _ (H.get (k := 0) rfl))) hr85z)) rfl rfl (by simp only [List.all_cons, List.all_nil, Bool.true_and, Bool.and_true, Sl.oc (rowSl rfl (H.get (k := 3) rfl) (Cells.sup_le (hC_b_Olds.at H) (roLe _ (H.get (k := 0) rfl))) hr85z)]; try rfl) rfl rfl ?_
      intro w87z H
      refine s_nil ⟨(H.pick [4, 5, 7, 8] (by decide) rfl), ?_⟩
      refine t_nil ?_
      refine W.region rfl ?_
      refine s_val (x_mv (v := I (i2 : Int)) rfl) ?_
      refine s_val (x_ari (a := (i2 : Int)) (b := 1) (r := (i2 : Int) + 1) rfl rfl rfl (by omega)) ?_
      refine s_val (x_as (v := I ((i2 : Int) + 1)) rfl) ?_
      refine s_nil ?_
      exact ⟨m49z, lt50z, i2 + 1, l4 ++ ([(b_Olds.getD i2 default)]), v83z, rw_l4 ++ ([rw75z]), Bs_11, _, upds_of _ _ ⟨rfl, rfl, rfl, rfl, trivial⟩, M.e_inl hM hN52z, (H.pick [3, 0, 5, 6, 7, 8] (by decide) rfl), hr85z⟩
     ·skip
      obtain ⟨Bs_7, H⟩ := H.emptyE
      have hq88z := hs58z
      replace hq88z := hq88z.mono (Cells.sup_l _ Bs_7.cells)
      obtain ⟨rw89z, hrw_rw89z⟩ : ∃ r : Raw 3, r.cs = [I ((b_Olds.getD i2 default).src), I ((b_Olds.getD i2 default).dst), I ((b_Olds.getD i2 default).stage), u57z] := ⟨Raw.of [I ((b_Olds.getD i2 default).src), I ((b_Olds.getD i2 default).dst), I ((b_Olds.getD i2 default).stage), u57z] rfl (by simp only [List.all_cons, List.all_nil, Bool.true_and, Bool.and_true, Sl.oc hq88z]; try rfl), rfl⟩
      have hr90z : RepR (α := Old10) (Cells.sup C_b_Olds Bs_7.cells) [rw89z] [(b_Olds.getD i2 default)] := .cons (by rw [hrw_rw89z]; exact ⟨_, rfl, hq88z⟩) <| .nil
      refine t_bs (α := Raw 3) T53 [.agg #[I ((b_Olds.getD i2 default).src), I ((b_Olds.getD i2 default).dst), I ((b_Olds.getD i2 default).stage), u57z]] [rw89z] H rfl (.cons (by rw [show (Flat.enc rw89z : List Value) = rw89z.cs from rfl, hrw_rw89z]; rfl) (Flat.rep_enc _ _) <| .nil) rfl rfl rfl ?_
      intro v91z w92z H
      replace H : St w w92z [cOwn (α := Raw 3) 128 v91z ([rw89z]), cRo Bs_7, cOwn (α := Raw 3) 128 v_l4 rw_l4, cRo B_l4, cOwn (α := Yr) 127 v_l l, cBlk b_3 [v_l, v_l4, I b_First, I b_Last] 55, cBlk b_2 [.slice none 0 0, .slice none 0 0, I 0, I 0] 55, cBlk b_1 [v_b_Years, v_b_Olds, I b_First, I b_Last] 26] R := H
      have hvc_q93z := Sl.cells (ownSl (H.get (k := 0) rfl))
      have hvo_q93z := Sl.oc (ownSl (H.get (k := 0) rfl))
      have hvc_q94z := Sl.cells (ownSl (H.get (k := 2) rfl))
      have hvo_q94z := Sl.oc (ownSl (H.get (k := 2) rfl))
      refine s_nil ⟨(H.pick [3, 4, 6, 7] (by decide) rfl), ?_⟩
      refine t_l rfl ?_
      refine s_val (x_ld (p := .pointer (some ⟨b_3, 1, none⟩)) (v := v_l4) rfl (ldb_sc Sc53 (H.blk (k := 5) rfl) rfl)) ?_
      refine s_nil ⟨(H.pick [3, 4, 6, 7] (by decide) rfl), ?_⟩
      refine t_l rfl ?_
      have hr95z := hr90z
      obtain ⟨Bs_11, H, le96z, le97z⟩ := H.joinE (i := 3) (j := 1) rfl rfl
      replace hr_l4 := hr_l4.mono (Cells.sup_mono le96z (hC_b_Olds.at H) (roLe _ (H.get (k := 0) rfl)))
      replace hr95z := hr95z.mono (Cells.sup_mono le97z (hC_b_Olds.at H) (roLe _ (H.get (k := 0) rfl)))
      have hr100z := hr_l4.app hr95z
      refine t_app (α := Raw 3) (k := 3) (l := rw_l4) (l2 := [rw89z]) (l' := rw_l4 ++ ([rw89z])) (vy := v91z) T53 rfl H rfl rfl rfl (ownSl (H.get (k := 1) rfl)) (ownLe _ (H.get (k := 1) rfl)) (rfl) (by have a_ := hr_l4.len; have b_ := hr95z.len; (try simp only [List.length_nil] at *); first | omega | (rw [a_, b_]; omega)) ?_
      intro v98z w99z H
      replace H : St w w99z [cRo Bs_11, cOwn (α := Raw 3) 128 v91z ([rw89z]), cRo Bs_7, cOwn (α := Raw 3) 128 v98z (rw_l4 ++ ([rw89z])), cRo B_l4, cOwn (α := Yr) 127 v_l l, cBlk b_3 [v_l, v_l4, I b_First, I b_Last] 55, cBlk b_2 [.slice none 0 0, .slice none 0 0, I 0, I 0] 55, cBlk b_1 [v_b_Years, v_b_Olds, I b_First, I b_Last] 26] R := H
      have hvc_q101z := Sl.cells (ownSl (H.get (k := 3) rfl))
      have hvo_q101z := Sl.oc (ownSl (H.get (k := 3) rfl))
      refine s_nil ⟨(H.pick [4, 5, 7, 8] (by decide) rfl), ?_⟩
      refine t_q rfl (fun w' H => x_fa (a := .pointer (some ⟨b_3, 0, none⟩)) (v := .pointer (some ⟨b_3, 1, none⟩)) rfl (fa_blk (o := 0) Fd55_1 Sz53)) ?_
      refine t_l rfl ?_
      refine t_st (k := 6) (b := b_3) (off := 1) (cs := [v_l, v_l4, I b_First, I b_Last]) (vs := [v98z]) (cs' := [v_l, v98z, I b_First, I b_Last]) (v := v98z) (L' := [cRo Bs_11, cOwn (α := Raw 3) 128 v91z ([rw89z]), cRo Bs_7, cOwn (α := Raw 3) 128 v98z (rw_l4 ++ ([rw89z])), cRo B_l4, cOwn (α := Yr) 127 v_l l, cBlk b_3 [v_l, v98z, I b_First, I b_Last] 55, cBlk b_2 [.slice none 0 0, .slice none 0 0, I 0, I 0] 55, cBlk b_1 [v_b_Years, v_b_Olds, I b_First, I b_Last] 26]) H rfl rfl rfl Sz53 (Sl.cells (rowSl rfl (H.get (k := 3) rfl) (Cells.sup_le (hC_b_Olds.at H) (roLe _ (H.get (k := 0) rfl))) hr100z)) rfl rfl (by simp only [List.all_cons, List.all_nil, Bool.true_and, Bool.and_true, Sl.oc (rowSl rfl (H.get (k := 3) rfl) (Cells.sup_le (hC_b_Olds.at H) (roLe _ (H.get (k := 0) rfl))) hr100z)]; try rfl) rfl rfl ?_
      intro w102z H
      refine s_nil ⟨(H.pick [4, 5, 7, 8] (by decide) rfl), ?_⟩
      refine t_nil ?_
      refine W.region rfl ?_
      refine s_val (x_mv (v := I (i2 : Int)) rfl) ?_
      refine s_val (x_ari (a := (i2 : Int)) (b := 1) (r := (i2 : Int) + 1) rfl rfl rfl (by omega)) ?_
      refine s_val (x_as (v := I ((i2 : Int) + 1)) rfl) ?_
      refine s_nil ?_
      exact ⟨m49z, lt50z, i2 + 1, l4 ++ ([(b_Olds.getD i2 default)]), v98z, rw_l4 ++ ([rw89z]), Bs_11, _, upds_of _ _ ⟨rfl, rfl, rfl, rfl, trivial⟩, M.e_inl hM hN52z, (H.pick [3, 0, 5, 6, 7, 8] (by decide) rfl), hr100z⟩
    ·replace hM := M.e_f hM c54z
     simp only [decide_eq_true_eq, decide_eq_false_iff_not, beq_iff_eq, bne_iff_ne, beq_eq_false_iff_ne, bne_eq_false_iff_eq, ne_eq, Decidable.not_not] at c54z
     refine W.exit ?_
     have hX103z := M.e_inr hM hN52z
     subst hX103z
     replace hM := hk45z
     try dsimp only at hM
     refine W.seq ?_
     refine W.region rfl ?_
     refine s_val (x_ld (p := .pointer (some ⟨b_3, 0, none⟩)) (v := .agg #[v_l, v_l4, I b_First, I b_Last]) rfl (ldb_ag (ds := [v_l, v_l4, I b_First, I b_Last]) Ag55 Sz55 (H.blk (k := 3) rfl) rfl rfl)) ?_
     refine t_st (k := 4) (b := b_2) (off := 0) (cs := [.slice none 0 0, .slice none 0 0, I 0, I 0]) (vs := [v_l, v_l4, I b_First, I b_Last]) (cs' := [v_l, v_l4, I b_First, I b_Last]) (v := .agg #[v_l, v_l4, I b_First, I b_Last]) (L' := [cOwn (α := Raw 3) 128 v_l4 rw_l4, cRo B_l4, cOwn (α := Yr) 127 v_l l, cBlk b_3 [v_l, v_l4, I b_First, I b_Last] 55, cBlk b_2 [v_l, v_l4, I b_First, I b_Last] 55, cBlk b_1 [v_b_Years, v_b_Olds, I b_First, I b_Last] 26]) H rfl rfl rfl Sz55 rfl rfl rfl (by simp only [List.all_cons, List.all_nil, Bool.true_and, Bool.and_true, Sl.oc (ownSl (H.get (k := 2) rfl)), Sl.oc (rowSl rfl (H.get (k := 0) rfl) (Cells.sup_le (hC_b_Olds.at H) (roLe _ (H.get (k := 1) rfl))) hr_l4)]; try rfl) rfl rfl ?_
     intro w104z H
     refine s_nil ?_
     refine W.ret ?_
     have hb105z := (H.blk (k := 4) rfl)
     have hr_ := M.e_pure hM
     exact ⟨_, (resE_of1 (v := .agg #[v_l, v_l4, I b_First, I b_Last]) rfl (.cell (v := .agg #[v_l, v_l4, I b_First, I b_Last]) rfl (run_loadVar_ag (ds := [v_l, v_l4, I b_First, I b_Last]) Ag55 Sz55 hb105z rfl rfl) <| .nil)), ⟨l, l4, b_First, b_Last, v_l, v_l4, rw_l4, B_l4, hr_, rfl, (H.pick [2, 0, 1] (by decide) rfl), hr_l4⟩⟩

def m_nilometerref10_unlisted_b0 (l : List Int) (a : Int) (b : Int) : Nat -> M (Nat ⊕ (Unit ⊕ Unit)) := fun i =>
  bif decide ((i : Int) < (l.length : Int)) then (
  M.grd (decide ((i : Int) < (l.length : Int))) <|
  M.bind (m_nilometerref10_outside (l.getD i 0) a b) fun r2 =>
  M.grd ((!((!r2) && (decide (0 < (i : Int)))) || (decide ((-9223372036854775808 : Int) <= ((i : Int) - 1)) && decide (((i : Int) - 1) <= (9223372036854775807 : Int))))) <|
  M.grd ((!((!r2) && (decide (0 < (i : Int)))) || (decide ((0 : Int) <= ((i : Int) - 1)) && decide (((i : Int) - 1) < (l.length : Int))))) <|
  bif (r2 || ((decide (0 < (i : Int))) && (decide ((l.getD i 0) <= (l.getD (Int.toNat ((i : Int) - 1)) 0))))) then (
  M.pure (.inr (.inl ())))
  else (
  M.pure (.inl (i + 1))))
  else (
  M.pure (.inr (.inr ())))
def m_nilometerref10_unlisted (l : List Int) (a : Int) (b : Int) : M Bool :=
  M.bind (M.iter (m_nilometerref10_unlisted_b0 l a b) 0) fun x_ => match x_ with
  | (.inl (_ : Unit)) => (
  M.pure true)
  | (.inr (_ : Unit)) => (
  M.pure false)
set_option maxRecDepth 100000 in
set_option maxHeartbeats 16000000 in
theorem nilometerref10_unlisted_ok {R : List Chunk} {C_l : Cells} {v_l : Value} (l : List Int) (a : Int) (b : Int) (hC_l : Reads R C_l) (hs_l : Sl C_l v_l l) {r : Bool} (hM : (m_nilometerref10_unlisted l a b).Ends r) (w : World) (H : St w w [] R) : Ret Try.prog 89 #[v_l, I a, I b] w fun v w' => ∃ (y0 : Bool), y0 = r /\ v = B y0 /\ St w w' [] R := by
 refine ret_of_W Try.func89 rfl rfl rfl ?_
 refine W.seq ?_
 refine W.region rfl ?_
 refine s_val (x_as (v := B false) rfl) ?_
 refine s_nil ?_
 refine W.seq ?_
 refine W.seq ?_
 refine W.region rfl ?_
 refine s_val (x_as (v := I 0) rfl) ?_
 refine s_nil ?_
 refine W.block ?_
 obtain ⟨ex1z, hi2z, hk3z⟩ := M.e_bind hM
 obtain ⟨m0_, hi2z⟩ := M.e_iter hi2z
 refine W.loop (fun m σ W => ∃ (i : Nat) (ρ : Env), σ = upds ρ [(0, v_l), (1, I a), (2, I b), (7, I (i : Int))] /\ M.iterN (m_nilometerref10_unlisted_b0 l a b) m i = some ex1z /\ St w W [] R) ?_ ?_
 ·exact ⟨_, 0, _, upds_of _ _ ⟨rfl, rfl, rfl, rfl, trivial⟩, hi2z, H⟩
 ·rintro m6z σ w4z ⟨i, ρ, rfl, hI5z, H⟩
  obtain ⟨m7z, lt8z, x9z, hM, hN10z⟩ := M.e_iterN hI5z
  simp only [m_nilometerref10_unlisted_b0] at hM
  clear hI5z
  refine W.seq ?_
  refine W.seq ?_
  refine W.region rfl ?_
  refine s_val (x_mv (v := I (i : Int)) rfl) ?_
  refine s_val (x_mv (v := v_l) rfl) ?_
  have hl11z := (hs_l).len_le
  refine s_val (x_lenS T27.und rfl hs_l) ?_
  refine s_val (x_cmp (kd := .i64) (a := (i : Int)) (b := (l.length : Int)) (r := decide ((i : Int) < (l.length : Int))) rfl rfl rfl) ?_
  refine s_nil ?_
  refine W.cond (decide ((i : Int) < (l.length : Int))) rfl (fun c12z => ?_) (fun c12z => ?_)
  ·replace hM := M.e_t hM c12z
   simp only [decide_eq_true_eq, decide_eq_false_iff_not, beq_iff_eq, bne_iff_ne, beq_eq_false_iff_ne, bne_eq_false_iff_eq, ne_eq, Decidable.not_not] at c12z
   refine W.skip ?_
   refine W.seq ?_
   refine W.block ?_
   refine W.seq ?_
   refine W.draw (fun W => St w W [] R) [(0, true), (1, true), (2, true), (3, true), (4, true), (5, true), (6, false), (7, true), (8, true), (9, true), (10, true), (11, true), (12, true), (13, true), (14, true), (15, true), (16, true), (17, true), (18, true), (19, true), (20, true), (21, true), (22, true)] mixed (by decide +kernel) rfl ?_
   intro w13z hx_
   replace H : St w w13z [] R := H.ext hx_
   clear hx_
   refine ⟨(H.pick [] (by decide) rfl), ?_⟩
   refine d_q rfl (fun w' H => x_mv (v := v_l) rfl) ?_
   refine d_q rfl (fun w' H => x_mv (v := I (i : Int)) rfl) ?_
   obtain ⟨sd14z, hM⟩ := M.e_grd hM
   simp only [Bool.and_eq_true, decide_eq_true_eq] at sd14z
   refine d_q rfl (fun w' H => x_ix (a := v_l) (b := I (i : Int)) (v := vat v_l 1 (Int.toNat (i : Int))) rfl rfl (Sl.ix (α := Int) T27.und T27.size hs_l (by omega) (by omega))) ?_
   refine d_q rfl (fun w' H => x_ld (p := vat v_l 1 (Int.toNat (i : Int))) (v := I (l.getD i 0)) rfl (ld_sc Sc3 (At.mono (Int_at hs_l (i := (i : Int)) (by omega) (by omega)) (hC_l.at H)))) ?_
   refine d_q rfl (fun w' H => x_mv (v := I a) rfl) ?_
   refine d_q rfl (fun w' H => x_mv (v := I b) rfl) ?_
   refine d_l rfl ?_
   obtain ⟨r16z, hx15z, hM⟩ := M.e_bind hM
   refine s_call cf67 [I (l.getD i 0), I a, I b] rfl (nilometerref10_outside_ok (l.getD i 0) a b hx15z _ (St.give (T := []) H rfl)) ?_
   rintro vq w17z ⟨r2, hr18z, hvq, H2_⟩
   subst hr18z
   subst vq
   try dsimp only at hM
   replace H : St w w17z [] R := H.back H2_ rfl
   clear H2_
   refine s_nil ⟨(H.pick [] (by decide) rfl), ?_⟩
   refine d_q rfl (fun w' H => x_mv (v := B r2) rfl) ?_
   refine d_qg (!r2) rfl (gy_f rfl) (fun hg => (fun w' H => x_mv (v := I (i : Int)) rfl)) ?_
   refine d_qg (!r2) rfl (gy_f rfl) (fun hg => (fun w' H => x_cmp (kd := .i64) (a := (i : Int)) (b := 0) (r := decide (0 < (i : Int))) (gd_of (c := !r2) hg (I (i : Int))) rfl rfl)) ?_
   refine d_qg (!r2) rfl (gy_f rfl) (fun hg => (fun w' H => x_mv (v := B (decide (0 < (i : Int)))) (gd_of (c := !r2) hg (B (decide (0 < (i : Int))))))) ?_
   refine d_qg ((!r2) && (decide (0 < (i : Int)))) rfl (gy_gt rfl rfl) (fun hg => (fun w' H => x_mv (v := v_l) rfl)) ?_
   refine d_qg ((!r2) && (decide (0 < (i : Int)))) rfl (gy_gt rfl rfl) (fun hg => (fun w' H => x_mv (v := I (i : Int)) rfl)) ?_
   refine d_qg ((!r2) && (decide (0 < (i : Int)))) rfl (gy_gt rfl rfl) (fun hg => (fun w' H => x_ix (a := v_l) (b := I (i : Int)) (v := vat v_l 1 (Int.toNat (i : Int))) (gd_of (c := ((!r2) && (decide (0 < (i : Int))))) hg (v_l)) (gd_of (c := ((!r2) && (decide (0 < (i : Int))))) hg (I (i : Int))) (Sl.ix (α := Int) T27.und T27.size hs_l (by first | omega | (have hx_ := hg; simp at hx_; omega)) (by first | omega | (have hx_ := hg; simp at hx_; omega))))) ?_
   refine d_qg ((!r2) && (decide (0 < (i : Int)))) rfl (gy_gt rfl rfl) (fun hg => (fun w' H => x_ld (p := vat v_l 1 (Int.toNat (i : Int))) (v := I (l.getD i 0)) (gd_of (c := ((!r2) && (decide (0 < (i : Int))))) hg (vat v_l 1 (Int.toNat (i : Int)))) (ld_sc Sc3 (At.mono (Int_at hs_l (i := (i : Int)) (by first | omega | (have hx_ := hg; simp at hx_; omega)) (by first | omega | (have hx_ := hg; simp at hx_; omega))) (hC_l.at H))))) ?_
   refine d_qg ((!r2) && (decide (0 < (i : Int)))) rfl (gy_gt rfl rfl) (fun hg => (fun w' H => x_mv (v := v_l) rfl)) ?_
   refine d_qg ((!r2) && (decide (0 < (i : Int)))) rfl (gy_gt rfl rfl) (fun hg => (fun w' H => x_mv (v := I (i : Int)) rfl)) ?_
   obtain ⟨sd19z, hM⟩ := M.e_grd hM
   replace sd19z := M.imp_of sd19z
   simp only [Bool.and_eq_true, decide_eq_true_eq] at sd19z
   refine d_qg ((!r2) && (decide (0 < (i : Int)))) rfl (gy_gt rfl rfl) (fun hg => (fun w' H => x_ari (a := (i : Int)) (b := 1) (r := (i : Int) - 1) (gd_of (c := ((!r2) && (decide (0 < (i : Int))))) hg (I (i : Int))) rfl rfl (by have h1_ := sd19z.resolve_left (by rw [hg]; decide); first | exact h1_ | exact h1_.1 | exact h1_.2 | omega | (have hx_ := hg; simp at hx_; omega)))) ?_
   obtain ⟨sd20z, hM⟩ := M.e_grd hM
   replace sd20z := M.imp_of sd20z
   simp only [Bool.and_eq_true, decide_eq_true_eq] at sd20z
   refine d_qg ((!r2) && (decide (0 < (i : Int)))) rfl (gy_gt rfl rfl) (fun hg => (fun w' H => x_ix (a := v_l) (b := I ((i : Int) - 1)) (v := vat v_l 1 (Int.toNat ((i : Int) - 1))) (gd_of (c := ((!r2) && (decide (0 < (i : Int))))) hg (v_l)) (gd_of (c := ((!r2) && (decide (0 < (i : Int))))) hg (I ((i : Int) - 1))) (Sl.ix (α := Int) T27.und T27.size hs_l (by have h1_ := sd19z.resolve_left (by rw [hg]; decide); have h2_ := sd20z.resolve_left (by rw [hg]; decide); first | exact h1_ | exact h1_.1 | exact h1_.2 | exact h2_ | exact h2_.1 | exact h2_.2 | omega | (have hx_ := hg; simp at hx_; omega)) (by have h1_ := sd19z.resolve_left (by rw [hg]; decide); have h2_ := sd20z.resolve_left (by rw [hg]; decide); first | exact h1_ | exact h1_.1 | exact h1_.2 | exact h2_ | exact h2_.1 | exact h2_.2 | omega | (have hx_ := hg; simp at hx_; omega))))) ?_
   refine d_qg ((!r2) && (decide (0 < (i : Int)))) rfl (gy_gt rfl rfl) (fun hg => (fun w' H => x_ld (p := vat v_l 1 (Int.toNat ((i : Int) - 1))) (v := I (l.getD (Int.toNat ((i : Int) - 1)) 0)) (gd_of (c := ((!r2) && (decide (0 < (i : Int))))) hg (vat v_l 1 (Int.toNat ((i : Int) - 1)))) (ld_sc Sc3 (At.mono (Int_at hs_l (i := (i : Int) - 1) (by have h1_ := sd19z.resolve_left (by rw [hg]; decide); have h2_ := sd20z.resolve_left (by rw [hg]; decide); first | exact h1_ | exact h1_.1 | exact h1_.2 | exact h2_ | exact h2_.1 | exact h2_.2 | omega | (have hx_ := hg; simp at hx_; omega)) (by have h1_ := sd19z.resolve_left (by rw [hg]; decide); have h2_ := sd20z.resolve_left (by rw [hg]; decide); first | exact h1_ | exact h1_.1 | exact h1_.2 | exact h2_ | exact h2_.1 | exact h2_.2 | omega | (have hx_ := hg; simp at hx_; omega))) (hC_l.at H))))) ?_
   refine d_qg ((!r2) && (decide (0 < (i : Int)))) rfl (gy_gt rfl rfl) (fun hg => (fun w' H => x_cmp (kd := .i64) (a := l.getD i 0) (b := l.getD (Int.toNat ((i : Int) - 1)) 0) (r := decide ((l.getD i 0) <= (l.getD (Int.toNat ((i : Int) - 1)) 0))) (gd_of (c := ((!r2) && (decide (0 < (i : Int))))) hg (I (l.getD i 0))) (gd_of (c := ((!r2) && (decide (0 < (i : Int))))) hg (I (l.getD (Int.toNat ((i : Int) - 1)) 0))) rfl)) ?_
   refine d_qg (!r2) rfl (gy_f rfl) (fun hg => (fun w' H => x_pand (b := decide (0 < (i : Int))) (r := decide ((l.getD i 0) <= (l.getD (Int.toNat ((i : Int) - 1)) 0))) (gd_of (c := !r2) hg (B (decide (0 < (i : Int))))) (fun hb => gd_of (c := ((!r2) && (decide (0 < (i : Int))))) (by first | exact hb | (rw [hb]; rfl) | simp_all) (B (decide ((l.getD i 0) <= (l.getD (Int.toNat ((i : Int) - 1)) 0))))) rfl)) ?_
   refine d_q rfl (fun w' H => x_por (b := r2) (r := ((decide (0 < (i : Int))) && (decide ((l.getD i 0) <= (l.getD (Int.toNat ((i : Int) - 1)) 0))))) rfl rfl (fun hb => gd_of (c := !r2) (by first | exact hb | (rw [hb]; rfl) | simp_all) (B ((decide (0 < (i : Int))) && (decide ((l.getD i 0) <= (l.getD (Int.toNat ((i : Int) - 1)) 0))))))) ?_
   refine d_nil ?_
   refine W.cond (r2 || ((decide (0 < (i : Int))) && (decide ((l.getD i 0) <= (l.getD (Int.toNat ((i : Int) - 1)) 0))))) rfl (fun c21z => ?_) (fun c21z => ?_)
   ·replace hM := M.e_t hM c21z
    refine W.seq ?_
    refine W.region rfl ?_
    refine s_val (x_as (v := B true) rfl) ?_
    refine s_nil ?_
    refine W.ret ?_
    have hX22z := M.e_inr hM hN10z
    subst hX22z
    replace hM := hk3z
    try dsimp only at hM
    have hr_ := M.e_pure hM
    exact ⟨_, resE_tmp rfl, ⟨true, hr_, rfl, H⟩⟩
   ·replace hM := M.e_f hM c21z
    refine W.skip ?_
    refine W.region rfl ?_
    refine s_val (x_mv (v := I (i : Int)) rfl) ?_
    refine s_val (x_ari (a := (i : Int)) (b := 1) (r := (i : Int) + 1) rfl rfl rfl (by omega)) ?_
    refine s_val (x_as (v := I ((i : Int) + 1)) rfl) ?_
    refine s_nil ?_
    exact ⟨m7z, lt8z, i + 1, _, upds_of _ _ ⟨rfl, rfl, rfl, rfl, trivial⟩, M.e_inl hM hN10z, H⟩
  ·replace hM := M.e_f hM c12z
   simp only [decide_eq_true_eq, decide_eq_false_iff_not, beq_iff_eq, bne_iff_ne, beq_eq_false_iff_ne, bne_eq_false_iff_eq, ne_eq, Decidable.not_not] at c12z
   refine W.exit ?_
   have hX23z := M.e_inr hM hN10z
   subst hX23z
   replace hM := hk3z
   try dsimp only at hM
   refine W.seq ?_
   refine W.region rfl ?_
   refine s_val (x_as (v := B false) rfl) ?_
   refine s_nil ?_
   refine W.ret ?_
   have hr_ := M.e_pure hM
   exact ⟨_, resE_tmp rfl, ⟨false, hr_, rfl, H⟩⟩

def m_nilometerref10_Check_b0 (b_Olds : List Old10) : Nat -> M (Nat ⊕ (Unit ⊕ Unit)) := fun i =>
  bif decide ((i : Int) < (b_Olds.length : Int)) then (
  M.grd (decide ((i : Int) < (b_Olds.length : Int))) <|
  bif decide (10 < (((b_Olds.getD i default).passed).length : Int)) then (
  M.pure (.inr (.inl ())))
  else (
  M.pure (.inl (i + 1))))
  else (
  M.pure (.inr (.inr ())))
def m_nilometerref10_Check_b1 (b_Years : List Yr) (b_First : Int) (b_Last : Int) : Nat -> M (Nat ⊕ (Int ⊕ Unit)) := fun i2 =>
  bif decide ((i2 : Int) < (b_Years.length : Int)) then (
  M.grd (decide ((i2 : Int) < (b_Years.length : Int))) <|
  M.bind (m_nilometerref10_outside ((b_Years.getD i2 default).year) b_First b_Last) fun r4 =>
  bif (((r4 || (decide (((b_Years.getD i2 default).lo) < 0))) || (decide (2000 < ((b_Years.getD i2 default).hi)))) || (decide (((b_Years.getD i2 default).hi) < ((b_Years.getD i2 default).lo)))) then (
  M.pure (.inr (.inl 110)))
  else (
  M.grd ((!(decide (0 < (i2 : Int))) || (decide ((-9223372036854775808 : Int) <= ((i2 : Int) - 1)) && decide (((i2 : Int) - 1) <= (9223372036854775807 : Int))))) <|
  M.grd ((!(decide (0 < (i2 : Int))) || (decide ((0 : Int) <= ((i2 : Int) - 1)) && decide (((i2 : Int) - 1) < (b_Years.length : Int))))) <|
  bif ((decide (0 < (i2 : Int))) && (decide (((b_Years.getD i2 default).year) <= ((b_Years.getD (Int.toNat ((i2 : Int) - 1)) default).year)))) then (
  M.pure (.inr (.inl 9)))
  else (
  M.pure (.inl (i2 + 1)))))
  else (
  M.pure (.inr (.inr ())))
def m_nilometerref10_Check_b2 (b_Olds : List Old10) (b_First : Int) (b_Last : Int) : Nat -> M (Nat ⊕ (Unit ⊕ Unit)) := fun i3 =>
  bif decide ((i3 : Int) < (b_Olds.length : Int)) then (
  M.grd (decide ((i3 : Int) < (b_Olds.length : Int))) <|
  M.bind (m_nilometerref10_outside ((b_Olds.getD i3 default).src) b_First b_Last) fun r5 =>
  M.bind (M.opt (!r5) (m_nilometerref10_outside ((b_Olds.getD i3 default).dst) b_First b_Last) false) fun r6 =>
  M.bind (M.opt (!((r5 || r6) || (decide (((b_Olds.getD i3 default).dst) < ((b_Olds.getD i3 default).src))))) (m_nilometerref10_outside ((b_Olds.getD i3 default).stage) 1 2000) false) fun r7 =>
  M.bind (M.opt (!(((r5 || r6) || (decide (((b_Olds.getD i3 default).dst) < ((b_Olds.getD i3 default).src)))) || r7)) (m_nilometerref10_unlisted ((b_Olds.getD i3 default).passed) ((b_Olds.getD i3 default).src) ((b_Olds.getD i3 default).dst)) false) fun r8 =>
  bif ((((r5 || r6) || (decide (((b_Olds.getD i3 default).dst) < ((b_Olds.getD i3 default).src)))) || r7) || r8) then (
  M.pure (.inr (.inl ())))
  else (
  M.pure (.inl (i3 + 1))))
  else (
  M.pure (.inr (.inr ())))
def m_nilometerref10_Check (b_Years : List Yr) (b_Olds : List Old10) (b_First : Int) (b_Last : Int) : M Int :=
  M.bind (m_nilometerref10_outside b_First 0 3000) fun r2 =>
  M.bind (M.opt (!r2) (m_nilometerref10_outside b_Last 0 3000) false) fun r3 =>
  M.grd ((!(!((r2 || r3) || (decide (b_Last < b_First)))) || (decide ((-9223372036854775808 : Int) <= (b_Last - b_First)) && decide ((b_Last - b_First) <= (9223372036854775807 : Int))))) <|
  bif (((r2 || r3) || (decide (b_Last < b_First))) || (decide (999 < (b_Last - b_First)))) then (
  M.pure 110)
  else (
  bif ((decide (60 < (b_Years.length : Int))) || (decide (8 < (b_Olds.length : Int)))) then (
  M.pure 3)
  else (
  M.bind (M.iter (m_nilometerref10_Check_b0 b_Olds) 0) fun x_ => match x_ with
  | (.inl (_ : Unit)) => (
  M.pure 3)
  | (.inr (_ : Unit)) => (
  M.bind (M.iter (m_nilometerref10_Check_b1 b_Years b_First b_Last) 0) fun x_ => match x_ with
  | (.inl s) => (
  M.pure s)
  | (.inr (_ : Unit)) => (
  M.bind (M.iter (m_nilometerref10_Check_b2 b_Olds b_First b_Last) 0) fun x_ => match x_ with
  | (.inl (_ : Unit)) => (
  M.pure 110)
  | (.inr (_ : Unit)) => (
  M.pure 0)))))
set_option maxRecDepth 100000 in
set_option maxHeartbeats 16000000 in
theorem nilometerref10_Check_ok {R : List Chunk} {C_b_Years : Cells} {v_b_Years : Value} {C_b_Olds : Cells} {v_b_Olds : Value} (b_Years : List Yr) (b_Olds : List Old10) (b_First : Int) (b_Last : Int) (hC_b_Years : Reads R C_b_Years) (hs_b_Years : Sl C_b_Years v_b_Years b_Years) (hC_b_Olds : Reads R C_b_Olds) (hs_b_Olds : Sl C_b_Olds v_b_Olds b_Olds) {r : Int} (hM : (m_nilometerref10_Check b_Years b_Olds b_First b_Last).Ends r) (w : World) (H : St w w [] R) : Ret Try.prog 48 #[.agg #[v_b_Years, v_b_Olds, I b_First, I b_Last]] w fun v w' => ∃ (y0 : Int), y0 = r /\ v = I y0 /\ St w w' [] R := by
 refine ret_of_W Try.func48 rfl rfl rfl ?_
 refine W.seq ?_
 refine W.region rfl ?_
 refine t_box (v := .agg #[v_b_Years, v_b_Olds, I b_First, I b_Last]) (cs := [v_b_Years, v_b_Olds, I b_First, I b_Last]) H rfl rfl ?_
 intro b_1 w1z H
 refine s_val (x_as (v := I 0) rfl) ?_
 refine s_nil ?_
 refine W.seq ?_
 refine W.seq ?_
 refine W.region rfl ?_
 refine s_val (x_fa (a := .pointer (some ⟨b_1, 0, none⟩)) (v := .pointer (some ⟨b_1, 2, none⟩)) rfl (fa_blk (o := 0) Fd55_2 Sz3)) ?_
 refine s_val (x_ld (p := .pointer (some ⟨b_1, 2, none⟩)) (v := I b_First) rfl (ldb_sc Sc3 (H.blk (k := 0) rfl) rfl)) ?_
 obtain ⟨r3z, hx2z, hM⟩ := M.e_bind hM
 refine s_call cf67 [I b_First, I 0, I 3000] rfl (nilometerref10_outside_ok b_First 0 3000 hx2z _ (St.give (T := [cBlk b_1 [v_b_Years, v_b_Olds, I b_First, I b_Last] 55]) H rfl)) ?_
 rintro vq w4z ⟨r2, hr5z, hvq, H2_⟩
 subst hr5z
 subst vq
 try dsimp only at hM
 replace H : St w w4z [cBlk b_1 [v_b_Years, v_b_Olds, I b_First, I b_Last] 55] R := H.back H2_ rfl
 clear H2_
 refine s_val (x_mv (v := B r2) rfl) ?_
 refine g_val (!r2) (gy_f rfl) (fun hg => x_fa (a := .pointer (some ⟨b_1, 0, none⟩)) (v := .pointer (some ⟨b_1, 3, none⟩)) rfl (fa_blk (o := 0) Fd55_3 Sz3)) ?_
 refine g_val (!r2) (gy_f rfl) (fun hg => x_ld (p := .pointer (some ⟨b_1, 3, none⟩)) (v := I b_Last) (gd_of (c := !r2) hg (.pointer (some ⟨b_1, 3, none⟩))) (ldb_sc Sc3 (H.blk (k := 0) rfl) rfl)) ?_
 obtain ⟨r3, hx6z, hM⟩ := M.e_bind hM
 refine t_gcall (!r2) (gy_f rfl) cf67 (B r3) (fun _ => [I b_Last, I 0, I 3000]) (fun hg => lst3 (gd_of (c := !r2) hg (I b_Last)) rfl rfl) H (fun hg => (nilometerref10_outside_ok b_Last 0 3000 (M.e_opt hx6z hg) _ (H.give (A := []) rfl)).mono fun v_ w_ ⟨y_, hr_, hv_, H_⟩ => by subst hr_; exact ⟨hv_, H.via H_⟩) ?_
 intro w7z H
 refine s_val (x_por (b := r2) (r := r3) rfl rfl (fun hb => gd_of (c := !r2) (by first | exact hb | (rw [hb]; rfl) | simp_all) (B r3))) ?_
 refine s_val (x_mv (v := B (r2 || r3)) rfl) ?_
 refine g_val (!(r2 || r3)) (gy_f rfl) (fun hg => x_fa (a := .pointer (some ⟨b_1, 0, none⟩)) (v := .pointer (some ⟨b_1, 3, none⟩)) rfl (fa_blk (o := 0) Fd55_3 Sz3)) ?_
 refine g_val (!(r2 || r3)) (gy_f rfl) (fun hg => x_ld (p := .pointer (some ⟨b_1, 3, none⟩)) (v := I b_Last) (gd_of (c := !(r2 || r3)) hg (.pointer (some ⟨b_1, 3, none⟩))) (ldb_sc Sc3 (H.blk (k := 0) rfl) rfl)) ?_
 refine g_val (!(r2 || r3)) (gy_f rfl) (fun hg => x_fa (a := .pointer (some ⟨b_1, 0, none⟩)) (v := .pointer (some ⟨b_1, 2, none⟩)) rfl (fa_blk (o := 0) Fd55_2 Sz3)) ?_
 refine g_val (!(r2 || r3)) (gy_f rfl) (fun hg => x_ld (p := .pointer (some ⟨b_1, 2, none⟩)) (v := I b_First) (gd_of (c := !(r2 || r3)) hg (.pointer (some ⟨b_1, 2, none⟩))) (ldb_sc Sc3 (H.blk (k := 0) rfl) rfl)) ?_
 refine g_val (!(r2 || r3)) (gy_f rfl) (fun hg => x_cmp (kd := .i64) (a := b_Last) (b := b_First) (r := decide (b_Last < b_First)) (gd_of (c := !(r2 || r3)) hg (I b_Last)) (gd_of (c := !(r2 || r3)) hg (I b_First)) rfl) ?_
 refine s_val (x_por (b := (r2 || r3)) (r := decide (b_Last < b_First)) rfl rfl (fun hb => gd_of (c := !(r2 || r3)) (by first | exact hb | (rw [hb]; rfl) | simp_all) (B (decide (b_Last < b_First))))) ?_
 refine s_val (x_mv (v := B ((r2 || r3) || (decide (b_Last < b_First)))) rfl) ?_
 refine g_val (!((r2 || r3) || (decide (b_Last < b_First)))) (gy_f rfl) (fun hg => x_fa (a := .pointer (some ⟨b_1, 0, none⟩)) (v := .pointer (some ⟨b_1, 3, none⟩)) rfl (fa_blk (o := 0) Fd55_3 Sz3)) ?_
 refine g_val (!((r2 || r3) || (decide (b_Last < b_First)))) (gy_f rfl) (fun hg => x_ld (p := .pointer (some ⟨b_1, 3, none⟩)) (v := I b_Last) (gd_of (c := !((r2 || r3) || (decide (b_Last < b_First)))) hg (.pointer (some ⟨b_1, 3, none⟩))) (ldb_sc Sc3 (H.blk (k := 0) rfl) rfl)) ?_
 refine g_val (!((r2 || r3) || (decide (b_Last < b_First)))) (gy_f rfl) (fun hg => x_fa (a := .pointer (some ⟨b_1, 0, none⟩)) (v := .pointer (some ⟨b_1, 2, none⟩)) rfl (fa_blk (o := 0) Fd55_2 Sz3)) ?_
 refine g_val (!((r2 || r3) || (decide (b_Last < b_First)))) (gy_f rfl) (fun hg => x_ld (p := .pointer (some ⟨b_1, 2, none⟩)) (v := I b_First) (gd_of (c := !((r2 || r3) || (decide (b_Last < b_First)))) hg (.pointer (some ⟨b_1, 2, none⟩))) (ldb_sc Sc3 (H.blk (k := 0) rfl) rfl)) ?_
 obtain ⟨sd8z, hM⟩ := M.e_grd hM
 replace sd8z := M.imp_of sd8z
 simp only [Bool.and_eq_true, decide_eq_true_eq] at sd8z
 refine g_val (!((r2 || r3) || (decide (b_Last < b_First)))) (gy_f rfl) (fun hg => x_ari (a := b_Last) (b := b_First) (r := b_Last - b_First) (gd_of (c := !((r2 || r3) || (decide (b_Last < b_First)))) hg (I b_Last)) (gd_of (c := !((r2 || r3) || (decide (b_Last < b_First)))) hg (I b_First)) rfl (by have h1_ := sd8z.resolve_left (by rw [hg]; decide); first | exact h1_ | exact h1_.1 | exact h1_.2 | omega | (have hx_ := hg; simp at hx_; omega))) ?_
 refine g_val (!((r2 || r3) || (decide (b_Last < b_First)))) (gy_f rfl) (fun hg => x_cmp (kd := .i64) (a := b_Last - b_First) (b := 999) (r := decide (999 < (b_Last - b_First))) (gd_of (c := !((r2 || r3) || (decide (b_Last < b_First)))) hg (I (b_Last - b_First))) rfl rfl) ?_
 refine s_val (x_por (b := ((r2 || r3) || (decide (b_Last < b_First)))) (r := decide (999 < (b_Last - b_First))) rfl rfl (fun hb => gd_of (c := !((r2 || r3) || (decide (b_Last < b_First)))) (by first | exact hb | (rw [hb]; rfl) | simp_all) (B (decide (999 < (b_Last - b_First)))))) ?_
 refine s_nil ?_
 refine W.cond (((r2 || r3) || (decide (b_Last < b_First))) || (decide (999 < (b_Last - b_First)))) rfl (fun c9z => ?_) (fun c9z => ?_)
 ·replace hM := M.e_t hM c9z
  refine W.seq ?_
  refine W.region rfl ?_
  refine s_val (x_as (v := I 110) rfl) ?_
  refine s_nil ?_
  refine W.ret ?_
  have hr_ := M.e_pure hM
  exact ⟨_, resE_tmp rfl, ⟨110, hr_, rfl, (H.pick [] (by decide) rfl)⟩⟩
 ·replace hM := M.e_f hM c9z
  refine W.skip ?_
  refine W.seq ?_
  refine W.seq ?_
  refine W.region rfl ?_
  refine s_val (x_fa (a := .pointer (some ⟨b_1, 0, none⟩)) (v := .pointer (some ⟨b_1, 0, none⟩)) rfl (fa_blk (o := 0) Fd55_0 Sz52)) ?_
  refine s_val (x_ld (p := .pointer (some ⟨b_1, 0, none⟩)) (v := v_b_Years) rfl (ldb_sc Sc52 (H.blk (k := 0) rfl) rfl)) ?_
  have hl10z := (hs_b_Years).len_le
  refine s_val (x_lenS T52.und rfl hs_b_Years) ?_
  refine s_val (x_cmp (kd := .i64) (a := (b_Years.length : Int)) (b := 60) (r := decide (60 < (b_Years.length : Int))) rfl rfl rfl) ?_
  refine s_val (x_mv (v := B (decide (60 < (b_Years.length : Int)))) rfl) ?_
  refine g_val (!(decide (60 < (b_Years.length : Int)))) (gy_f rfl) (fun hg => x_fa (a := .pointer (some ⟨b_1, 0, none⟩)) (v := .pointer (some ⟨b_1, 1, none⟩)) rfl (fa_blk (o := 0) Fd55_1 Sz53)) ?_
  refine g_val (!(decide (60 < (b_Years.length : Int)))) (gy_f rfl) (fun hg => x_ld (p := .pointer (some ⟨b_1, 1, none⟩)) (v := v_b_Olds) (gd_of (c := !(decide (60 < (b_Years.length : Int)))) hg (.pointer (some ⟨b_1, 1, none⟩))) (ldb_sc Sc53 (H.blk (k := 0) rfl) rfl)) ?_
  refine g_val (!(decide (60 < (b_Years.length : Int)))) (gy_f rfl) (fun hg => x_lenS T53.und (gd_of (c := !(decide (60 < (b_Years.length : Int)))) hg (v_b_Olds)) hs_b_Olds) ?_
  refine g_val (!(decide (60 < (b_Years.length : Int)))) (gy_f rfl) (fun hg => x_cmp (kd := .i64) (a := (b_Olds.length : Int)) (b := 8) (r := decide (8 < (b_Olds.length : Int))) (gd_of (c := !(decide (60 < (b_Years.length : Int)))) hg (I (b_Olds.length : Int))) rfl rfl) ?_
  refine s_val (x_por (b := decide (60 < (b_Years.length : Int))) (r := decide (8 < (b_Olds.length : Int))) rfl rfl (fun hb => gd_of (c := !(decide (60 < (b_Years.length : Int)))) (by first | exact hb | (rw [hb]; rfl) | simp_all) (B (decide (8 < (b_Olds.length : Int)))))) ?_
  refine s_nil ?_
  refine W.cond ((decide (60 < (b_Years.length : Int))) || (decide (8 < (b_Olds.length : Int)))) rfl (fun c12z => ?_) (fun c12z => ?_)
  ·replace hM := M.e_t hM c12z
   refine W.seq ?_
   refine W.region rfl ?_
   refine s_val (x_as (v := I 3) rfl) ?_
   refine s_nil ?_
   refine W.ret ?_
   have hr_ := M.e_pure hM
   exact ⟨_, resE_tmp rfl, ⟨3, hr_, rfl, (H.pick [] (by decide) rfl)⟩⟩
  ·replace hM := M.e_f hM c12z
   refine W.skip ?_
   refine W.seq ?_
   refine W.seq ?_
   refine W.region rfl ?_
   refine s_val (x_as (v := I 0) rfl) ?_
   refine s_nil ?_
   refine W.block ?_
   obtain ⟨ex13z, hi14z, hk15z⟩ := M.e_bind hM
   obtain ⟨m0_, hi14z⟩ := M.e_iter hi14z
   refine W.loop (fun m σ W => ∃ (i : Nat) (ρ : Env), σ = upds ρ [(1, .pointer (some ⟨b_1, 0, none⟩)), (3, I (i : Int))] /\ M.iterN (m_nilometerref10_Check_b0 b_Olds) m i = some ex13z /\ St w W [cBlk b_1 [v_b_Years, v_b_Olds, I b_First, I b_Last] 55] R) ?_ ?_
   ·exact ⟨_, 0, _, upds_of _ _ ⟨rfl, rfl, trivial⟩, hi14z, H⟩
   ·rintro m18z σ w16z ⟨i, ρ, rfl, hI17z, H⟩
    obtain ⟨m19z, lt20z, x21z, hM, hN22z⟩ := M.e_iterN hI17z
    simp only [m_nilometerref10_Check_b0] at hM
    clear hI17z
    refine W.seq ?_
    refine W.seq ?_
    refine W.region rfl ?_
    refine s_val (x_mv (v := I (i : Int)) rfl) ?_
    refine s_val (x_fa (a := .pointer (some ⟨b_1, 0, none⟩)) (v := .pointer (some ⟨b_1, 1, none⟩)) rfl (fa_blk (o := 0) Fd55_1 Sz53)) ?_
    refine s_val (x_ld (p := .pointer (some ⟨b_1, 1, none⟩)) (v := v_b_Olds) rfl (ldb_sc Sc53 (H.blk (k := 0) rfl) rfl)) ?_
    have hl23z := (hs_b_Olds).len_le
    refine s_val (x_lenS T53.und rfl hs_b_Olds) ?_
    refine s_val (x_cmp (kd := .i64) (a := (i : Int)) (b := (b_Olds.length : Int)) (r := decide ((i : Int) < (b_Olds.length : Int))) rfl rfl rfl) ?_
    refine s_nil ?_
    refine W.cond (decide ((i : Int) < (b_Olds.length : Int))) rfl (fun c24z => ?_) (fun c24z => ?_)
    ·replace hM := M.e_t hM c24z
     simp only [decide_eq_true_eq, decide_eq_false_iff_not, beq_iff_eq, bne_iff_ne, beq_eq_false_iff_ne, bne_eq_false_iff_eq, ne_eq, Decidable.not_not] at c24z
     refine W.skip ?_
     refine W.seq ?_
     refine W.block ?_
     refine W.seq ?_
     refine W.region rfl ?_
     refine s_val (x_fa (a := .pointer (some ⟨b_1, 0, none⟩)) (v := .pointer (some ⟨b_1, 1, none⟩)) rfl (fa_blk (o := 0) Fd55_1 Sz53)) ?_
     refine s_val (x_ld (p := .pointer (some ⟨b_1, 1, none⟩)) (v := v_b_Olds) rfl (ldb_sc Sc53 (H.blk (k := 0) rfl) rfl)) ?_
     refine s_val (x_mv (v := I (i : Int)) rfl) ?_
     obtain ⟨sd25z, hM⟩ := M.e_grd hM
     simp only [Bool.and_eq_true, decide_eq_true_eq] at sd25z
     refine s_val (x_ix (a := v_b_Olds) (b := I (i : Int)) (v := vat v_b_Olds 4 (Int.toNat (i : Int))) rfl rfl (Sl.ix (α := Old10) T53.und T53.size hs_b_Olds (by omega) (by omega))) ?_
     refine s_val (x_fa (a := vat v_b_Olds 4 (Int.toNat (i : Int))) (v := fat (vat v_b_Olds 4 (Int.toNat (i : Int))) 3) rfl (fa_pl Fd128_3 Sz27 (Sl.pl (i := (i : Int)) hs_b_Olds (by omega) (by omega)))) ?_
     obtain ⟨u26z, ha_u26z, hs27z⟩ := Old10_at3 hs_b_Olds (i := (i : Int)) (by omega) (by omega)
     replace hs27z : Sl _ u26z (b_Olds.getD i default).passed := hs27z
     have hl_hs27z := hs27z.len_le
     refine s_val (x_ld (p := fat (vat v_b_Olds 4 (Int.toNat (i : Int))) 3) (v := u26z) rfl (ld_sc Sc27 (At.mono (ha_u26z) (hC_b_Olds.at H)))) ?_
     have hl28z := (hs27z).len_le
     refine s_val (x_lenS T27.und rfl hs27z) ?_
     refine s_val (x_cmp (kd := .i64) (a := (((b_Olds.getD i default).passed).length : Int)) (b := 10) (r := decide (10 < (((b_Olds.getD i default).passed).length : Int))) rfl rfl rfl) ?_
     refine s_nil ?_
     refine W.cond (decide (10 < (((b_Olds.getD i default).passed).length : Int))) rfl (fun c29z => ?_) (fun c29z => ?_)
     ·replace hM := M.e_t hM c29z
      simp only [decide_eq_true_eq, decide_eq_false_iff_not, beq_iff_eq, bne_iff_ne, beq_eq_false_iff_ne, bne_eq_false_iff_eq, ne_eq, Decidable.not_not] at c29z
      refine W.seq ?_
      refine W.region rfl ?_
      refine s_val (x_as (v := I 3) rfl) ?_
      refine s_nil ?_
      refine W.ret ?_
      have hX30z := M.e_inr hM hN22z
      subst hX30z
      replace hM := hk15z
      try dsimp only at hM
      have hr_ := M.e_pure hM
      exact ⟨_, resE_tmp rfl, ⟨3, hr_, rfl, (H.pick [] (by decide) rfl)⟩⟩
     ·replace hM := M.e_f hM c29z
      simp only [decide_eq_true_eq, decide_eq_false_iff_not, beq_iff_eq, bne_iff_ne, beq_eq_false_iff_ne, bne_eq_false_iff_eq, ne_eq, Decidable.not_not] at c29z
      refine W.skip ?_
      refine W.region rfl ?_
      refine s_val (x_mv (v := I (i : Int)) rfl) ?_
      refine s_val (x_ari (a := (i : Int)) (b := 1) (r := (i : Int) + 1) rfl rfl rfl (by omega)) ?_
      refine s_val (x_as (v := I ((i : Int) + 1)) rfl) ?_
      refine s_nil ?_
      exact ⟨m19z, lt20z, i + 1, _, upds_of _ _ ⟨rfl, rfl, trivial⟩, M.e_inl hM hN22z, H⟩
    ·replace hM := M.e_f hM c24z
     simp only [decide_eq_true_eq, decide_eq_false_iff_not, beq_iff_eq, bne_iff_ne, beq_eq_false_iff_ne, bne_eq_false_iff_eq, ne_eq, Decidable.not_not] at c24z
     refine W.exit ?_
     have hX31z := M.e_inr hM hN22z
     subst hX31z
     replace hM := hk15z
     try dsimp only at hM
     refine W.seq ?_
     refine W.seq ?_
     refine W.region rfl ?_
     refine s_val (x_as (v := I 0) rfl) ?_
     refine s_nil ?_
     refine W.block ?_
     obtain ⟨ex32z, hi33z, hk34z⟩ := M.e_bind hM
     obtain ⟨m0_, hi33z⟩ := M.e_iter hi33z
     refine W.loop (fun m σ W => ∃ (i2 : Nat) (ρ : Env), σ = upds ρ [(1, .pointer (some ⟨b_1, 0, none⟩)), (4, I (i2 : Int))] /\ M.iterN (m_nilometerref10_Check_b1 b_Years b_First b_Last) m i2 = some ex32z /\ St w W [cBlk b_1 [v_b_Years, v_b_Olds, I b_First, I b_Last] 55] R) ?_ ?_
     ·exact ⟨_, 0, _, upds_of _ _ ⟨rfl, rfl, trivial⟩, hi33z, H⟩
     ·rintro m37z σ w35z ⟨i2, ρ, rfl, hI36z, H⟩
      obtain ⟨m38z, lt39z, x40z, hM, hN41z⟩ := M.e_iterN hI36z
      simp only [m_nilometerref10_Check_b1] at hM
      clear hI36z
      refine W.seq ?_
      refine W.seq ?_
      refine W.region rfl ?_
      refine s_val (x_mv (v := I (i2 : Int)) rfl) ?_
      refine s_val (x_fa (a := .pointer (some ⟨b_1, 0, none⟩)) (v := .pointer (some ⟨b_1, 0, none⟩)) rfl (fa_blk (o := 0) Fd55_0 Sz52)) ?_
      refine s_val (x_ld (p := .pointer (some ⟨b_1, 0, none⟩)) (v := v_b_Years) rfl (ldb_sc Sc52 (H.blk (k := 0) rfl) rfl)) ?_
      have hl42z := (hs_b_Years).len_le
      refine s_val (x_lenS T52.und rfl hs_b_Years) ?_
      refine s_val (x_cmp (kd := .i64) (a := (i2 : Int)) (b := (b_Years.length : Int)) (r := decide ((i2 : Int) < (b_Years.length : Int))) rfl rfl rfl) ?_
      refine s_nil ?_
      refine W.cond (decide ((i2 : Int) < (b_Years.length : Int))) rfl (fun c43z => ?_) (fun c43z => ?_)
      ·replace hM := M.e_t hM c43z
       simp only [decide_eq_true_eq, decide_eq_false_iff_not, beq_iff_eq, bne_iff_ne, beq_eq_false_iff_ne, bne_eq_false_iff_eq, ne_eq, Decidable.not_not] at c43z
       refine W.skip ?_
       refine W.seq ?_
       refine W.block ?_
       refine W.seq ?_
       refine W.region rfl ?_
       refine s_val (x_fa (a := .pointer (some ⟨b_1, 0, none⟩)) (v := .pointer (some ⟨b_1, 0, none⟩)) rfl (fa_blk (o := 0) Fd55_0 Sz52)) ?_
       refine s_val (x_ld (p := .pointer (some ⟨b_1, 0, none⟩)) (v := v_b_Years) rfl (ldb_sc Sc52 (H.blk (k := 0) rfl) rfl)) ?_
       refine s_val (x_mv (v := I (i2 : Int)) rfl) ?_
       obtain ⟨sd44z, hM⟩ := M.e_grd hM
       simp only [Bool.and_eq_true, decide_eq_true_eq] at sd44z
       refine s_val (x_ix (a := v_b_Years) (b := I (i2 : Int)) (v := vat v_b_Years 3 (Int.toNat (i2 : Int))) rfl rfl (Sl.ix (α := Yr) T52.und T52.size hs_b_Years (by omega) (by omega))) ?_
       refine s_val (x_ld (p := vat v_b_Years 3 (Int.toNat (i2 : Int))) (v := .agg #[I ((b_Years.getD i2 default).year), I ((b_Years.getD i2 default).lo), I ((b_Years.getD i2 default).hi)]) rfl (ld_ag Ag127 Sz127 (At.mono (Yr_atA hs_b_Years (i := (i2 : Int)) (by omega) (by omega)) (hC_b_Years.at H)))) ?_
       refine t_alloc (cs := [I 0, I 0, I 0]) H Al127 rfl ?_
       intro b_2 w45z H
       refine t_st (k := 0) (b := b_2) (off := 0) (cs := [I 0, I 0, I 0]) (vs := [I ((b_Years.getD i2 default).year), I ((b_Years.getD i2 default).lo), I ((b_Years.getD i2 default).hi)]) (cs' := [I ((b_Years.getD i2 default).year), I ((b_Years.getD i2 default).lo), I ((b_Years.getD i2 default).hi)]) (v := .agg #[I ((b_Years.getD i2 default).year), I ((b_Years.getD i2 default).lo), I ((b_Years.getD i2 default).hi)]) (L' := [cBlk b_2 [I ((b_Years.getD i2 default).year), I ((b_Years.getD i2 default).lo), I ((b_Years.getD i2 default).hi)] 127, cBlk b_1 [v_b_Years, v_b_Olds, I b_First, I b_Last] 55]) H rfl rfl rfl Sz127 rfl rfl rfl rfl rfl rfl ?_
       intro w46z H
       refine s_nil ?_
       refine W.seq ?_
       refine W.seq ?_
       refine W.region rfl ?_
       refine s_val (x_fa (a := .pointer (some ⟨b_2, 0, none⟩)) (v := .pointer (some ⟨b_2, 0, none⟩)) rfl (fa_blk (o := 0) Fd127_0 Sz3)) ?_
       refine s_val (x_ld (p := .pointer (some ⟨b_2, 0, none⟩)) (v := I ((b_Years.getD i2 default).year)) rfl (ldb_sc Sc3 (H.blk (k := 0) rfl) rfl)) ?_
       refine s_val (x_fa (a := .pointer (some ⟨b_1, 0, none⟩)) (v := .pointer (some ⟨b_1, 2, none⟩)) rfl (fa_blk (o := 0) Fd55_2 Sz3)) ?_
       refine s_val (x_ld (p := .pointer (some ⟨b_1, 2, none⟩)) (v := I b_First) rfl (ldb_sc Sc3 (H.blk (k := 1) rfl) rfl)) ?_
       refine s_val (x_fa (a := .pointer (some ⟨b_1, 0, none⟩)) (v := .pointer (some ⟨b_1, 3, none⟩)) rfl (fa_blk (o := 0) Fd55_3 Sz3)) ?_
       refine s_val (x_ld (p := .pointer (some ⟨b_1, 3, none⟩)) (v := I b_Last) rfl (ldb_sc Sc3 (H.blk (k := 1) rfl) rfl)) ?_
       obtain ⟨r48z, hx47z, hM⟩ := M.e_bind hM
       refine s_call cf67 [I ((b_Years.getD i2 default).year), I b_First, I b_Last] rfl (nilometerref10_outside_ok ((b_Years.getD i2 default).year) b_First b_Last hx47z _ (St.give (T := [cBlk b_2 [I ((b_Years.getD i2 default).year), I ((b_Years.getD i2 default).lo), I ((b_Years.getD i2 default).hi)] 127, cBlk b_1 [v_b_Years, v_b_Olds, I b_First, I b_Last] 55]) H rfl)) ?_
       rintro vq w49z ⟨r4, hr50z, hvq, H2_⟩
       subst hr50z
       subst vq
       try dsimp only at hM
       replace H : St w w49z [cBlk b_2 [I ((b_Years.getD i2 default).year), I ((b_Years.getD i2 default).lo), I ((b_Years.getD i2 default).hi)] 127, cBlk b_1 [v_b_Years, v_b_Olds, I b_First, I b_Last] 55] R := H.back H2_ rfl
       clear H2_
       refine s_val (x_mv (v := B r4) rfl) ?_
       refine g_val (!r4) (gy_f rfl) (fun hg => x_fa (a := .pointer (some ⟨b_2, 0, none⟩)) (v := .pointer (some ⟨b_2, 1, none⟩)) rfl (fa_blk (o := 0) Fd127_1 Sz35)) ?_
       refine g_val (!r4) (gy_f rfl) (fun hg => x_fa (a := .pointer (some ⟨b_2, 1, none⟩)) (v := .pointer (some ⟨b_2, 1, none⟩)) (gd_of (c := !r4) hg (.pointer (some ⟨b_2, 1, none⟩))) (fa_blk (o := 1) Fd35_0 Sz3)) ?_
       refine g_val (!r4) (gy_f rfl) (fun hg => x_ld (p := .pointer (some ⟨b_2, 1, none⟩)) (v := I ((b_Years.getD i2 default).lo)) (gd_of (c := !r4) hg (.pointer (some ⟨b_2, 1, none⟩))) (ldb_sc Sc3 (H.blk (k := 0) rfl) rfl)) ?_
       refine g_val (!r4) (gy_f rfl) (fun hg => x_cmp (kd := .i64) (a := (b_Years.getD i2 default).lo) (b := 0) (r := decide (((b_Years.getD i2 default).lo) < 0)) (gd_of (c := !r4) hg (I ((b_Years.getD i2 default).lo))) rfl rfl) ?_
       refine s_val (x_por (b := r4) (r := decide (((b_Years.getD i2 default).lo) < 0)) rfl rfl (fun hb => gd_of (c := !r4) (by first | exact hb | (rw [hb]; rfl) | simp_all) (B (decide (((b_Years.getD i2 default).lo) < 0))))) ?_
       refine s_val (x_mv (v := B (r4 || (decide (((b_Years.getD i2 default).lo) < 0)))) rfl) ?_
       refine g_val (!(r4 || (decide (((b_Years.getD i2 default).lo) < 0)))) (gy_f rfl) (fun hg => x_fa (a := .pointer (some ⟨b_2, 0, none⟩)) (v := .pointer (some ⟨b_2, 1, none⟩)) rfl (fa_blk (o := 0) Fd127_1 Sz35)) ?_
       refine g_val (!(r4 || (decide (((b_Years.getD i2 default).lo) < 0)))) (gy_f rfl) (fun hg => x_fa (a := .pointer (some ⟨b_2, 1, none⟩)) (v := .pointer (some ⟨b_2, 2, none⟩)) (gd_of (c := !(r4 || (decide (((b_Years.getD i2 default).lo) < 0)))) hg (.pointer (some ⟨b_2, 1, none⟩))) (fa_blk (o := 1) Fd35_1 Sz3)) ?_
       refine g_val (!(r4 || (decide (((b_Years.getD i2 default).lo) < 0)))) (gy_f rfl) (fun hg => x_ld (p := .pointer (some ⟨b_2, 2, none⟩)) (v := I ((b_Years.getD i2 default).hi)) (gd_of (c := !(r4 || (decide (((b_Years.getD i2 default).lo) < 0)))) hg (.pointer (some ⟨b_2, 2, none⟩))) (ldb_sc Sc3 (H.blk (k := 0) rfl) rfl)) ?_
       refine g_val (!(r4 || (decide (((b_Years.getD i2 default).lo) < 0)))) (gy_f rfl) (fun hg => x_cmp (kd := .i64) (a := (b_Years.getD i2 default).hi) (b := 2000) (r := decide (2000 < ((b_Years.getD i2 default).hi))) (gd_of (c := !(r4 || (decide (((b_Years.getD i2 default).lo) < 0)))) hg (I ((b_Years.getD i2 default).hi))) rfl rfl) ?_
       refine s_val (x_por (b := (r4 || (decide (((b_Years.getD i2 default).lo) < 0)))) (r := decide (2000 < ((b_Years.getD i2 default).hi))) rfl rfl (fun hb => gd_of (c := !(r4 || (decide (((b_Years.getD i2 default).lo) < 0)))) (by first | exact hb | (rw [hb]; rfl) | simp_all) (B (decide (2000 < ((b_Years.getD i2 default).hi)))))) ?_
       refine s_val (x_mv (v := B ((r4 || (decide (((b_Years.getD i2 default).lo) < 0))) || (decide (2000 < ((b_Years.getD i2 default).hi))))) rfl) ?_
       refine g_val (!((r4 || (decide (((b_Years.getD i2 default).lo) < 0))) || (decide (2000 < ((b_Years.getD i2 default).hi))))) (gy_f rfl) (fun hg => x_fa (a := .pointer (some ⟨b_2, 0, none⟩)) (v := .pointer (some ⟨b_2, 1, none⟩)) rfl (fa_blk (o := 0) Fd127_1 Sz35)) ?_
       refine g_val (!((r4 || (decide (((b_Years.getD i2 default).lo) < 0))) || (decide (2000 < ((b_Years.getD i2 default).hi))))) (gy_f rfl) (fun hg => x_fa (a := .pointer (some ⟨b_2, 1, none⟩)) (v := .pointer (some ⟨b_2, 1, none⟩)) (gd_of (c := !((r4 || (decide (((b_Years.getD i2 default).lo) < 0))) || (decide (2000 < ((b_Years.getD i2 default).hi))))) hg (.pointer (some ⟨b_2, 1, none⟩))) (fa_blk (o := 1) Fd35_0 Sz3)) ?_
       refine g_val (!((r4 || (decide (((b_Years.getD i2 default).lo) < 0))) || (decide (2000 < ((b_Years.getD i2 default).hi))))) (gy_f rfl) (fun hg => x_ld (p := .pointer (some ⟨b_2, 1, none⟩)) (v := I ((b_Years.getD i2 default).lo)) (gd_of (c := !((r4 || (decide (((b_Years.getD i2 default).lo) < 0))) || (decide (2000 < ((b_Years.getD i2 default).hi))))) hg (.pointer (some ⟨b_2, 1, none⟩))) (ldb_sc Sc3 (H.blk (k := 0) rfl) rfl)) ?_
       refine g_val (!((r4 || (decide (((b_Years.getD i2 default).lo) < 0))) || (decide (2000 < ((b_Years.getD i2 default).hi))))) (gy_f rfl) (fun hg => x_fa (a := .pointer (some ⟨b_2, 0, none⟩)) (v := .pointer (some ⟨b_2, 1, none⟩)) rfl (fa_blk (o := 0) Fd127_1 Sz35)) ?_
       refine g_val (!((r4 || (decide (((b_Years.getD i2 default).lo) < 0))) || (decide (2000 < ((b_Years.getD i2 default).hi))))) (gy_f rfl) (fun hg => x_fa (a := .pointer (some ⟨b_2, 1, none⟩)) (v := .pointer (some ⟨b_2, 2, none⟩)) (gd_of (c := !((r4 || (decide (((b_Years.getD i2 default).lo) < 0))) || (decide (2000 < ((b_Years.getD i2 default).hi))))) hg (.pointer (some ⟨b_2, 1, none⟩))) (fa_blk (o := 1) Fd35_1 Sz3)) ?_
       refine g_val (!((r4 || (decide (((b_Years.getD i2 default).lo) < 0))) || (decide (2000 < ((b_Years.getD i2 default).hi))))) (gy_f rfl) (fun hg => x_ld (p := .pointer (some ⟨b_2, 2, none⟩)) (v := I ((b_Years.getD i2 default).hi)) (gd_of (c := !((r4 || (decide (((b_Years.getD i2 default).lo) < 0))) || (decide (2000 < ((b_Years.getD i2 default).hi))))) hg (.pointer (some ⟨b_2, 2, none⟩))) (ldb_sc Sc3 (H.blk (k := 0) rfl) rfl)) ?_
       refine g_val (!((r4 || (decide (((b_Years.getD i2 default).lo) < 0))) || (decide (2000 < ((b_Years.getD i2 default).hi))))) (gy_f rfl) (fun hg => x_cmp (kd := .i64) (a := (b_Years.getD i2 default).lo) (b := (b_Years.getD i2 default).hi) (r := decide (((b_Years.getD i2 default).hi) < ((b_Years.getD i2 default).lo))) (gd_of (c := !((r4 || (decide (((b_Years.getD i2 default).lo) < 0))) || (decide (2000 < ((b_Years.getD i2 default).hi))))) hg (I ((b_Years.getD i2 default).lo))) (gd_of (c := !((r4 || (decide (((b_Years.getD i2 default).lo) < 0))) || (decide (2000 < ((b_Years.getD i2 default).hi))))) hg (I ((b_Years.getD i2 default).hi))) rfl) ?_
       refine s_val (x_por (b := ((r4 || (decide (((b_Years.getD i2 default).lo) < 0))) || (decide (2000 < ((b_Years.getD i2 default).hi))))) (r := decide (((b_Years.getD i2 default).hi) < ((b_Years.getD i2 default).lo))) rfl rfl (fun hb => gd_of (c := !((r4 || (decide (((b_Years.getD i2 default).lo) < 0))) || (decide (2000 < ((b_Years.getD i2 default).hi))))) (by first | exact hb | (rw [hb]; rfl) | simp_all) (B (decide (((b_Years.getD i2 default).hi) < ((b_Years.getD i2 default).lo)))))) ?_
       refine s_nil ?_
       refine W.cond (((r4 || (decide (((b_Years.getD i2 default).lo) < 0))) || (decide (2000 < ((b_Years.getD i2 default).hi)))) || (decide (((b_Years.getD i2 default).hi) < ((b_Years.getD i2 default).lo)))) rfl (fun c51z => ?_) (fun c51z => ?_)
       ·replace hM := M.e_t hM c51z
        refine W.seq ?_
        refine W.region rfl ?_
        refine s_val (x_as (v := I 110) rfl) ?_
        refine s_nil ?_
        refine W.ret ?_
        have hX52z := M.e_inr hM hN41z
        subst hX52z
        replace hM := hk34z
        try dsimp only at hM
        have hr_ := M.e_pure hM
        exact ⟨_, resE_tmp rfl, ⟨110, hr_, rfl, (H.pick [] (by decide) rfl)⟩⟩
       ·replace hM := M.e_f hM c51z
        refine W.skip ?_
        refine W.seq ?_
        refine W.draw (fun W => St w W [cBlk b_2 [I ((b_Years.getD i2 default).year), I ((b_Years.getD i2 default).lo), I ((b_Years.getD i2 default).hi)] 127, cBlk b_1 [v_b_Years, v_b_Olds, I b_First, I b_Last] 55] R) [(0, true), (1, true), (2, true), (3, true), (4, true), (5, true), (6, true), (7, true), (8, true), (9, true), (10, true), (11, true), (12, true), (13, true)] mixed (by decide +kernel) rfl ?_
        intro w53z hx_
        replace H : St w w53z [cBlk b_2 [I ((b_Years.getD i2 default).year), I ((b_Years.getD i2 default).lo), I ((b_Years.getD i2 default).hi)] 127, cBlk b_1 [v_b_Years, v_b_Olds, I b_First, I b_Last] 55] R := H.ext hx_
        clear hx_
        refine ⟨(H.pick [0, 1] (by decide) rfl), ?_⟩
        refine d_q rfl (fun w' H => x_mv (v := I (i2 : Int)) rfl) ?_
        refine d_q rfl (fun w' H => x_cmp (kd := .i64) (a := (i2 : Int)) (b := 0) (r := decide (0 < (i2 : Int))) rfl rfl rfl) ?_
        refine d_q rfl (fun w' H => x_mv (v := B (decide (0 < (i2 : Int)))) rfl) ?_
        refine d_qg (decide (0 < (i2 : Int))) rfl (gy_t rfl) (fun hg => (fun w' H => x_fa (a := .pointer (some ⟨b_2, 0, none⟩)) (v := .pointer (some ⟨b_2, 0, none⟩)) rfl (fa_blk (o := 0) Fd127_0 Sz3))) ?_
        refine d_qg (decide (0 < (i2 : Int))) rfl (gy_t rfl) (fun hg => (fun w' H => x_ld (p := .pointer (some ⟨b_2, 0, none⟩)) (v := I ((b_Years.getD i2 default).year)) (gd_of (c := decide (0 < (i2 : Int))) hg (.pointer (some ⟨b_2, 0, none⟩))) (ldb_sc Sc3 (H.blk (k := 0) rfl) rfl))) ?_
        refine d_qg (decide (0 < (i2 : Int))) rfl (gy_t rfl) (fun hg => (fun w' H => x_fa (a := .pointer (some ⟨b_1, 0, none⟩)) (v := .pointer (some ⟨b_1, 0, none⟩)) rfl (fa_blk (o := 0) Fd55_0 Sz52))) ?_
        refine d_qg (decide (0 < (i2 : Int))) rfl (gy_t rfl) (fun hg => (fun w' H => x_ld (p := .pointer (some ⟨b_1, 0, none⟩)) (v := v_b_Years) (gd_of (c := decide (0 < (i2 : Int))) hg (.pointer (some ⟨b_1, 0, none⟩))) (ldb_sc Sc52 (H.blk (k := 1) rfl) rfl))) ?_
        refine d_qg (decide (0 < (i2 : Int))) rfl (gy_t rfl) (fun hg => (fun w' H => x_mv (v := I (i2 : Int)) rfl)) ?_
        obtain ⟨sd54z, hM⟩ := M.e_grd hM
        replace sd54z := M.imp_of sd54z
        simp only [Bool.and_eq_true, decide_eq_true_eq] at sd54z
        refine d_qg (decide (0 < (i2 : Int))) rfl (gy_t rfl) (fun hg => (fun w' H => x_ari (a := (i2 : Int)) (b := 1) (r := (i2 : Int) - 1) (gd_of (c := decide (0 < (i2 : Int))) hg (I (i2 : Int))) rfl rfl (by have h1_ := sd54z.resolve_left (by rw [hg]; decide); first | exact h1_ | exact h1_.1 | exact h1_.2 | omega | (have hx_ := hg; simp at hx_; omega)))) ?_
        obtain ⟨sd55z, hM⟩ := M.e_grd hM
        replace sd55z := M.imp_of sd55z
        simp only [Bool.and_eq_true, decide_eq_true_eq] at sd55z
        refine d_qg (decide (0 < (i2 : Int))) rfl (gy_t rfl) (fun hg => (fun w' H => x_ix (a := v_b_Years) (b := I ((i2 : Int) - 1)) (v := vat v_b_Years 3 (Int.toNat ((i2 : Int) - 1))) (gd_of (c := decide (0 < (i2 : Int))) hg (v_b_Years)) (gd_of (c := decide (0 < (i2 : Int))) hg (I ((i2 : Int) - 1))) (Sl.ix (α := Yr) T52.und T52.size hs_b_Years (by have h1_ := sd54z.resolve_left (by rw [hg]; decide); have h2_ := sd55z.resolve_left (by rw [hg]; decide); first | exact h1_ | exact h1_.1 | exact h1_.2 | exact h2_ | exact h2_.1 | exact h2_.2 | omega | (have hx_ := hg; simp at hx_; omega)) (by have h1_ := sd54z.resolve_left (by rw [hg]; decide); have h2_ := sd55z.resolve_left (by rw [hg]; decide); first | exact h1_ | exact h1_.1 | exact h1_.2 | exact h2_ | exact h2_.1 | exact h2_.2 | omega | (have hx_ := hg; simp at hx_; omega))))) ?_
        refine d_qg (decide (0 < (i2 : Int))) rfl (gy_t rfl) (fun hg => (fun w' H => x_fa (a := vat v_b_Years 3 (Int.toNat ((i2 : Int) - 1))) (v := fat (vat v_b_Years 3 (Int.toNat ((i2 : Int) - 1))) 0) (gd_of (c := decide (0 < (i2 : Int))) hg (vat v_b_Years 3 (Int.toNat ((i2 : Int) - 1)))) (fa_pl Fd127_0 Sz3 (Sl.pl (i := (i2 : Int) - 1) hs_b_Years (by have h1_ := sd54z.resolve_left (by rw [hg]; decide); have h2_ := sd55z.resolve_left (by rw [hg]; decide); first | exact h1_ | exact h1_.1 | exact h1_.2 | exact h2_ | exact h2_.1 | exact h2_.2 | omega | (have hx_ := hg; simp at hx_; omega)) (by have h1_ := sd54z.resolve_left (by rw [hg]; decide); have h2_ := sd55z.resolve_left (by rw [hg]; decide); first | exact h1_ | exact h1_.1 | exact h1_.2 | exact h2_ | exact h2_.1 | exact h2_.2 | omega | (have hx_ := hg; simp at hx_; omega)))))) ?_
        refine d_qg (decide (0 < (i2 : Int))) rfl (gy_t rfl) (fun hg => (fun w' H => x_ld (p := fat (vat v_b_Years 3 (Int.toNat ((i2 : Int) - 1))) 0) (v := I ((b_Years.getD (Int.toNat ((i2 : Int) - 1)) default).year)) (gd_of (c := decide (0 < (i2 : Int))) hg (fat (vat v_b_Years 3 (Int.toNat ((i2 : Int) - 1))) 0)) (ld_sc Sc3 (At.mono (Yr_at0 hs_b_Years (i := (i2 : Int) - 1) (by have h1_ := sd54z.resolve_left (by rw [hg]; decide); have h2_ := sd55z.resolve_left (by rw [hg]; decide); first | exact h1_ | exact h1_.1 | exact h1_.2 | exact h2_ | exact h2_.1 | exact h2_.2 | omega | (have hx_ := hg; simp at hx_; omega)) (by have h1_ := sd54z.resolve_left (by rw [hg]; decide); have h2_ := sd55z.resolve_left (by rw [hg]; decide); first | exact h1_ | exact h1_.1 | exact h1_.2 | exact h2_ | exact h2_.1 | exact h2_.2 | omega | (have hx_ := hg; simp at hx_; omega))) (hC_b_Years.at H))))) ?_
        refine d_qg (decide (0 < (i2 : Int))) rfl (gy_t rfl) (fun hg => (fun w' H => x_cmp (kd := .i64) (a := (b_Years.getD i2 default).year) (b := (b_Years.getD (Int.toNat ((i2 : Int) - 1)) default).year) (r := decide (((b_Years.getD i2 default).year) <= ((b_Years.getD (Int.toNat ((i2 : Int) - 1)) default).year))) (gd_of (c := decide (0 < (i2 : Int))) hg (I ((b_Years.getD i2 default).year))) (gd_of (c := decide (0 < (i2 : Int))) hg (I ((b_Years.getD (Int.toNat ((i2 : Int) - 1)) default).year))) rfl)) ?_
        refine d_q rfl (fun w' H => x_pand (b := decide (0 < (i2 : Int))) (r := decide (((b_Years.getD i2 default).year) <= ((b_Years.getD (Int.toNat ((i2 : Int) - 1)) default).year))) rfl (fun hb => gd_of (c := decide (0 < (i2 : Int))) (by first | exact hb | (rw [hb]; rfl) | simp_all) (B (decide (((b_Years.getD i2 default).year) <= ((b_Years.getD (Int.toNat ((i2 : Int) - 1)) default).year))))) rfl) ?_
        refine d_nil ?_
        refine W.cond ((decide (0 < (i2 : Int))) && (decide (((b_Years.getD i2 default).year) <= ((b_Years.getD (Int.toNat ((i2 : Int) - 1)) default).year)))) rfl (fun c56z => ?_) (fun c56z => ?_)
        ·replace hM := M.e_t hM c56z
         refine W.seq ?_
         refine W.region rfl ?_
         refine s_val (x_as (v := I 9) rfl) ?_
         refine s_nil ?_
         refine W.ret ?_
         have hX57z := M.e_inr hM hN41z
         subst hX57z
         replace hM := hk34z
         try dsimp only at hM
         have hr_ := M.e_pure hM
         exact ⟨_, resE_tmp rfl, ⟨9, hr_, rfl, (H.pick [] (by decide) rfl)⟩⟩
        ·replace hM := M.e_f hM c56z
         refine W.skip ?_
         refine W.region rfl ?_
         refine s_val (x_mv (v := I (i2 : Int)) rfl) ?_
         refine s_val (x_ari (a := (i2 : Int)) (b := 1) (r := (i2 : Int) + 1) rfl rfl rfl (by omega)) ?_
         refine s_val (x_as (v := I ((i2 : Int) + 1)) rfl) ?_
         refine s_nil ?_
         exact ⟨m38z, lt39z, i2 + 1, _, upds_of _ _ ⟨rfl, rfl, trivial⟩, M.e_inl hM hN41z, (H.pick [1] (by decide) rfl)⟩
      ·replace hM := M.e_f hM c43z
       simp only [decide_eq_true_eq, decide_eq_false_iff_not, beq_iff_eq, bne_iff_ne, beq_eq_false_iff_ne, bne_eq_false_iff_eq, ne_eq, Decidable.not_not] at c43z
       refine W.exit ?_
       have hX58z := M.e_inr hM hN41z
       subst hX58z
       replace hM := hk34z
       try dsimp only at hM
       refine W.seq ?_
       refine W.seq ?_
       refine W.region rfl ?_
       refine s_val (x_as (v := I 0) rfl) ?_
       refine s_nil ?_
       refine W.block ?_
       obtain ⟨ex59z, hi60z, hk61z⟩ := M.e_bind hM
       obtain ⟨m0_, hi60z⟩ := M.e_iter hi60z
       refine W.loop (fun m σ W => ∃ (i3 : Nat) (ρ : Env), σ = upds ρ [(1, .pointer (some ⟨b_1, 0, none⟩)), (6, I (i3 : Int))] /\ M.iterN (m_nilometerref10_Check_b2 b_Olds b_First b_Last) m i3 = some ex59z /\ St w W [cBlk b_1 [v_b_Years, v_b_Olds, I b_First, I b_Last] 55] R) ?_ ?_
       ·exact ⟨_, 0, _, upds_of _ _ ⟨rfl, rfl, trivial⟩, hi60z, H⟩
       ·rintro m64z σ w62z ⟨i3, ρ, rfl, hI63z, H⟩
        obtain ⟨m65z, lt66z, x67z, hM, hN68z⟩ := M.e_iterN hI63z
        simp only [m_nilometerref10_Check_b2] at hM
        clear hI63z
        refine W.seq ?_
        refine W.seq ?_
        refine W.region rfl ?_
        refine s_val (x_mv (v := I (i3 : Int)) rfl) ?_
        refine s_val (x_fa (a := .pointer (some ⟨b_1, 0, none⟩)) (v := .pointer (some ⟨b_1, 1, none⟩)) rfl (fa_blk (o := 0) Fd55_1 Sz53)) ?_
        refine s_val (x_ld (p := .pointer (some ⟨b_1, 1, none⟩)) (v := v_b_Olds) rfl (ldb_sc Sc53 (H.blk (k := 0) rfl) rfl)) ?_
        have hl69z := (hs_b_Olds).len_le
        refine s_val (x_lenS T53.und rfl hs_b_Olds) ?_
        refine s_val (x_cmp (kd := .i64) (a := (i3 : Int)) (b := (b_Olds.length : Int)) (r := decide ((i3 : Int) < (b_Olds.length : Int))) rfl rfl rfl) ?_
        refine s_nil ?_
        refine W.cond (decide ((i3 : Int) < (b_Olds.length : Int))) rfl (fun c70z => ?_) (fun c70z => ?_)
        ·replace hM := M.e_t hM c70z
         simp only [decide_eq_true_eq, decide_eq_false_iff_not, beq_iff_eq, bne_iff_ne, beq_eq_false_iff_ne, bne_eq_false_iff_eq, ne_eq, Decidable.not_not] at c70z
         refine W.skip ?_
         refine W.seq ?_
         refine W.block ?_
         refine W.seq ?_
         refine W.region rfl ?_
         refine s_val (x_fa (a := .pointer (some ⟨b_1, 0, none⟩)) (v := .pointer (some ⟨b_1, 1, none⟩)) rfl (fa_blk (o := 0) Fd55_1 Sz53)) ?_
         refine s_val (x_ld (p := .pointer (some ⟨b_1, 1, none⟩)) (v := v_b_Olds) rfl (ldb_sc Sc53 (H.blk (k := 0) rfl) rfl)) ?_
         refine s_val (x_mv (v := I (i3 : Int)) rfl) ?_
         obtain ⟨sd71z, hM⟩ := M.e_grd hM
         simp only [Bool.and_eq_true, decide_eq_true_eq] at sd71z
         refine s_val (x_ix (a := v_b_Olds) (b := I (i3 : Int)) (v := vat v_b_Olds 4 (Int.toNat (i3 : Int))) rfl rfl (Sl.ix (α := Old10) T53.und T53.size hs_b_Olds (by omega) (by omega))) ?_
         obtain ⟨u72z, ha74z, hs73z⟩ := Old10_atA hs_b_Olds (i := (i3 : Int)) (by omega) (by omega)
         replace hs73z : Sl _ u72z (b_Olds.getD i3 default).passed := hs73z
         have hl_hs73z := hs73z.len_le
         refine s_val (x_ld (p := vat v_b_Olds 4 (Int.toNat (i3 : Int))) (v := .agg #[I ((b_Olds.getD i3 default).src), I ((b_Olds.getD i3 default).dst), I ((b_Olds.getD i3 default).stage), u72z]) rfl (ld_ag Ag128 Sz128 (At.mono ha74z (hC_b_Olds.at H)))) ?_
         refine t_alloc (cs := [I 0, I 0, I 0, .slice none 0 0]) H Al128 rfl ?_
         intro b_3 w75z H
         refine t_st (k := 0) (b := b_3) (off := 0) (cs := [I 0, I 0, I 0, .slice none 0 0]) (vs := [I ((b_Olds.getD i3 default).src), I ((b_Olds.getD i3 default).dst), I ((b_Olds.getD i3 default).stage), u72z]) (cs' := [I ((b_Olds.getD i3 default).src), I ((b_Olds.getD i3 default).dst), I ((b_Olds.getD i3 default).stage), u72z]) (v := .agg #[I ((b_Olds.getD i3 default).src), I ((b_Olds.getD i3 default).dst), I ((b_Olds.getD i3 default).stage), u72z]) (L' := [cBlk b_3 [I ((b_Olds.getD i3 default).src), I ((b_Olds.getD i3 default).dst), I ((b_Olds.getD i3 default).stage), u72z] 128, cBlk b_1 [v_b_Years, v_b_Olds, I b_First, I b_Last] 55]) H rfl rfl rfl Sz128 rfl rfl rfl (by simp only [List.all_cons, List.all_nil, Bool.true_and, Bool.and_true, Sl.oc hs73z]; try rfl) rfl rfl ?_
         intro w76z H
         refine s_nil ?_
         refine W.seq ?_
         refine W.region rfl ?_
         refine s_val (x_fa (a := .pointer (some ⟨b_3, 0, none⟩)) (v := .pointer (some ⟨b_3, 0, none⟩)) rfl (fa_blk (o := 0) Fd128_0 Sz3)) ?_
         refine s_val (x_ld (p := .pointer (some ⟨b_3, 0, none⟩)) (v := I ((b_Olds.getD i3 default).src)) rfl (ldb_sc Sc3 (H.blk (k := 0) rfl) rfl)) ?_
         refine s_val (x_fa (a := .pointer (some ⟨b_1, 0, none⟩)) (v := .pointer (some ⟨b_1, 2, none⟩)) rfl (fa_blk (o := 0) Fd55_2 Sz3)) ?_
         refine s_val (x_ld (p := .pointer (some ⟨b_1, 2, none⟩)) (v := I b_First) rfl (ldb_sc Sc3 (H.blk (k := 1) rfl) rfl)) ?_
         refine s_val (x_fa (a := .pointer (some ⟨b_1, 0, none⟩)) (v := .pointer (some ⟨b_1, 3, none⟩)) rfl (fa_blk (o := 0) Fd55_3 Sz3)) ?_
         refine s_val (x_ld (p := .pointer (some ⟨b_1, 3, none⟩)) (v := I b_Last) rfl (ldb_sc Sc3 (H.blk (k := 1) rfl) rfl)) ?_
         obtain ⟨r78z, hx77z, hM⟩ := M.e_bind hM
         refine s_call cf67 [I ((b_Olds.getD i3 default).src), I b_First, I b_Last] rfl (nilometerref10_outside_ok ((b_Olds.getD i3 default).src) b_First b_Last hx77z _ (St.give (T := [cBlk b_3 [I ((b_Olds.getD i3 default).src), I ((b_Olds.getD i3 default).dst), I ((b_Olds.getD i3 default).stage), u72z] 128, cBlk b_1 [v_b_Years, v_b_Olds, I b_First, I b_Last] 55]) H rfl)) ?_
         rintro vq w79z ⟨r5, hr80z, hvq, H2_⟩
         subst hr80z
         subst vq
         try dsimp only at hM
         replace H : St w w79z [cBlk b_3 [I ((b_Olds.getD i3 default).src), I ((b_Olds.getD i3 default).dst), I ((b_Olds.getD i3 default).stage), u72z] 128, cBlk b_1 [v_b_Years, v_b_Olds, I b_First, I b_Last] 55] R := H.back H2_ rfl
         clear H2_
         refine s_val (x_mv (v := B r5) rfl) ?_
         refine g_val (!r5) (gy_f rfl) (fun hg => x_fa (a := .pointer (some ⟨b_3, 0, none⟩)) (v := .pointer (some ⟨b_3, 1, none⟩)) rfl (fa_blk (o := 0) Fd128_1 Sz3)) ?_
         refine g_val (!r5) (gy_f rfl) (fun hg => x_ld (p := .pointer (some ⟨b_3, 1, none⟩)) (v := I ((b_Olds.getD i3 default).dst)) (gd_of (c := !r5) hg (.pointer (some ⟨b_3, 1, none⟩))) (ldb_sc Sc3 (H.blk (k := 0) rfl) rfl)) ?_
         refine g_val (!r5) (gy_f rfl) (fun hg => x_fa (a := .pointer (some ⟨b_1, 0, none⟩)) (v := .pointer (some ⟨b_1, 2, none⟩)) rfl (fa_blk (o := 0) Fd55_2 Sz3)) ?_
         refine g_val (!r5) (gy_f rfl) (fun hg => x_ld (p := .pointer (some ⟨b_1, 2, none⟩)) (v := I b_First) (gd_of (c := !r5) hg (.pointer (some ⟨b_1, 2, none⟩))) (ldb_sc Sc3 (H.blk (k := 1) rfl) rfl)) ?_
         refine g_val (!r5) (gy_f rfl) (fun hg => x_fa (a := .pointer (some ⟨b_1, 0, none⟩)) (v := .pointer (some ⟨b_1, 3, none⟩)) rfl (fa_blk (o := 0) Fd55_3 Sz3)) ?_
         refine g_val (!r5) (gy_f rfl) (fun hg => x_ld (p := .pointer (some ⟨b_1, 3, none⟩)) (v := I b_Last) (gd_of (c := !r5) hg (.pointer (some ⟨b_1, 3, none⟩))) (ldb_sc Sc3 (H.blk (k := 1) rfl) rfl)) ?_
         obtain ⟨r6, hx81z, hM⟩ := M.e_bind hM
         refine t_gcall (!r5) (gy_f rfl) cf67 (B r6) (fun _ => [I ((b_Olds.getD i3 default).dst), I b_First, I b_Last]) (fun hg => lst3 (gd_of (c := !r5) hg (I ((b_Olds.getD i3 default).dst))) (gd_of (c := !r5) hg (I b_First)) (gd_of (c := !r5) hg (I b_Last))) H (fun hg => (nilometerref10_outside_ok ((b_Olds.getD i3 default).dst) b_First b_Last (M.e_opt hx81z hg) _ (H.give (A := []) rfl)).mono fun v_ w_ ⟨y_, hr_, hv_, H_⟩ => by subst hr_; exact ⟨hv_, H.via H_⟩) ?_
         intro w82z H
         refine s_val (x_por (b := r5) (r := r6) rfl rfl (fun hb => gd_of (c := !r5) (by first | exact hb | (rw [hb]; rfl) | simp_all) (B r6))) ?_
         refine s_val (x_mv (v := B (r5 || r6)) rfl) ?_
         refine g_val (!(r5 || r6)) (gy_f rfl) (fun hg => x_fa (a := .pointer (some ⟨b_3, 0, none⟩)) (v := .pointer (some ⟨b_3, 0, none⟩)) rfl (fa_blk (o := 0) Fd128_0 Sz3)) ?_
         refine g_val (!(r5 || r6)) (gy_f rfl) (fun hg => x_ld (p := .pointer (some ⟨b_3, 0, none⟩)) (v := I ((b_Olds.getD i3 default).src)) (gd_of (c := !(r5 || r6)) hg (.pointer (some ⟨b_3, 0, none⟩))) (ldb_sc Sc3 (H.blk (k := 0) rfl) rfl)) ?_
         refine g_val (!(r5 || r6)) (gy_f rfl) (fun hg => x_fa (a := .pointer (some ⟨b_3, 0, none⟩)) (v := .pointer (some ⟨b_3, 1, none⟩)) rfl (fa_blk (o := 0) Fd128_1 Sz3)) ?_
         refine g_val (!(r5 || r6)) (gy_f rfl) (fun hg => x_ld (p := .pointer (some ⟨b_3, 1, none⟩)) (v := I ((b_Olds.getD i3 default).dst)) (gd_of (c := !(r5 || r6)) hg (.pointer (some ⟨b_3, 1, none⟩))) (ldb_sc Sc3 (H.blk (k := 0) rfl) rfl)) ?_
         refine g_val (!(r5 || r6)) (gy_f rfl) (fun hg => x_cmp (kd := .i64) (a := (b_Olds.getD i3 default).src) (b := (b_Olds.getD i3 default).dst) (r := decide (((b_Olds.getD i3 default).dst) < ((b_Olds.getD i3 default).src))) (gd_of (c := !(r5 || r6)) hg (I ((b_Olds.getD i3 default).src))) (gd_of (c := !(r5 || r6)) hg (I ((b_Olds.getD i3 default).dst))) rfl) ?_
         refine s_val (x_por (b := (r5 || r6)) (r := decide (((b_Olds.getD i3 default).dst) < ((b_Olds.getD i3 default).src))) rfl rfl (fun hb => gd_of (c := !(r5 || r6)) (by first | exact hb | (rw [hb]; rfl) | simp_all) (B (decide (((b_Olds.getD i3 default).dst) < ((b_Olds.getD i3 default).src)))))) ?_
         refine s_val (x_mv (v := B ((r5 || r6) || (decide (((b_Olds.getD i3 default).dst) < ((b_Olds.getD i3 default).src))))) rfl) ?_
         refine g_val (!((r5 || r6) || (decide (((b_Olds.getD i3 default).dst) < ((b_Olds.getD i3 default).src))))) (gy_f rfl) (fun hg => x_fa (a := .pointer (some ⟨b_3, 0, none⟩)) (v := .pointer (some ⟨b_3, 2, none⟩)) rfl (fa_blk (o := 0) Fd128_2 Sz3)) ?_
         refine g_val (!((r5 || r6) || (decide (((b_Olds.getD i3 default).dst) < ((b_Olds.getD i3 default).src))))) (gy_f rfl) (fun hg => x_ld (p := .pointer (some ⟨b_3, 2, none⟩)) (v := I ((b_Olds.getD i3 default).stage)) (gd_of (c := !((r5 || r6) || (decide (((b_Olds.getD i3 default).dst) < ((b_Olds.getD i3 default).src))))) hg (.pointer (some ⟨b_3, 2, none⟩))) (ldb_sc Sc3 (H.blk (k := 0) rfl) rfl)) ?_
         obtain ⟨r7, hx83z, hM⟩ := M.e_bind hM
         refine t_gcall (!((r5 || r6) || (decide (((b_Olds.getD i3 default).dst) < ((b_Olds.getD i3 default).src))))) (gy_f rfl) cf67 (B r7) (fun _ => [I ((b_Olds.getD i3 default).stage), I 1, I 2000]) (fun hg => lst3 (gd_of (c := !((r5 || r6) || (decide (((b_Olds.getD i3 default).dst) < ((b_Olds.getD i3 default).src))))) hg (I ((b_Olds.getD i3 default).stage))) rfl rfl) H (fun hg => (nilometerref10_outside_ok ((b_Olds.getD i3 default).stage) 1 2000 (M.e_opt hx83z hg) _ (H.give (A := []) rfl)).mono fun v_ w_ ⟨y_, hr_, hv_, H_⟩ => by subst hr_; exact ⟨hv_, H.via H_⟩) ?_
         intro w84z H
         refine s_val (x_por (b := ((r5 || r6) || (decide (((b_Olds.getD i3 default).dst) < ((b_Olds.getD i3 default).src))))) (r := r7) rfl rfl (fun hb => gd_of (c := !((r5 || r6) || (decide (((b_Olds.getD i3 default).dst) < ((b_Olds.getD i3 default).src))))) (by first | exact hb | (rw [hb]; rfl) | simp_all) (B r7))) ?_
         refine s_val (x_mv (v := B (((r5 || r6) || (decide (((b_Olds.getD i3 default).dst) < ((b_Olds.getD i3 default).src)))) || r7)) rfl) ?_
         refine g_val (!(((r5 || r6) || (decide (((b_Olds.getD i3 default).dst) < ((b_Olds.getD i3 default).src)))) || r7)) (gy_f rfl) (fun hg => x_fa (a := .pointer (some ⟨b_3, 0, none⟩)) (v := .pointer (some ⟨b_3, 3, none⟩)) rfl (fa_blk (o := 0) Fd128_3 Sz27)) ?_
         refine g_val (!(((r5 || r6) || (decide (((b_Olds.getD i3 default).dst) < ((b_Olds.getD i3 default).src)))) || r7)) (gy_f rfl) (fun hg => x_ld (p := .pointer (some ⟨b_3, 3, none⟩)) (v := u72z) (gd_of (c := !(((r5 || r6) || (decide (((b_Olds.getD i3 default).dst) < ((b_Olds.getD i3 default).src)))) || r7)) hg (.pointer (some ⟨b_3, 3, none⟩))) (ldb_sc Sc27 (H.blk (k := 0) rfl) rfl)) ?_
         refine g_val (!(((r5 || r6) || (decide (((b_Olds.getD i3 default).dst) < ((b_Olds.getD i3 default).src)))) || r7)) (gy_f rfl) (fun hg => x_fa (a := .pointer (some ⟨b_3, 0, none⟩)) (v := .pointer (some ⟨b_3, 0, none⟩)) rfl (fa_blk (o := 0) Fd128_0 Sz3)) ?_
         refine g_val (!(((r5 || r6) || (decide (((b_Olds.getD i3 default).dst) < ((b_Olds.getD i3 default).src)))) || r7)) (gy_f rfl) (fun hg => x_ld (p := .pointer (some ⟨b_3, 0, none⟩)) (v := I ((b_Olds.getD i3 default).src)) (gd_of (c := !(((r5 || r6) || (decide (((b_Olds.getD i3 default).dst) < ((b_Olds.getD i3 default).src)))) || r7)) hg (.pointer (some ⟨b_3, 0, none⟩))) (ldb_sc Sc3 (H.blk (k := 0) rfl) rfl)) ?_
         refine g_val (!(((r5 || r6) || (decide (((b_Olds.getD i3 default).dst) < ((b_Olds.getD i3 default).src)))) || r7)) (gy_f rfl) (fun hg => x_fa (a := .pointer (some ⟨b_3, 0, none⟩)) (v := .pointer (some ⟨b_3, 1, none⟩)) rfl (fa_blk (o := 0) Fd128_1 Sz3)) ?_
         refine g_val (!(((r5 || r6) || (decide (((b_Olds.getD i3 default).dst) < ((b_Olds.getD i3 default).src)))) || r7)) (gy_f rfl) (fun hg => x_ld (p := .pointer (some ⟨b_3, 1, none⟩)) (v := I ((b_Olds.getD i3 default).dst)) (gd_of (c := !(((r5 || r6) || (decide (((b_Olds.getD i3 default).dst) < ((b_Olds.getD i3 default).src)))) || r7)) hg (.pointer (some ⟨b_3, 1, none⟩))) (ldb_sc Sc3 (H.blk (k := 0) rfl) rfl)) ?_
         obtain ⟨r8, hx85z, hM⟩ := M.e_bind hM
         refine t_gcall (!(((r5 || r6) || (decide (((b_Olds.getD i3 default).dst) < ((b_Olds.getD i3 default).src)))) || r7)) (gy_f rfl) cf89 (B r8) (fun _ => [u72z, I ((b_Olds.getD i3 default).src), I ((b_Olds.getD i3 default).dst)]) (fun hg => lst3 (gd_of (c := !(((r5 || r6) || (decide (((b_Olds.getD i3 default).dst) < ((b_Olds.getD i3 default).src)))) || r7)) hg (u72z)) (gd_of (c := !(((r5 || r6) || (decide (((b_Olds.getD i3 default).dst) < ((b_Olds.getD i3 default).src)))) || r7)) hg (I ((b_Olds.getD i3 default).src))) (gd_of (c := !(((r5 || r6) || (decide (((b_Olds.getD i3 default).dst) < ((b_Olds.getD i3 default).src)))) || r7)) hg (I ((b_Olds.getD i3 default).dst)))) H (fun hg => (nilometerref10_unlisted_ok ((b_Olds.getD i3 default).passed) ((b_Olds.getD i3 default).src) ((b_Olds.getD i3 default).dst) (hC_b_Olds.app _) hs73z (M.e_opt hx85z hg) _ (H.give (A := []) rfl)).mono fun v_ w_ ⟨y_, hr_, hv_, H_⟩ => by subst hr_; exact ⟨hv_, H.via H_⟩) ?_
         intro w86z H
         refine s_val (x_por (b := (((r5 || r6) || (decide (((b_Olds.getD i3 default).dst) < ((b_Olds.getD i3 default).src)))) || r7)) (r := r8) rfl rfl (fun hb => gd_of (c := !(((r5 || r6) || (decide (((b_Olds.getD i3 default).dst) < ((b_Olds.getD i3 default).src)))) || r7)) (by first | exact hb | (rw [hb]; rfl) | simp_all) (B r8))) ?_
         refine s_nil ?_
         refine W.cond ((((r5 || r6) || (decide (((b_Olds.getD i3 default).dst) < ((b_Olds.getD i3 default).src)))) || r7) || r8) rfl (fun c87z => ?_) (fun c87z => ?_)
         ·replace hM := M.e_t hM c87z
          refine W.seq ?_
          refine W.region rfl ?_
          refine s_val (x_as (v := I 110) rfl) ?_
          refine s_nil ?_
          refine W.ret ?_
          have hX88z := M.e_inr hM hN68z
          subst hX88z
          replace hM := hk61z
          try dsimp only at hM
          have hr_ := M.e_pure hM
          exact ⟨_, resE_tmp rfl, ⟨110, hr_, rfl, (H.pick [] (by decide) rfl)⟩⟩
         ·replace hM := M.e_f hM c87z
          refine W.skip ?_
          refine W.region rfl ?_
          refine s_val (x_mv (v := I (i3 : Int)) rfl) ?_
          refine s_val (x_ari (a := (i3 : Int)) (b := 1) (r := (i3 : Int) + 1) rfl rfl rfl (by omega)) ?_
          refine s_val (x_as (v := I ((i3 : Int) + 1)) rfl) ?_
          refine s_nil ?_
          exact ⟨m65z, lt66z, i3 + 1, _, upds_of _ _ ⟨rfl, rfl, trivial⟩, M.e_inl hM hN68z, (H.pick [1] (by decide) rfl)⟩
        ·replace hM := M.e_f hM c70z
         simp only [decide_eq_true_eq, decide_eq_false_iff_not, beq_iff_eq, bne_iff_ne, beq_eq_false_iff_ne, bne_eq_false_iff_eq, ne_eq, Decidable.not_not] at c70z
         refine W.exit ?_
         have hX89z := M.e_inr hM hN68z
         subst hX89z
         replace hM := hk61z
         try dsimp only at hM
         refine W.seq ?_
         refine W.region rfl ?_
         refine s_val (x_as (v := I 0) rfl) ?_
         refine s_nil ?_
         refine W.ret ?_
         have hr_ := M.e_pure hM
         exact ⟨_, resE_tmp rfl, ⟨0, hr_, rfl, (H.pick [] (by decide) rfl)⟩⟩

def m_often_Holds_1 (n : Int) : M Bool :=
  M.bind (m_often_in n 0 2000) fun r2 =>
  M.pure r2
set_option maxRecDepth 100000 in
set_option maxHeartbeats 16000000 in
theorem often_Holds_1_ok {R : List Chunk}  (n : Int)  {r : Bool} (hM : (m_often_Holds_1 n).Ends r) (w : World) (H : St w w [] R) : Ret Try.prog 85 #[I n] w fun v w' => ∃ (y0 : Bool), y0 = r /\ v = B y0 /\ St w w' [] R := by
 refine ret_of_W Try.func85 rfl rfl rfl ?_
 refine W.seq ?_
 refine W.region rfl ?_
 refine s_val (x_as (v := B false) rfl) ?_
 refine s_nil ?_
 refine W.seq ?_
 refine W.region rfl ?_
 refine s_val (x_mv (v := I n) rfl) ?_
 obtain ⟨r2z, hx1z, hM⟩ := M.e_bind hM
 refine s_call cf63 [I n, I 0, I 2000] rfl (often_in_ok n 0 2000 hx1z _ (St.give (T := []) H rfl)) ?_
 rintro vq w3z ⟨r2, hr4z, hvq, H2_⟩
 subst hr4z
 subst vq
 try dsimp only at hM
 replace H : St w w3z [] R := H.back H2_ rfl
 clear H2_
 refine s_val (x_as (v := B r2) rfl) ?_
 refine s_nil ?_
 refine W.ret ?_
 have hr_ := M.e_pure hM
 exact ⟨_, resE_tmp rfl, ⟨r2, hr_, rfl, H⟩⟩

end Go.Proofs.Ytcgalcbkkijkhaa
