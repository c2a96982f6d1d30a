/- Part 5 of the texts on which the proof rests. Conditions: none. -/
import Derived.Test.YtcgalcbkkijkhaaZY4
set_option linter.unusedVariables false
set_option linter.unusedSimpArgs false
set_option linter.unusedSectionVars false
section
set_option maxRecDepth 100000
set_option maxHeartbeats 16000000
namespace Go.Proofs.Ytcgalcbkkijkhaa
open Go Go.Nm
def zaP (b_Olds : List Old10) : Nat -> M (Nat ⊕ (Unit ⊕ Unit)) := fun i =>
  bif decide ((i : Int) < (b_Olds.length : Int)) then (
  M.grd (decide ((i : Int) < (b_Olds.length : Int))) <|
  bif decide (12 < (((b_Olds.getD i default).passed).length : Int)) then (
  M.pure (.inr (.inl ())))
  else (
  M.pure (.inl (i + 1))))
  else (
  M.pure (.inr (.inr ())))
def zbJ (b_Years : List Yr) (b_Olds : List Old10) (b_First : Int) (b_Last : Int) : M Bool :=
  bif (((decide (65 < (b_Years.length : Int))) || (decide (10 < (b_Olds.length : Int)))) || ((((decide (0 <= b_First)) && (decide (b_Last <= 3000))) && (decide (40 < (wr64 (b_Last - b_First))))) && (decide ((wr64 (b_Last - b_First)) < 1000)))) then (
  M.pure true)
  else (
  M.bind (M.iter (zaP b_Olds) 0) fun x_ => match x_ with
  | (.inl (_ : Unit)) => (
  M.pure true)
  | (.inr (_ : Unit)) => (
  M.pure false))
theorem zc3 {R : List Chunk} {C_b_Years : Cells} {v_b_Years : Value} {C_b_Olds : Cells} {v_b_Olds : Value} (b_Years : List Yr) (b_Olds : List Old10) (b_First : Int) (b_Last : Int) (hC_b_Years : Reads R C_b_Years) (hs_b_Years : Sl C_b_Years v_b_Years b_Years) (hC_b_Olds : Reads R C_b_Olds) (hs_b_Olds : Sl C_b_Olds v_b_Olds b_Olds) {r : Bool} (hM : (zbJ b_Years b_Olds b_First b_Last).Ends r) (w : World) (H : St w w [] R) : Ret Try.prog 21 #[.agg #[v_b_Years, v_b_Olds, I b_First, I b_Last]] w fun v w' => ∃ (y0 : Bool), y0 = r /\ v = B y0 /\ St w w' [] R := by
 refine ret_of_W Try.func21 rfl rfl rfl ?_
 refine W.seq ?_
 refine W.region rfl ?_
 refine t_box (v := .agg #[v_b_Years, v_b_Olds, I b_First, I b_Last]) (cs := [v_b_Years, v_b_Olds, I b_First, I b_Last]) H rfl rfl ?_
 intro b_1 w1z H
 refine s_val (x_as (v := B false) rfl) ?_
 refine s_nil ?_
 refine W.seq ?_
 refine W.seq ?_
 refine W.region rfl ?_
 refine s_val (x_fa (a := .pointer (some ⟨b_1, 0, none⟩)) (v := .pointer (some ⟨b_1, 0, none⟩)) rfl (fa_blk (o := 0) Fd26_0 Sz23)) ?_
 refine s_val (x_ld (p := .pointer (some ⟨b_1, 0, none⟩)) (v := v_b_Years) rfl (ldb_sc Sc23 (H.blk (k := 0) rfl) rfl)) ?_
 have hl2z := (hs_b_Years).len_le
 refine s_val (x_lenS T23.und rfl hs_b_Years) ?_
 refine s_val (x_cmp (kd := .i64) (a := (b_Years.length : Int)) (b := 65) (r := decide (65 < (b_Years.length : Int))) rfl rfl rfl) ?_
 refine s_val (x_mv (v := B (decide (65 < (b_Years.length : Int)))) rfl) ?_
 refine g_val (!(decide (65 < (b_Years.length : Int)))) (gy_f rfl) (fun hg => x_fa (a := .pointer (some ⟨b_1, 0, none⟩)) (v := .pointer (some ⟨b_1, 1, none⟩)) rfl (fa_blk (o := 0) Fd26_1 Sz24)) ?_
 refine g_val (!(decide (65 < (b_Years.length : Int)))) (gy_f rfl) (fun hg => x_ld (p := .pointer (some ⟨b_1, 1, none⟩)) (v := v_b_Olds) (gd_of (c := !(decide (65 < (b_Years.length : Int)))) hg (.pointer (some ⟨b_1, 1, none⟩))) (ldb_sc Sc24 (H.blk (k := 0) rfl) rfl)) ?_
 refine g_val (!(decide (65 < (b_Years.length : Int)))) (gy_f rfl) (fun hg => x_lenS T24.und (gd_of (c := !(decide (65 < (b_Years.length : Int)))) hg (v_b_Olds)) hs_b_Olds) ?_
 refine g_val (!(decide (65 < (b_Years.length : Int)))) (gy_f rfl) (fun hg => x_cmp (kd := .i64) (a := (b_Olds.length : Int)) (b := 10) (r := decide (10 < (b_Olds.length : Int))) (gd_of (c := !(decide (65 < (b_Years.length : Int)))) hg (I (b_Olds.length : Int))) rfl rfl) ?_
 refine s_val (x_por (b := decide (65 < (b_Years.length : Int))) (r := decide (10 < (b_Olds.length : Int))) rfl rfl (fun hb => gd_of (c := !(decide (65 < (b_Years.length : Int)))) (by first | exact hb | (rw [hb]; rfl) | simp_all) (B (decide (10 < (b_Olds.length : Int)))))) ?_
 refine s_val (x_mv (v := B ((decide (65 < (b_Years.length : Int))) || (decide (10 < (b_Olds.length : Int))))) rfl) ?_
 refine g_val (!((decide (65 < (b_Years.length : Int))) || (decide (10 < (b_Olds.length : Int))))) (gy_f rfl) (fun hg => x_fa (a := .pointer (some ⟨b_1, 0, none⟩)) (v := .pointer (some ⟨b_1, 2, none⟩)) rfl (fa_blk (o := 0) Fd26_2 Sz3)) ?_
 refine g_val (!((decide (65 < (b_Years.length : Int))) || (decide (10 < (b_Olds.length : Int))))) (gy_f rfl) (fun hg => x_ld (p := .pointer (some ⟨b_1, 2, none⟩)) (v := I b_First) (gd_of (c := !((decide (65 < (b_Years.length : Int))) || (decide (10 < (b_Olds.length : Int))))) hg (.pointer (some ⟨b_1, 2, none⟩))) (ldb_sc Sc3 (H.blk (k := 0) rfl) rfl)) ?_
 refine g_val (!((decide (65 < (b_Years.length : Int))) || (decide (10 < (b_Olds.length : Int))))) (gy_f rfl) (fun hg => x_cmp (kd := .i64) (a := b_First) (b := 0) (r := decide (0 <= b_First)) (gd_of (c := !((decide (65 < (b_Years.length : Int))) || (decide (10 < (b_Olds.length : Int))))) hg (I b_First)) rfl rfl) ?_
 refine g_val (!((decide (65 < (b_Years.length : Int))) || (decide (10 < (b_Olds.length : Int))))) (gy_f rfl) (fun hg => x_mv (v := B (decide (0 <= b_First))) (gd_of (c := !((decide (65 < (b_Years.length : Int))) || (decide (10 < (b_Olds.length : Int))))) hg (B (decide (0 <= b_First))))) ?_
 refine g_val ((!((decide (65 < (b_Years.length : Int))) || (decide (10 < (b_Olds.length : Int))))) && (decide (0 <= b_First))) (gy_gt rfl rfl) (fun hg => x_fa (a := .pointer (some ⟨b_1, 0, none⟩)) (v := .pointer (some ⟨b_1, 3, none⟩)) rfl (fa_blk (o := 0) Fd26_3 Sz3)) ?_
 refine g_val ((!((decide (65 < (b_Years.length : Int))) || (decide (10 < (b_Olds.length : Int))))) && (decide (0 <= b_First))) (gy_gt rfl rfl) (fun hg => x_ld (p := .pointer (some ⟨b_1, 3, none⟩)) (v := I b_Last) (gd_of (c := ((!((decide (65 < (b_Years.length : Int))) || (decide (10 < (b_Olds.length : Int))))) && (decide (0 <= b_First)))) hg (.pointer (some ⟨b_1, 3, none⟩))) (ldb_sc Sc3 (H.blk (k := 0) rfl) rfl)) ?_
 refine g_val ((!((decide (65 < (b_Years.length : Int))) || (decide (10 < (b_Olds.length : Int))))) && (decide (0 <= b_First))) (gy_gt rfl rfl) (fun hg => x_cmp (kd := .i64) (a := b_Last) (b := 3000) (r := decide (b_Last <= 3000)) (gd_of (c := ((!((decide (65 < (b_Years.length : Int))) || (decide (10 < (b_Olds.length : Int))))) && (decide (0 <= b_First)))) hg (I b_Last)) rfl rfl) ?_
 refine g_val (!((decide (65 < (b_Years.length : Int))) || (decide (10 < (b_Olds.length : Int))))) (gy_f rfl) (fun hg => x_pand (b := decide (0 <= b_First)) (r := decide (b_Last <= 3000)) (gd_of (c := !((decide (65 < (b_Years.length : Int))) || (decide (10 < (b_Olds.length : Int))))) hg (B (decide (0 <= b_First)))) (fun hb => gd_of (c := ((!((decide (65 < (b_Years.length : Int))) || (decide (10 < (b_Olds.length : Int))))) && (decide (0 <= b_First)))) (by first | exact hb | (rw [hb]; rfl) | simp_all) (B (decide (b_Last <= 3000)))) rfl) ?_
 refine g_val (!((decide (65 < (b_Years.length : Int))) || (decide (10 < (b_Olds.length : Int))))) (gy_f rfl) (fun hg => x_mv (v := B ((decide (0 <= b_First)) && (decide (b_Last <= 3000)))) (gd_of (c := !((decide (65 < (b_Years.length : Int))) || (decide (10 < (b_Olds.length : Int))))) hg (B ((decide (0 <= b_First)) && (decide (b_Last <= 3000)))))) ?_
 refine g_val ((!((decide (65 < (b_Years.length : Int))) || (decide (10 < (b_Olds.length : Int))))) && ((decide (0 <= b_First)) && (decide (b_Last <= 3000)))) (gy_gt rfl rfl) (fun hg => x_fa (a := .pointer (some ⟨b_1, 0, none⟩)) (v := .pointer (some ⟨b_1, 3, none⟩)) rfl (fa_blk (o := 0) Fd26_3 Sz3)) ?_
 refine g_val ((!((decide (65 < (b_Years.length : Int))) || (decide (10 < (b_Olds.length : Int))))) && ((decide (0 <= b_First)) && (decide (b_Last <= 3000)))) (gy_gt rfl rfl) (fun hg => x_ld (p := .pointer (some ⟨b_1, 3, none⟩)) (v := I b_Last) (gd_of (c := ((!((decide (65 < (b_Years.length : Int))) || (decide (10 < (b_Olds.length : Int))))) && ((decide (0 <= b_First)) && (decide (b_Last <= 3000))))) hg (.pointer (some ⟨b_1, 3, none⟩))) (ldb_sc Sc3 (H.blk (k := 0) rfl) rfl)) ?_
 refine g_val ((!((decide (65 < (b_Years.length : Int))) || (decide (10 < (b_Olds.length : Int))))) && ((decide (0 <= b_First)) && (decide (b_Last <= 3000)))) (gy_gt rfl rfl) (fun hg => x_fa (a := .pointer (some ⟨b_1, 0, none⟩)) (v := .pointer (some ⟨b_1, 2, none⟩)) rfl (fa_blk (o := 0) Fd26_2 Sz3)) ?_
 refine g_val ((!((decide (65 < (b_Years.length : Int))) || (decide (10 < (b_Olds.length : Int))))) && ((decide (0 <= b_First)) && (decide (b_Last <= 3000)))) (gy_gt rfl rfl) (fun hg => x_ld (p := .pointer (some ⟨b_1, 2, none⟩)) (v := I b_First) (gd_of (c := ((!((decide (65 < (b_Years.length : Int))) || (decide (10 < (b_Olds.length : Int))))) && ((decide (0 <= b_First)) && (decide (b_Last <= 3000))))) hg (.pointer (some ⟨b_1, 2, none⟩))) (ldb_sc Sc3 (H.blk (k := 0) rfl) rfl)) ?_
 refine g_val ((!((decide (65 < (b_Years.length : Int))) || (decide (10 < (b_Olds.length : Int))))) && ((decide (0 <= b_First)) && (decide (b_Last <= 3000)))) (gy_gt rfl rfl) (fun hg => x_subW (a := b_Last) (b := b_First) (gd_of (c := ((!((decide (65 < (b_Years.length : Int))) || (decide (10 < (b_Olds.length : Int))))) && ((decide (0 <= b_First)) && (decide (b_Last <= 3000))))) hg (I b_Last)) (gd_of (c := ((!((decide (65 < (b_Years.length : Int))) || (decide (10 < (b_Olds.length : Int))))) && ((decide (0 <= b_First)) && (decide (b_Last <= 3000))))) hg (I b_First))) ?_
 refine g_val ((!((decide (65 < (b_Years.length : Int))) || (decide (10 < (b_Olds.length : Int))))) && ((decide (0 <= b_First)) && (decide (b_Last <= 3000)))) (gy_gt rfl rfl) (fun hg => x_cmp (kd := .i64) (a := wr64 (b_Last - b_First)) (b := 40) (r := decide (40 < (wr64 (b_Last - b_First)))) (gd_of (c := ((!((decide (65 < (b_Years.length : Int))) || (decide (10 < (b_Olds.length : Int))))) && ((decide (0 <= b_First)) && (decide (b_Last <= 3000))))) hg (I (wr64 (b_Last - b_First)))) rfl rfl) ?_
 refine g_val (!((decide (65 < (b_Years.length : Int))) || (decide (10 < (b_Olds.length : Int))))) (gy_f rfl) (fun hg => x_pand (b := ((decide (0 <= b_First)) && (decide (b_Last <= 3000)))) (r := decide (40 < (wr64 (b_Last - b_First)))) (gd_of (c := !((decide (65 < (b_Years.length : Int))) || (decide (10 < (b_Olds.length : Int))))) hg (B ((decide (0 <= b_First)) && (decide (b_Last <= 3000))))) (fun hb => gd_of (c := ((!((decide (65 < (b_Years.length : Int))) || (decide (10 < (b_Olds.length : Int))))) && ((decide (0 <= b_First)) && (decide (b_Last <= 3000))))) (by first | exact hb | (rw [hb]; rfl) | simp_all) (B (decide (40 < (wr64 (b_Last - b_First)))))) rfl) ?_
 refine g_val (!((decide (65 < (b_Years.length : Int))) || (decide (10 < (b_Olds.length : Int))))) (gy_f rfl) (fun hg => x_mv (v := B (((decide (0 <= b_First)) && (decide (b_Last <= 3000))) && (decide (40 < (wr64 (b_Last - b_First)))))) (gd_of (c := !((decide (65 < (b_Years.length : Int))) || (decide (10 < (b_Olds.length : Int))))) hg (B (((decide (0 <= b_First)) && (decide (b_Last <= 3000))) && (decide (40 < (wr64 (b_Last - b_First)))))))) ?_
 refine g_val ((!((decide (65 < (b_Years.length : Int))) || (decide (10 < (b_Olds.length : Int))))) && (((decide (0 <= b_First)) && (decide (b_Last <= 3000))) && (decide (40 < (wr64 (b_Last - b_First)))))) (gy_gt rfl rfl) (fun hg => x_fa (a := .pointer (some ⟨b_1, 0, none⟩)) (v := .pointer (some ⟨b_1, 3, none⟩)) rfl (fa_blk (o := 0) Fd26_3 Sz3)) ?_
 refine g_val ((!((decide (65 < (b_Years.length : Int))) || (decide (10 < (b_Olds.length : Int))))) && (((decide (0 <= b_First)) && (decide (b_Last <= 3000))) && (decide (40 < (wr64 (b_Last - b_First)))))) (gy_gt rfl rfl) (fun hg => x_ld (p := .pointer (some ⟨b_1, 3, none⟩)) (v := I b_Last) (gd_of (c := ((!((decide (65 < (b_Years.length : Int))) || (decide (10 < (b_Olds.length : Int))))) && (((decide (0 <= b_First)) && (decide (b_Last <= 3000))) && (decide (40 < (wr64 (b_Last - b_First))))))) hg (.pointer (some ⟨b_1, 3, none⟩))) (ldb_sc Sc3 (H.blk (k := 0) rfl) rfl)) ?_
 refine g_val ((!((decide (65 < (b_Years.length : Int))) || (decide (10 < (b_Olds.length : Int))))) && (((decide (0 <= b_First)) && (decide (b_Last <= 3000))) && (decide (40 < (wr64 (b_Last - b_First)))))) (gy_gt rfl rfl) (fun hg => x_fa (a := .pointer (some ⟨b_1, 0, none⟩)) (v := .pointer (some ⟨b_1, 2, none⟩)) rfl (fa_blk (o := 0) Fd26_2 Sz3)) ?_
 refine g_val ((!((decide (65 < (b_Years.length : Int))) || (decide (10 < (b_Olds.length : Int))))) && (((decide (0 <= b_First)) && (decide (b_Last <= 3000))) && (decide (40 < (wr64 (b_Last - b_First)))))) (gy_gt rfl rfl) (fun hg => x_ld (p := .pointer (some ⟨b_1, 2, none⟩)) (v := I b_First) (gd_of (c := ((!((decide (65 < (b_Years.length : Int))) || (decide (10 < (b_Olds.length : Int))))) && (((decide (0 <= b_First)) && (decide (b_Last <= 3000))) && (decide (40 < (wr64 (b_Last - b_First))))))) hg (.pointer (some ⟨b_1, 2, none⟩))) (ldb_sc Sc3 (H.blk (k := 0) rfl) rfl)) ?_
 refine g_val ((!((decide (65 < (b_Years.length : Int))) || (decide (10 < (b_Olds.length : Int))))) && (((decide (0 <= b_First)) && (decide (b_Last <= 3000))) && (decide (40 < (wr64 (b_Last - b_First)))))) (gy_gt rfl rfl) (fun hg => x_subW (a := b_Last) (b := b_First) (gd_of (c := ((!((decide (65 < (b_Years.length : Int))) || (decide (10 < (b_Olds.length : Int))))) && (((decide (0 <= b_First)) && (decide (b_Last <= 3000))) && (decide (40 < (wr64 (b_Last - b_First))))))) hg (I b_Last)) (gd_of (c := ((!((decide (65 < (b_Years.length : Int))) || (decide (10 < (b_Olds.length : Int))))) && (((decide (0 <= b_First)) && (decide (b_Last <= 3000))) && (decide (40 < (wr64 (b_Last - b_First))))))) hg (I b_First))) ?_
 refine g_val ((!((decide (65 < (b_Years.length : Int))) || (decide (10 < (b_Olds.length : Int))))) && (((decide (0 <= b_First)) && (decide (b_Last <= 3000))) && (decide (40 < (wr64 (b_Last - b_First)))))) (gy_gt rfl rfl) (fun hg => x_cmp (kd := .i64) (a := wr64 (b_Last - b_First)) (b := 1000) (r := decide ((wr64 (b_Last - b_First)) < 1000)) (gd_of (c := ((!((decide (65 < (b_Years.length : Int))) || (decide (10 < (b_Olds.length : Int))))) && (((decide (0 <= b_First)) && (decide (b_Last <= 3000))) && (decide (40 < (wr64 (b_Last - b_First))))))) hg (I (wr64 (b_Last - b_First)))) rfl rfl) ?_
 refine g_val (!((decide (65 < (b_Years.length : Int))) || (decide (10 < (b_Olds.length : Int))))) (gy_f rfl) (fun hg => x_pand (b := (((decide (0 <= b_First)) && (decide (b_Last <= 3000))) && (decide (40 < (wr64 (b_Last - b_First)))))) (r := decide ((wr64 (b_Last - b_First)) < 1000)) (gd_of (c := !((decide (65 < (b_Years.length : Int))) || (decide (10 < (b_Olds.length : Int))))) hg (B (((decide (0 <= b_First)) && (decide (b_Last <= 3000))) && (decide (40 < (wr64 (b_Last - b_First))))))) (fun hb => gd_of (c := ((!((decide (65 < (b_Years.length : Int))) || (decide (10 < (b_Olds.length : Int))))) && (((decide (0 <= b_First)) && (decide (b_Last <= 3000))) && (decide (40 < (wr64 (b_Last - b_First))))))) (by first | exact hb | (rw [hb]; rfl) | simp_all) (B (decide ((wr64 (b_Last - b_First)) < 1000)))) rfl) ?_
 refine s_val (x_por (b := ((decide (65 < (b_Years.length : Int))) || (decide (10 < (b_Olds.length : Int))))) (r := ((((decide (0 <= b_First)) && (decide (b_Last <= 3000))) && (decide (40 < (wr64 (b_Last - b_First))))) && (decide ((wr64 (b_Last - b_First)) < 1000)))) rfl rfl (fun hb => gd_of (c := !((decide (65 < (b_Years.length : Int))) || (decide (10 < (b_Olds.length : Int))))) (by first | exact hb | (rw [hb]; rfl) | simp_all) (B ((((decide (0 <= b_First)) && (decide (b_Last <= 3000))) && (decide (40 < (wr64 (b_Last - b_First))))) && (decide ((wr64 (b_Last - b_First)) < 1000)))))) ?_
 refine s_nil ?_
 refine W.cond (((decide (65 < (b_Years.length : Int))) || (decide (10 < (b_Olds.length : Int)))) || ((((decide (0 <= b_First)) && (decide (b_Last <= 3000))) && (decide (40 < (wr64 (b_Last - b_First))))) && (decide ((wr64 (b_Last - b_First)) < 1000)))) rfl (fun c4z => ?_) (fun c4z => ?_)
 ·replace hM := M.e_t hM c4z
  refine W.seq ?_
  refine W.region rfl ?_
  refine s_val (x_as (v := B true) rfl) ?_
  refine s_nil ?_
  refine W.ret ?_
  have hr_ := M.e_pure hM
  exact ⟨_, resE_tmp rfl, ⟨true, hr_, rfl, (H.pick [] (by decide) rfl)⟩⟩
 replace hM := M.e_f hM c4z
 refine W.skip ?_
 refine W.seq ?_
 refine W.seq ?_
 refine W.region rfl ?_
 refine s_val (x_as (v := I 0) rfl) ?_
 refine s_nil ?_
 refine W.block ?_
 obtain ⟨ex5z, hi6z, hk7z⟩ := M.e_bind hM
 obtain ⟨m0_, hi6z⟩ := M.e_iter hi6z
 refine W.loop (fun m σ W => ∃ (i : Nat) (ρ : Env), σ = upds ρ [(1, .pointer (some ⟨b_1, 0, none⟩)), (3, I (i : Int))] /\ M.iterN (zaP b_Olds) m i = some ex5z /\ St w W [cBlk b_1 [v_b_Years, v_b_Olds, I b_First, I b_Last] 26] R) ?_ ?_
 ·exact ⟨_, 0, _, upds_of _ _ ⟨rfl, rfl, trivial⟩, hi6z, H⟩
 rintro m10z σ w8z ⟨i, ρ, rfl, hI9z, H⟩
 obtain ⟨m11z, lt12z, x13z, hM, hN14z⟩ := M.e_iterN hI9z
 simp only [zaP] at hM
 clear hI9z
 refine W.seq ?_
 refine W.seq ?_
 refine W.region rfl ?_
 refine s_val (x_mv (v := I (i : Int)) rfl) ?_
 refine s_val (x_fa (a := .pointer (some ⟨b_1, 0, none⟩)) (v := .pointer (some ⟨b_1, 1, none⟩)) rfl (fa_blk (o := 0) Fd26_1 Sz24)) ?_
 refine s_val (x_ld (p := .pointer (some ⟨b_1, 1, none⟩)) (v := v_b_Olds) rfl (ldb_sc Sc24 (H.blk (k := 0) rfl) rfl)) ?_
 have hl15z := (hs_b_Olds).len_le
 refine s_val (x_lenS T24.und rfl hs_b_Olds) ?_
 refine s_val (x_cmp (kd := .i64) (a := (i : Int)) (b := (b_Olds.length : Int)) (r := decide ((i : Int) < (b_Olds.length : Int))) rfl rfl rfl) ?_
 refine s_nil ?_
 refine W.cond (decide ((i : Int) < (b_Olds.length : Int))) rfl (fun c16z => ?_) (fun c16z => ?_)
 ·replace hM := M.e_t hM c16z
  simp only [decide_eq_true_eq, decide_eq_false_iff_not, beq_iff_eq, bne_iff_ne, beq_eq_false_iff_ne, bne_eq_false_iff_eq, ne_eq, Decidable.not_not] at c16z
  refine W.skip ?_
  refine W.seq ?_
  refine W.block ?_
  refine W.seq ?_
  refine W.region rfl ?_
  refine s_val (x_fa (a := .pointer (some ⟨b_1, 0, none⟩)) (v := .pointer (some ⟨b_1, 1, none⟩)) rfl (fa_blk (o := 0) Fd26_1 Sz24)) ?_
  refine s_val (x_ld (p := .pointer (some ⟨b_1, 1, none⟩)) (v := v_b_Olds) rfl (ldb_sc Sc24 (H.blk (k := 0) rfl) rfl)) ?_
  refine s_val (x_mv (v := I (i : Int)) rfl) ?_
  obtain ⟨sd17z, hM⟩ := M.e_grd hM
  simp only [Bool.and_eq_true, decide_eq_true_eq] at sd17z
  refine s_val (x_ix (a := v_b_Olds) (b := I (i : Int)) (v := vat v_b_Olds 4 (Int.toNat (i : Int))) rfl rfl (Sl.ix (α := Old10) T24.und T24.size hs_b_Olds (by omega) (by omega))) ?_
  refine s_val (x_fa (a := vat v_b_Olds 4 (Int.toNat (i : Int))) (v := fat (vat v_b_Olds 4 (Int.toNat (i : Int))) 3) rfl (fa_pl Fd43_3 Sz27 (Sl.pl (i := (i : Int)) hs_b_Olds (by omega) (by omega)))) ?_
  obtain ⟨u18z, ha_u18z, hs19z⟩ := Old10_at3 hs_b_Olds (i := (i : Int)) (by omega) (by omega)
  replace hs19z : Sl _ u18z (b_Olds.getD i default).passed := hs19z
  have hl_hs19z := hs19z.len_le
  refine s_val (x_ld (p := fat (vat v_b_Olds 4 (Int.toNat (i : Int))) 3) (v := u18z) rfl (ld_sc Sc27 (At.mono (ha_u18z) (hC_b_Olds.at H)))) ?_
  have hl20z := (hs19z).len_le
  refine s_val (x_lenS T27.und rfl hs19z) ?_
  refine s_val (x_cmp (kd := .i64) (a := (((b_Olds.getD i default).passed).length : Int)) (b := 12) (r := decide (12 < (((b_Olds.getD i default).passed).length : Int))) rfl rfl rfl) ?_
  refine s_nil ?_
  refine W.cond (decide (12 < (((b_Olds.getD i default).passed).length : Int))) rfl (fun c21z => ?_) (fun c21z => ?_)
  ·replace hM := M.e_t hM c21z
   simp only [decide_eq_true_eq, decide_eq_false_iff_not, beq_iff_eq, bne_iff_ne, beq_eq_false_iff_ne, bne_eq_false_iff_eq, ne_eq, Decidable.not_not] at c21z
   refine W.seq ?_
   refine W.region rfl ?_
   refine s_val (x_as (v := B true) rfl) ?_
   refine s_nil ?_
   refine W.ret ?_
   have hX22z := M.e_inr hM hN14z
   subst hX22z
   replace hM := hk7z
   try dsimp only at hM
   have hr_ := M.e_pure hM
   exact ⟨_, resE_tmp rfl, ⟨true, hr_, rfl, (H.pick [] (by decide) rfl)⟩⟩
  replace hM := M.e_f hM c21z
  simp only [decide_eq_true_eq, decide_eq_false_iff_not, beq_iff_eq, bne_iff_ne, beq_eq_false_iff_ne, bne_eq_false_iff_eq, ne_eq, Decidable.not_not] at c21z
  refine W.skip ?_
  refine W.region rfl ?_
  refine s_val (x_mv (v := I (i : Int)) rfl) ?_
  refine s_val (x_ari (a := (i : Int)) (b := 1) (r := (i : Int) + 1) rfl rfl rfl (by omega)) ?_
  refine s_val (x_as (v := I ((i : Int) + 1)) rfl) ?_
  refine s_nil ?_
  exact ⟨m11z, lt12z, i + 1, _, upds_of _ _ ⟨rfl, rfl, trivial⟩, M.e_inl hM hN14z, H⟩
 replace hM := M.e_f hM c16z
 simp only [decide_eq_true_eq, decide_eq_false_iff_not, beq_iff_eq, bne_iff_ne, beq_eq_false_iff_ne, bne_eq_false_iff_eq, ne_eq, Decidable.not_not] at c16z
 refine W.exit ?_
 have hX23z := M.e_inr hM hN14z
 subst hX23z
 replace hM := hk7z
 try dsimp only at hM
 refine W.seq ?_
 refine W.region rfl ?_
 refine s_val (x_as (v := B false) rfl) ?_
 refine s_nil ?_
 refine W.ret ?_
 have hr_ := M.e_pure hM
 exact ⟨_, resE_tmp rfl, ⟨false, hr_, rfl, (H.pick [] (by decide) rfl)⟩⟩

def zci (l : List Yr) : M (List Yr) :=
  M.grd (decide ((([] : List Yr).length + l.length) * 24 <= 140737488355328)) <|
  M.pure l
theorem zcn {R : List Chunk} {C_l : Cells} {v_l : Value} (l : List Yr) (hC_l : Reads R C_l) (hs_l : Sl C_l v_l l) {r : (List Yr)} (hM : (zci l).Ends r) (w : World) (H : St w w [] R) : Ret Try.prog 57 #[v_l] w fun v w' => ∃ (y0 : List Yr) (u0 : Value), y0 = r /\ v = u0 /\ St w w' [cOwn (α := Yr) 41 u0 y0] R := by
 refine ret_of_W Try.func57 rfl rfl rfl ?_
 refine W.seq ?_
 refine W.region rfl ?_
 refine s_val (x_as (v := .slice none 0 0) rfl) ?_
 refine s_nil ?_
 refine W.seq ?_
 refine W.region rfl ?_
 refine s_val (x_as (v := .slice none 0 0) rfl) ?_
 refine s_nil ?_
 refine W.seq ?_
 refine W.region rfl ?_
 refine s_val (x_mv (v := .slice none 0 0) rfl) ?_
 refine s_val (x_mv (v := v_l) rfl) ?_
 replace H : St w w [cOwn (α := Yr) 41 (.slice none 0 0) ([])] R := H.nilOwn (α := Yr) 41
 obtain ⟨sd1z, hM⟩ := M.e_grd hM
 simp only [Bool.and_eq_true, decide_eq_true_eq] at sd1z
 refine t_app (α := Yr) (k := 0) (l := []) (l2 := l) (l' := l) (vy := v_l) T23 rfl H rfl rfl rfl hs_l (hC_l.at H) (List.nil_append _) (by first | omega | (simp only [List.length_nil] at *; omega)) ?_
 intro v2z w3z H
 replace H : St w w3z [cOwn (α := Yr) 41 v2z l] R := H
 refine s_val (x_as (v := v2z) rfl) ?_
 refine s_nil ?_
 refine W.ret ?_
 have hr_ := M.e_pure hM
 exact ⟨_, resE_tmp rfl, ⟨l, v2z, hr_, rfl, H⟩⟩

def zao (b_Olds : List Old10) : (Nat × (List Old10)) -> M ((Nat × (List Old10)) ⊕ ((List Old10) × (List Old10))) := fun (i, l) =>
  bif decide ((i : Int) < (b_Olds.length : Int)) then (
  M.grd (decide ((i : Int) < (b_Olds.length : Int))) <|
  M.bind (zce ((b_Olds.getD i default).passed)) fun r3 =>
  M.grd (decide ((l.length + ([(⟨((b_Olds.getD i default).src : Int), ((b_Olds.getD i default).dst : Int), ((b_Olds.getD i default).stage : Int), r3⟩ : Old10)]).length) * 48 <= 140737488355328)) <|
  M.pure (.inl (i + 1, l ++ ([(⟨((b_Olds.getD i default).src : Int), ((b_Olds.getD i default).dst : Int), ((b_Olds.getD i default).stage : Int), r3⟩ : Old10)]))))
  else (
  M.pure (.inr (l, l)))
def zbz (b_Years : List Yr) (b_Olds : List Old10) (b_First : Int) (b_Last : Int) : M ((List Yr) × (List Old10) × Int × Int) :=
  M.bind (zci b_Years) fun r2 =>
  M.bind (M.iter (zao b_Olds) (0, [])) fun (l2, l3) =>
  M.pure (r2, l3, b_First, b_Last)
theorem zbt {R : List Chunk} {C_b_Years : Cells} {v_b_Years : Value} {C_b_Olds : Cells} {v_b_Olds : Value} (b_Years : List Yr) (b_Olds : List Old10) (b_First : Int) (b_Last : Int) (hC_b_Years : Reads R C_b_Years) (hs_b_Years : Sl C_b_Years v_b_Years b_Years) (hC_b_Olds : Reads R C_b_Olds) (hs_b_Olds : Sl C_b_Olds v_b_Olds b_Olds) {r : ((List Yr) × (List Old10) × Int × Int)} (hM : (zbz b_Years b_Olds b_First b_Last).Ends r) (w : World) (H : St w w [] R) : Ret Try.prog 16 #[.agg #[v_b_Years, v_b_Olds, I b_First, I b_Last]] w fun v w' => ∃ (y0 : List Yr) (y1 : List Old10) (y2 : Int) (y3 : Int) (u0 : Value) (u1 : Value) (rr2 : List (Raw 3)) (Bs3 : Base), (y0, y1, y2, y3) = r /\ v = .agg #[u0, u1, I y2, I y3] /\ St w w' [cOwn (α := Yr) 41 u0 y0, cOwn (α := Raw 3) 43 u1 rr2, cRo Bs3] R /\ RepR (α := Old10) Bs3.cells rr2 y1 := by
 refine ret_of_W Try.func16 rfl rfl rfl ?_
 refine W.seq ?_
 refine W.region rfl ?_
 refine t_box (v := .agg #[v_b_Years, v_b_Olds, I b_First, I b_Last]) (cs := [v_b_Years, v_b_Olds, I b_First, I b_Last]) H rfl rfl ?_
 intro b_1 w1z H
 refine t_alloc (cs := [.slice none 0 0, .slice none 0 0, I 0, I 0]) H Al26 rfl ?_
 intro b_2 w2z H
 refine s_nil ?_
 refine W.seq ?_
 refine W.drawT (fun W => St w W [cBlk b_2 [.slice none 0 0, .slice none 0 0, I 0, I 0] 26, cBlk b_1 [v_b_Years, v_b_Olds, I b_First, I b_Last] 26] R) (.q 0 (.q 1 (.q 2 (.q 3 (.q 4 (.q 5 (.l2 6 (.q 7 (.l 8 (.l 9 .nil))) 8 (.l 6 (.q 7 (.l 9 .nil)))))))))) mixed (by decide +kernel) rfl ?_
 intro w3z hx_
 replace H : St w w3z [cBlk b_2 [.slice none 0 0, .slice none 0 0, I 0, I 0] 26, cBlk b_1 [v_b_Years, v_b_Olds, I b_First, I b_Last] 26] R := H.ext hx_
 clear hx_
 refine ⟨(H.pick [0, 1] (by decide) rfl), ?_⟩
 refine t_q rfl (fun w' H => x_fa (a := .pointer (some ⟨b_1, 0, none⟩)) (v := .pointer (some ⟨b_1, 2, none⟩)) rfl (fa_blk (o := 0) Fd26_2 Sz3)) ?_
 refine t_q rfl (fun w' H => x_ld (p := .pointer (some ⟨b_1, 2, none⟩)) (v := I b_First) rfl (ldb_sc Sc3 (H.blk (k := 1) rfl) rfl)) ?_
 refine t_q rfl (fun w' H => x_fa (a := .pointer (some ⟨b_1, 0, none⟩)) (v := .pointer (some ⟨b_1, 3, none⟩)) rfl (fa_blk (o := 0) Fd26_3 Sz3)) ?_
 refine t_q rfl (fun w' H => x_ld (p := .pointer (some ⟨b_1, 3, none⟩)) (v := I b_Last) rfl (ldb_sc Sc3 (H.blk (k := 1) rfl) rfl)) ?_
 refine t_q rfl (fun w' H => x_fa (a := .pointer (some ⟨b_1, 0, none⟩)) (v := .pointer (some ⟨b_1, 0, none⟩)) rfl (fa_blk (o := 0) Fd26_0 Sz23)) ?_
 refine t_q rfl (fun w' H => x_ld (p := .pointer (some ⟨b_1, 0, none⟩)) (v := v_b_Years) rfl (ldb_sc Sc23 (H.blk (k := 1) rfl) rfl)) ?_
 refine t_l2 rfl rfl ?_ ?_
 ·skip
  obtain ⟨r16z, hx15z, hM⟩ := M.e_bind hM
  refine s_call cf57 [v_b_Years] rfl (zcn b_Years (hC_b_Years.app _) hs_b_Years hx15z _ (St.give (T := [cBlk b_2 [.slice none 0 0, .slice none 0 0, I 0, I 0] 26, cBlk b_1 [v_b_Years, v_b_Olds, I b_First, I b_Last] 26]) H rfl)) ?_
  rintro vq w17z ⟨r2, u0_3, hr18z, hvq, H2_⟩
  subst hr18z
  subst vq
  try dsimp only at hM
  replace H : St w w17z [cOwn (α := Yr) 41 u0_3 r2, cBlk b_2 [.slice none 0 0, .slice none 0 0, I 0, I 0] 26, cBlk b_1 [v_b_Years, v_b_Olds, I b_First, I b_Last] 26] R := H.back H2_ rfl
  clear H2_
  have hvc_q19z := Sl.cells (ownSl (H.get (k := 0) rfl))
  have hvo_q19z := Sl.oc (ownSl (H.get (k := 0) rfl))
  refine s_nil ⟨(H.pick [1, 2] (by decide) rfl), ?_⟩
  refine t_q rfl (fun w' H => x_bld (ps := [(2, I b_First), (3, I b_Last), (0, u0_3)]) (zs := [.slice none 0 0, .slice none 0 0, I 0, I 0]) (L' := [u0_3, .slice none 0 0, I b_First, I b_Last]) rfl Try.underlying26 Al26 rfl (Bd26 Try.underlying26) (.cons (cs := [I b_First]) rfl rfl rfl rfl rfl <| .cons (cs := [I b_Last]) rfl rfl rfl rfl rfl <| .cons (cs := [u0_3]) hvc_q19z rfl rfl rfl rfl <| .nil)) ?_
  refine t_l rfl ?_
  refine t_alloc (cs := [.slice none 0 0, .slice none 0 0, I 0, I 0]) H Al26 rfl ?_
  intro b_4 w20z H
  refine s_nil ⟨(H.pick [2, 3] (by decide) rfl), ?_⟩
  refine t_l rfl ?_
  refine t_st (k := 0) (b := b_4) (off := 0) (cs := [.slice none 0 0, .slice none 0 0, I 0, I 0]) (vs := [u0_3, .slice none 0 0, I b_First, I b_Last]) (cs' := [u0_3, .slice none 0 0, I b_First, I b_Last]) (v := .agg #[u0_3, .slice none 0 0, I b_First, I b_Last]) (L' := [cBlk b_4 [u0_3, .slice none 0 0, I b_First, I b_Last] 26, cOwn (α := Yr) 41 u0_3 r2, cBlk b_2 [.slice none 0 0, .slice none 0 0, I 0, I 0] 26, cBlk b_1 [v_b_Years, v_b_Olds, I b_First, I b_Last] 26]) H rfl rfl rfl Sz26 rfl rfl rfl (by simp only [List.all_cons, List.all_nil, Bool.true_and, Bool.and_true, Sl.oc (ownSl (H.get (k := 1) rfl))]; try rfl) rfl rfl ?_
  intro w21z H
  refine s_nil ⟨(H.pick [2, 3] (by decide) rfl), ?_⟩
  refine t_nil ?_
  refine W.seq ?_
  refine W.seq ?_
  refine W.region rfl ?_
  refine s_val (x_as (v := I 0) rfl) ?_
  refine s_nil ?_
  refine W.block ?_
  obtain ⟨Bs_14, H⟩ := H.emptyE
  replace H : St w w21z [cOwn (α := Raw 3) 43 (.slice none 0 0) ([]), cRo Bs_14, cBlk b_4 [u0_3, .slice none 0 0, I b_First, I b_Last] 26, cOwn (α := Yr) 41 u0_3 r2, cBlk b_2 [.slice none 0 0, .slice none 0 0, I 0, I 0] 26, cBlk b_1 [v_b_Years, v_b_Olds, I b_First, I b_Last] 26] R := H.nilOwn (α := Raw 3) 43
  have hr22z : RepR (α := Old10) (n := 3) Bs_14.cells [] [] := .nil
  obtain ⟨ex23z, hi24z, hk25z⟩ := M.e_bind hM
  obtain ⟨m0_, hi24z⟩ := M.e_iter hi24z
  refine W.loop (fun m σ W => ∃ (i : Nat) (l : List Old10) (v_l : Value) (rw_l : List (Raw 3)) (B_l : Base) (ρ : Env), σ = upds ρ [(1, .pointer (some ⟨b_1, 0, none⟩)), (2, .pointer (some ⟨b_2, 0, none⟩)), (3, .pointer (some ⟨b_4, 0, none⟩)), (4, I (i : Int))] /\ M.iterN (zao b_Olds) m (i, l) = some ex23z /\ St w W [cOwn (α := Raw 3) 43 v_l rw_l, cRo B_l, cBlk b_4 [u0_3, v_l, I b_First, I b_Last] 26, cOwn (α := Yr) 41 u0_3 r2, cBlk b_2 [.slice none 0 0, .slice none 0 0, I 0, I 0] 26, cBlk b_1 [v_b_Years, v_b_Olds, I b_First, I b_Last] 26] R /\ RepR (α := Old10) B_l.cells rw_l l) ?_ ?_
  ·exact ⟨_, 0, [], (.slice none 0 0), [], Bs_14, _, upds_of _ _ ⟨rfl, rfl, rfl, rfl, trivial⟩, hi24z, H, hr22z⟩
  rintro m28z σ w26z ⟨i, l, v_l, rw_l, B_l, ρ, rfl, hI27z, H, hr_l⟩
  obtain ⟨m29z, lt30z, x31z, hM, hN32z⟩ := M.e_iterN hI27z
  simp only [zao] at hM
  clear hI27z
  refine W.seq ?_
  refine W.seq ?_
  refine W.region rfl ?_
  refine s_val (x_mv (v := I (i : Int)) rfl) ?_
  refine s_val (x_fa (a := .pointer (some ⟨b_1, 0, none⟩)) (v := .pointer (some ⟨b_1, 1, none⟩)) rfl (fa_blk (o := 0) Fd26_1 Sz24)) ?_
  refine s_val (x_ld (p := .pointer (some ⟨b_1, 1, none⟩)) (v := v_b_Olds) rfl (ldb_sc Sc24 (H.blk (k := 5) rfl) rfl)) ?_
  have hl33z := (hs_b_Olds).len_le
  refine s_val (x_lenS T24.und rfl hs_b_Olds) ?_
  refine s_val (x_cmp (kd := .i64) (a := (i : Int)) (b := (b_Olds.length : Int)) (r := decide ((i : Int) < (b_Olds.length : Int))) rfl rfl rfl) ?_
  refine s_nil ?_
  refine W.cond (decide ((i : Int) < (b_Olds.length : Int))) rfl (fun c34z => ?_) (fun c34z => ?_)
  ·replace hM := M.e_t hM c34z
   simp only [decide_eq_true_eq, decide_eq_false_iff_not, beq_iff_eq, bne_iff_ne, beq_eq_false_iff_ne, bne_eq_false_iff_eq, ne_eq, Decidable.not_not] at c34z
   refine W.skip ?_
   refine W.seq ?_
   refine W.block ?_
   refine W.seq ?_
   refine W.region rfl ?_
   refine s_val (x_fa (a := .pointer (some ⟨b_1, 0, none⟩)) (v := .pointer (some ⟨b_1, 1, none⟩)) rfl (fa_blk (o := 0) Fd26_1 Sz24)) ?_
   refine s_val (x_ld (p := .pointer (some ⟨b_1, 1, none⟩)) (v := v_b_Olds) rfl (ldb_sc Sc24 (H.blk (k := 5) rfl) rfl)) ?_
   refine s_val (x_mv (v := I (i : Int)) rfl) ?_
   obtain ⟨sd35z, hM⟩ := M.e_grd hM
   simp only [Bool.and_eq_true, decide_eq_true_eq] at sd35z
   refine s_val (x_ix (a := v_b_Olds) (b := I (i : Int)) (v := vat v_b_Olds 4 (Int.toNat (i : Int))) rfl rfl (Sl.ix (α := Old10) T24.und T24.size hs_b_Olds (by omega) (by omega))) ?_
   obtain ⟨u36z, ha38z, hs37z⟩ := Old10_atA hs_b_Olds (i := (i : Int)) (by omega) (by omega)
   replace hs37z : Sl _ u36z (b_Olds.getD i default).passed := hs37z
   have hl_hs37z := hs37z.len_le
   refine s_val (x_ld (p := vat v_b_Olds 4 (Int.toNat (i : Int))) (v := .agg #[I ((b_Olds.getD i default).src), I ((b_Olds.getD i default).dst), I ((b_Olds.getD i default).stage), u36z]) rfl (ld_ag Ag43 Sz43 (At.mono ha38z (hC_b_Olds.at H)))) ?_
   refine t_alloc (cs := [I 0, I 0, I 0, .slice none 0 0]) H Al43 rfl ?_
   intro b_5 w39z H
   refine t_st (k := 0) (b := b_5) (off := 0) (cs := [I 0, I 0, I 0, .slice none 0 0]) (vs := [I ((b_Olds.getD i default).src), I ((b_Olds.getD i default).dst), I ((b_Olds.getD i default).stage), u36z]) (cs' := [I ((b_Olds.getD i default).src), I ((b_Olds.getD i default).dst), I ((b_Olds.getD i default).stage), u36z]) (v := .agg #[I ((b_Olds.getD i default).src), I ((b_Olds.getD i default).dst), I ((b_Olds.getD i default).stage), u36z]) (L' := [cBlk b_5 [I ((b_Olds.getD i default).src), I ((b_Olds.getD i default).dst), I ((b_Olds.getD i default).stage), u36z] 43, cOwn (α := Raw 3) 43 v_l rw_l, cRo B_l, cBlk b_4 [u0_3, v_l, I b_First, I b_Last] 26, cOwn (α := Yr) 41 u0_3 r2, cBlk b_2 [.slice none 0 0, .slice none 0 0, I 0, I 0] 26, cBlk b_1 [v_b_Years, v_b_Olds, I b_First, I b_Last] 26]) H rfl rfl rfl Sz43 rfl rfl rfl (by simp only [List.all_cons, List.all_nil, Bool.true_and, Bool.and_true, Sl.oc hs37z]; try rfl) rfl rfl ?_
   intro w40z H
   refine s_nil ?_
   refine W.seq ?_
   refine W.region rfl ?_
   refine s_val (x_fa (a := .pointer (some ⟨b_5, 0, none⟩)) (v := .pointer (some ⟨b_5, 3, none⟩)) rfl (fa_blk (o := 0) Fd43_3 Sz27)) ?_
   refine s_val (x_ld (p := .pointer (some ⟨b_5, 3, none⟩)) (v := u36z) rfl (ldb_sc Sc27 (H.blk (k := 0) rfl) rfl)) ?_
   obtain ⟨r42z, hx41z, hM⟩ := M.e_bind hM
   refine s_call cf31 [u36z] rfl (zco ((b_Olds.getD i default).passed) (hC_b_Olds.app _) hs37z hx41z _ (St.give (T := [cBlk b_5 [I ((b_Olds.getD i default).src), I ((b_Olds.getD i default).dst), I ((b_Olds.getD i default).stage), u36z] 43, cOwn (α := Raw 3) 43 v_l rw_l, cRo B_l, cBlk b_4 [u0_3, v_l, I b_First, I b_Last] 26, cOwn (α := Yr) 41 u0_3 r2, cBlk b_2 [.slice none 0 0, .slice none 0 0, I 0, I 0] 26, cBlk b_1 [v_b_Years, v_b_Olds, I b_First, I b_Last] 26]) H rfl)) ?_
   rintro vq w43z ⟨r3, u0_6, hr44z, hvq, H2_⟩
   subst hr44z
   subst vq
   try dsimp only at hM
   replace H : St w w43z [cOwn (α := Int) 3 u0_6 r3, cBlk b_5 [I ((b_Olds.getD i default).src), I ((b_Olds.getD i default).dst), I ((b_Olds.getD i default).stage), u36z] 43, cOwn (α := Raw 3) 43 v_l rw_l, cRo B_l, cBlk b_4 [u0_3, v_l, I b_First, I b_Last] 26, cOwn (α := Yr) 41 u0_3 r2, cBlk b_2 [.slice none 0 0, .slice none 0 0, I 0, I 0] 26, cBlk b_1 [v_b_Years, v_b_Olds, I b_First, I b_Last] 26] R := H.back H2_ rfl
   clear H2_
   refine s_val (x_fa (a := .pointer (some ⟨b_5, 0, none⟩)) (v := .pointer (some ⟨b_5, 3, none⟩)) rfl (fa_blk (o := 0) Fd43_3 Sz27)) ?_
   refine t_st (k := 1) (b := b_5) (off := 3) (cs := [I ((b_Olds.getD i default).src), I ((b_Olds.getD i default).dst), I ((b_Olds.getD i default).stage), u36z]) (vs := [u0_6]) (cs' := [I ((b_Olds.getD i default).src), I ((b_Olds.getD i default).dst), I ((b_Olds.getD i default).stage), u0_6]) (v := u0_6) (L' := [cOwn (α := Int) 3 u0_6 r3, cBlk b_5 [I ((b_Olds.getD i default).src), I ((b_Olds.getD i default).dst), I ((b_Olds.getD i default).stage), u0_6] 43, cOwn (α := Raw 3) 43 v_l rw_l, cRo B_l, cBlk b_4 [u0_3, v_l, I b_First, I b_Last] 26, cOwn (α := Yr) 41 u0_3 r2, cBlk b_2 [.slice none 0 0, .slice none 0 0, I 0, I 0] 26, cBlk b_1 [v_b_Years, v_b_Olds, I b_First, I b_Last] 26]) H rfl rfl rfl Sz27 (Sl.cells (ownSl (H.get (k := 0) rfl))) rfl rfl (by simp only [List.all_cons, List.all_nil, Bool.true_and, Bool.and_true, Sl.oc (ownSl (H.get (k := 0) rfl))]; try rfl) rfl rfl ?_
   intro w45z H
   refine s_nil ?_
   refine W.region rfl ?_
   refine s_val (x_fa (a := .pointer (some ⟨b_4, 0, none⟩)) (v := .pointer (some ⟨b_4, 1, none⟩)) rfl (fa_blk (o := 0) Fd26_1 Sz24)) ?_
   refine s_val (x_ld (p := .pointer (some ⟨b_4, 1, none⟩)) (v := v_l) rfl (ldb_sc Sc24 (H.blk (k := 4) rfl) rfl)) ?_
   refine s_val (x_ld (p := .pointer (some ⟨b_5, 0, none⟩)) (v := .agg #[I ((b_Olds.getD i default).src), I ((b_Olds.getD i default).dst), I ((b_Olds.getD i default).stage), u0_6]) rfl (ldb_ag (ds := [I ((b_Olds.getD i default).src), I ((b_Olds.getD i default).dst), I ((b_Olds.getD i default).stage), u0_6]) Ag43 Sz43 (H.blk (k := 1) rfl) rfl rfl)) ?_
   obtain ⟨Bs_7, H⟩ := H.emptyE
   obtain ⟨Bs_8, H, hs47z⟩ := H.freezeE (k := 1) rfl
   replace H : St w w45z [cRo Bs_7, cRo Bs_8, cBlk b_5 [I ((b_Olds.getD i default).src), I ((b_Olds.getD i default).dst), I ((b_Olds.getD i default).stage), u0_6] 43, cOwn (α := Raw 3) 43 v_l rw_l, cRo B_l, cBlk b_4 [u0_3, v_l, I b_First, I b_Last] 26, cOwn (α := Yr) 41 u0_3 r2, cBlk b_2 [.slice none 0 0, .slice none 0 0, I 0, I 0] 26, cBlk b_1 [v_b_Years, v_b_Olds, I b_First, I b_Last] 26] R := H
   have hq46z := hs47z
   obtain ⟨Bs_9, H, le48z, le49z⟩ := H.joinE (i := 0) (j := 1) rfl rfl
   replace hq46z := hq46z.mono le49z
   obtain ⟨rw50z, hrw_rw50z⟩ : ∃ r : Raw 3, r.cs = [I ((b_Olds.getD i default).src), I ((b_Olds.getD i default).dst), I ((b_Olds.getD i default).stage), u0_6] := ⟨Raw.of [I ((b_Olds.getD i default).src), I ((b_Olds.getD i default).dst), I ((b_Olds.getD i default).stage), u0_6] rfl (by simp only [List.all_cons, List.all_nil, Bool.true_and, Bool.and_true, Sl.oc hq46z]; try rfl), rfl⟩
   have hr51z : RepR (α := Old10) Bs_9.cells [rw50z] [(⟨((b_Olds.getD i default).src : Int), ((b_Olds.getD i default).dst : Int), ((b_Olds.getD i default).stage : Int), r3⟩ : Old10)] := .cons (by rw [hrw_rw50z]; exact ⟨_, rfl, hq46z⟩) <| .nil
   refine t_bs (α := Raw 3) T24 [.agg #[I ((b_Olds.getD i default).src), I ((b_Olds.getD i default).dst), I ((b_Olds.getD i default).stage), u0_6]] [rw50z] H rfl (.cons (by rw [show (Flat.enc rw50z : List Value) = rw50z.cs from rfl, hrw_rw50z]; rfl) (Flat.rep_enc _ _) <| .nil) rfl rfl rfl ?_
   intro v52z w53z H
   replace H : St w w53z [cOwn (α := Raw 3) 43 v52z ([rw50z]), cRo Bs_9, cRo Bs_7, cRo Bs_8, cBlk b_5 [I ((b_Olds.getD i default).src), I ((b_Olds.getD i default).dst), I ((b_Olds.getD i default).stage), u0_6] 43, cOwn (α := Raw 3) 43 v_l rw_l, cRo B_l, cBlk b_4 [u0_3, v_l, I b_First, I b_Last] 26, cOwn (α := Yr) 41 u0_3 r2, cBlk b_2 [.slice none 0 0, .slice none 0 0, I 0, I 0] 26, cBlk b_1 [v_b_Years, v_b_Olds, I b_First, I b_Last] 26] R := H
   obtain ⟨sd54z, hM⟩ := M.e_grd hM
   simp only [Bool.and_eq_true, decide_eq_true_eq] at sd54z
   have hr55z := hr51z
   obtain ⟨Bs_13, H, le56z, le57z⟩ := H.joinE (i := 6) (j := 1) rfl rfl
   replace hr_l := hr_l.mono le56z
   replace hr55z := hr55z.mono le57z
   have hr60z := hr_l.app hr55z
   refine t_app (α := Raw 3) (k := 6) (l := rw_l) (l2 := [rw50z]) (l' := rw_l ++ ([rw50z])) (vy := v52z) T24 rfl H rfl rfl rfl (ownSl (H.get (k := 1) rfl)) (ownLe _ (H.get (k := 1) rfl)) (rfl) (by have a_ := hr_l.len; have b_ := hr55z.len; (try simp only [List.length_nil] at *); first | omega | (rw [a_, b_]; omega)) ?_
   intro v58z w59z H
   replace H : St w w59z [cRo Bs_13, cOwn (α := Raw 3) 43 v52z ([rw50z]), cRo Bs_9, cRo Bs_7, cRo Bs_8, cBlk b_5 [I ((b_Olds.getD i default).src), I ((b_Olds.getD i default).dst), I ((b_Olds.getD i default).stage), u0_6] 43, cOwn (α := Raw 3) 43 v58z (rw_l ++ ([rw50z])), cRo B_l, cBlk b_4 [u0_3, v_l, I b_First, I b_Last] 26, cOwn (α := Yr) 41 u0_3 r2, cBlk b_2 [.slice none 0 0, .slice none 0 0, I 0, I 0] 26, cBlk b_1 [v_b_Years, v_b_Olds, I b_First, I b_Last] 26] R := H
   refine s_val (x_fa (a := .pointer (some ⟨b_4, 0, none⟩)) (v := .pointer (some ⟨b_4, 1, none⟩)) rfl (fa_blk (o := 0) Fd26_1 Sz24)) ?_
   refine t_st (k := 8) (b := b_4) (off := 1) (cs := [u0_3, v_l, I b_First, I b_Last]) (vs := [v58z]) (cs' := [u0_3, v58z, I b_First, I b_Last]) (v := v58z) (L' := [cRo Bs_13, cOwn (α := Raw 3) 43 v52z ([rw50z]), cRo Bs_9, cRo Bs_7, cRo Bs_8, cBlk b_5 [I ((b_Olds.getD i default).src), I ((b_Olds.getD i default).dst), I ((b_Olds.getD i default).stage), u0_6] 43, cOwn (α := Raw 3) 43 v58z (rw_l ++ ([rw50z])), cRo B_l, cBlk b_4 [u0_3, v58z, I b_First, I b_Last] 26, cOwn (α := Yr) 41 u0_3 r2, cBlk b_2 [.slice none 0 0, .slice none 0 0, I 0, I 0] 26, cBlk b_1 [v_b_Years, v_b_Olds, I b_First, I b_Last] 26]) H rfl rfl rfl Sz24 (Sl.cells (rowSl rfl (H.get (k := 6) rfl) (roLe _ (H.get (k := 0) rfl)) hr60z)) rfl rfl (by simp only [List.all_cons, List.all_nil, Bool.true_and, Bool.and_true, Sl.oc (rowSl rfl (H.get (k := 6) rfl) (roLe _ (H.get (k := 0) rfl)) hr60z)]; try rfl) rfl rfl ?_
   intro w61z H
   refine s_nil ?_
   refine W.region rfl ?_
   refine s_val (x_mv (v := I (i : Int)) rfl) ?_
   refine s_val (x_ari (a := (i : Int)) (b := 1) (r := (i : Int) + 1) rfl rfl rfl (by omega)) ?_
   refine s_val (x_as (v := I ((i : Int) + 1)) rfl) ?_
   refine s_nil ?_
   exact ⟨m29z, lt30z, i + 1, l ++ ([(⟨((b_Olds.getD i default).src : Int), ((b_Olds.getD i default).dst : Int), ((b_Olds.getD i default).stage : Int), r3⟩ : Old10)]), v58z, rw_l ++ ([rw50z]), Bs_13, _, upds_of _ _ ⟨rfl, rfl, rfl, rfl, trivial⟩, M.e_inl hM hN32z, (H.pick [6, 0, 8, 9, 10, 11] (by decide) rfl), hr60z⟩
  replace hM := M.e_f hM c34z
  simp only [decide_eq_true_eq, decide_eq_false_iff_not, beq_iff_eq, bne_iff_ne, beq_eq_false_iff_ne, bne_eq_false_iff_eq, ne_eq, Decidable.not_not] at c34z
  refine W.exit ?_
  have hX62z := M.e_inr hM hN32z
  subst hX62z
  replace hM := hk25z
  try dsimp only at hM
  refine W.seq ?_
  refine W.region rfl ?_
  refine s_val (x_ld (p := .pointer (some ⟨b_4, 0, none⟩)) (v := .agg #[u0_3, v_l, I b_First, I b_Last]) rfl (ldb_ag (ds := [u0_3, v_l, I b_First, I b_Last]) Ag26 Sz26 (H.blk (k := 2) rfl) rfl rfl)) ?_
  refine t_st (k := 4) (b := b_2) (off := 0) (cs := [.slice none 0 0, .slice none 0 0, I 0, I 0]) (vs := [u0_3, v_l, I b_First, I b_Last]) (cs' := [u0_3, v_l, I b_First, I b_Last]) (v := .agg #[u0_3, v_l, I b_First, I b_Last]) (L' := [cOwn (α := Raw 3) 43 v_l rw_l, cRo B_l, cBlk b_4 [u0_3, v_l, I b_First, I b_Last] 26, cOwn (α := Yr) 41 u0_3 r2, cBlk b_2 [u0_3, v_l, I b_First, I b_Last] 26, cBlk b_1 [v_b_Years, v_b_Olds, I b_First, I b_Last] 26]) H rfl rfl rfl Sz26 rfl rfl rfl (by simp only [List.all_cons, List.all_nil, Bool.true_and, Bool.and_true, Sl.oc (ownSl (H.get (k := 3) rfl)), Sl.oc (rowSl rfl (H.get (k := 0) rfl) (roLe _ (H.get (k := 1) rfl)) hr_l)]; try rfl) rfl rfl ?_
  intro w63z H
  refine s_nil ?_
  refine W.ret ?_
  have hb64z := (H.blk (k := 4) rfl)
  have hr_ := M.e_pure hM
  exact ⟨_, (resE_of1 (v := .agg #[u0_3, v_l, I b_First, I b_Last]) rfl (.cell (v := .agg #[u0_3, v_l, I b_First, I b_Last]) rfl (run_loadVar_ag (ds := [u0_3, v_l, I b_First, I b_Last]) Ag26 Sz26 hb64z rfl rfl) <| .nil)), ⟨r2, l, b_First, b_Last, u0_3, v_l, rw_l, B_l, hr_, rfl, (H.pick [3, 0, 1] (by decide) rfl), hr_l⟩⟩
 skip
 refine t_alloc (cs := [.slice none 0 0, .slice none 0 0, I 0, I 0]) H Al26 rfl ?_
 intro b_4 w65z H
 refine s_nil ⟨(H.pick [1, 2] (by decide) rfl), ?_⟩
 refine t_l rfl ?_
 obtain ⟨r67z, hx66z, hM⟩ := M.e_bind hM
 refine s_call cf57 [v_b_Years] rfl (zcn b_Years (hC_b_Years.app _) hs_b_Years hx66z _ (St.give (T := [cBlk b_4 [.slice none 0 0, .slice none 0 0, I 0, I 0] 26, cBlk b_2 [.slice none 0 0, .slice none 0 0, I 0, I 0] 26, cBlk b_1 [v_b_Years, v_b_Olds, I b_First, I b_Last] 26]) H rfl)) ?_
 rintro vq w68z ⟨r2, u0_3, hr69z, hvq, H2_⟩
 subst hr69z
 subst vq
 try dsimp only at hM
 replace H : St w w68z [cOwn (α := Yr) 41 u0_3 r2, cBlk b_4 [.slice none 0 0, .slice none 0 0, I 0, I 0] 26, cBlk b_2 [.slice none 0 0, .slice none 0 0, I 0, I 0] 26, cBlk b_1 [v_b_Years, v_b_Olds, I b_First, I b_Last] 26] R := H.back H2_ rfl
 clear H2_
 have hvc_q70z := Sl.cells (ownSl (H.get (k := 0) rfl))
 have hvo_q70z := Sl.oc (ownSl (H.get (k := 0) rfl))
 refine s_nil ⟨(H.pick [2, 3] (by decide) rfl), ?_⟩
 refine t_q rfl (fun w' H => x_bld (ps := [(2, I b_First), (3, I b_Last), (0, u0_3)]) (zs := [.slice none 0 0, .slice none 0 0, I 0, I 0]) (L' := [u0_3, .slice none 0 0, I b_First, I b_Last]) rfl Try.underlying26 Al26 rfl (Bd26 Try.underlying26) (.cons (cs := [I b_First]) rfl rfl rfl rfl rfl <| .cons (cs := [I b_Last]) rfl rfl rfl rfl rfl <| .cons (cs := [u0_3]) hvc_q70z rfl rfl rfl rfl <| .nil)) ?_
 refine t_l rfl ?_
 refine t_st (k := 1) (b := b_4) (off := 0) (cs := [.slice none 0 0, .slice none 0 0, I 0, I 0]) (vs := [u0_3, .slice none 0 0, I b_First, I b_Last]) (cs' := [u0_3, .slice none 0 0, I b_First, I b_Last]) (v := .agg #[u0_3, .slice none 0 0, I b_First, I b_Last]) (L' := [cOwn (α := Yr) 41 u0_3 r2, cBlk b_4 [u0_3, .slice none 0 0, I b_First, I b_Last] 26, cBlk b_2 [.slice none 0 0, .slice none 0 0, I 0, I 0] 26, cBlk b_1 [v_b_Years, v_b_Olds, I b_First, I b_Last] 26]) H rfl rfl rfl Sz26 rfl rfl rfl (by simp only [List.all_cons, List.all_nil, Bool.true_and, Bool.and_true, Sl.oc (ownSl (H.get (k := 0) rfl))]; try rfl) rfl rfl ?_
 intro w71z H
 refine s_nil ⟨(H.pick [2, 3] (by decide) rfl), ?_⟩
 refine t_nil ?_
 refine W.seq ?_
 refine W.seq ?_
 refine W.region rfl ?_
 refine s_val (x_as (v := I 0) rfl) ?_
 refine s_nil ?_
 refine W.block ?_
 obtain ⟨Bs_14, H⟩ := H.emptyE
 replace H : St w w71z [cOwn (α := Raw 3) 43 (.slice none 0 0) ([]), cRo Bs_14, cOwn (α := Yr) 41 u0_3 r2, cBlk b_4 [u0_3, .slice none 0 0, I b_First, I b_Last] 26, cBlk b_2 [.slice none 0 0, .slice none 0 0, I 0, I 0] 26, cBlk b_1 [v_b_Years, v_b_Olds, I b_First, I b_Last] 26] R := H.nilOwn (α := Raw 3) 43
 have hr72z : RepR (α := Old10) (n := 3) Bs_14.cells [] [] := .nil
 obtain ⟨ex73z, hi74z, hk75z⟩ := M.e_bind hM
 obtain ⟨m0_, hi74z⟩ := M.e_iter hi74z
 refine W.loop (fun m σ W => ∃ (i : Nat) (l : List Old10) (v_l : Value) (rw_l : List (Raw 3)) (B_l : Base) (ρ : Env), σ = upds ρ [(1, .pointer (some ⟨b_1, 0, none⟩)), (2, .pointer (some ⟨b_2, 0, none⟩)), (3, .pointer (some ⟨b_4, 0, none⟩)), (4, I (i : Int))] /\ M.iterN (zao b_Olds) m (i, l) = some ex73z /\ St w W [cOwn (α := Raw 3) 43 v_l rw_l, cRo B_l, cOwn (α := Yr) 41 u0_3 r2, cBlk b_4 [u0_3, v_l, I b_First, I b_Last] 26, cBlk b_2 [.slice none 0 0, .slice none 0 0, I 0, I 0] 26, cBlk b_1 [v_b_Years, v_b_Olds, I b_First, I b_Last] 26] R /\ RepR (α := Old10) B_l.cells rw_l l) ?_ ?_
 ·exact ⟨_, 0, [], (.slice none 0 0), [], Bs_14, _, upds_of _ _ ⟨rfl, rfl, rfl, rfl, trivial⟩, hi74z, H, hr72z⟩
 rintro m78z σ w76z ⟨i, l, v_l, rw_l, B_l, ρ, rfl, hI77z, H, hr_l⟩
 obtain ⟨m79z, lt80z, x81z, hM, hN82z⟩ := M.e_iterN hI77z
 simp only [zao] at hM
 clear hI77z
 refine W.seq ?_
 refine W.seq ?_
 refine W.region rfl ?_
 refine s_val (x_mv (v := I (i : Int)) rfl) ?_
 refine s_val (x_fa (a := .pointer (some ⟨b_1, 0, none⟩)) (v := .pointer (some ⟨b_1, 1, none⟩)) rfl (fa_blk (o := 0) Fd26_1 Sz24)) ?_
 refine s_val (x_ld (p := .pointer (some ⟨b_1, 1, none⟩)) (v := v_b_Olds) rfl (ldb_sc Sc24 (H.blk (k := 5) rfl) rfl)) ?_
 have hl83z := (hs_b_Olds).len_le
 refine s_val (x_lenS T24.und rfl hs_b_Olds) ?_
 refine s_val (x_cmp (kd := .i64) (a := (i : Int)) (b := (b_Olds.length : Int)) (r := decide ((i : Int) < (b_Olds.length : Int))) rfl rfl rfl) ?_
 refine s_nil ?_
 refine W.cond (decide ((i : Int) < (b_Olds.length : Int))) rfl (fun c84z => ?_) (fun c84z => ?_)
 ·replace hM := M.e_t hM c84z
  simp only [decide_eq_true_eq, decide_eq_false_iff_not, beq_iff_eq, bne_iff_ne, beq_eq_false_iff_ne, bne_eq_false_iff_eq, ne_eq, Decidable.not_not] at c84z
  refine W.skip ?_
  refine W.seq ?_
  refine W.block ?_
  refine W.seq ?_
  refine W.region rfl ?_
  refine s_val (x_fa (a := .pointer (some ⟨b_1, 0, none⟩)) (v := .pointer (some ⟨b_1, 1, none⟩)) rfl (fa_blk (o := 0) Fd26_1 Sz24)) ?_
  refine s_val (x_ld (p := .pointer (some ⟨b_1, 1, none⟩)) (v := v_b_Olds) rfl (ldb_sc Sc24 (H.blk (k := 5) rfl) rfl)) ?_
  refine s_val (x_mv (v := I (i : Int)) rfl) ?_
  obtain ⟨sd85z, hM⟩ := M.e_grd hM
  simp only [Bool.and_eq_true, decide_eq_true_eq] at sd85z
  refine s_val (x_ix (a := v_b_Olds) (b := I (i : Int)) (v := vat v_b_Olds 4 (Int.toNat (i : Int))) rfl rfl (Sl.ix (α := Old10) T24.und T24.size hs_b_Olds (by omega) (by omega))) ?_
  obtain ⟨u86z, ha88z, hs87z⟩ := Old10_atA hs_b_Olds (i := (i : Int)) (by omega) (by omega)
  replace hs87z : Sl _ u86z (b_Olds.getD i default).passed := hs87z
  have hl_hs87z := hs87z.len_le
  refine s_val (x_ld (p := vat v_b_Olds 4 (Int.toNat (i : Int))) (v := .agg #[I ((b_Olds.getD i default).src), I ((b_Olds.getD i default).dst), I ((b_Olds.getD i default).stage), u86z]) rfl (ld_ag Ag43 Sz43 (At.mono ha88z (hC_b_Olds.at H)))) ?_
  refine t_alloc (cs := [I 0, I 0, I 0, .slice none 0 0]) H Al43 rfl ?_
  intro b_5 w89z H
  refine t_st (k := 0) (b := b_5) (off := 0) (cs := [I 0, I 0, I 0, .slice none 0 0]) (vs := [I ((b_Olds.getD i default).src), I ((b_Olds.getD i default).dst), I ((b_Olds.getD i default).stage), u86z]) (cs' := [I ((b_Olds.getD i default).src), I ((b_Olds.getD i default).dst), I ((b_Olds.getD i default).stage), u86z]) (v := .agg #[I ((b_Olds.getD i default).src), I ((b_Olds.getD i default).dst), I ((b_Olds.getD i default).stage), u86z]) (L' := [cBlk b_5 [I ((b_Olds.getD i default).src), I ((b_Olds.getD i default).dst), I ((b_Olds.getD i default).stage), u86z] 43, cOwn (α := Raw 3) 43 v_l rw_l, cRo B_l, cOwn (α := Yr) 41 u0_3 r2, cBlk b_4 [u0_3, v_l, I b_First, I b_Last] 26, cBlk b_2 [.slice none 0 0, .slice none 0 0, I 0, I 0] 26, cBlk b_1 [v_b_Years, v_b_Olds, I b_First, I b_Last] 26]) H rfl rfl rfl Sz43 rfl rfl rfl (by simp only [List.all_cons, List.all_nil, Bool.true_and, Bool.and_true, Sl.oc hs87z]; try rfl) rfl rfl ?_
  intro w90z H
  refine s_nil ?_
  refine W.seq ?_
  refine W.region rfl ?_
  refine s_val (x_fa (a := .pointer (some ⟨b_5, 0, none⟩)) (v := .pointer (some ⟨b_5, 3, none⟩)) rfl (fa_blk (o := 0) Fd43_3 Sz27)) ?_
  refine s_val (x_ld (p := .pointer (some ⟨b_5, 3, none⟩)) (v := u86z) rfl (ldb_sc Sc27 (H.blk (k := 0) rfl) rfl)) ?_
  obtain ⟨r92z, hx91z, hM⟩ := M.e_bind hM
  refine s_call cf31 [u86z] rfl (zco ((b_Olds.getD i default).passed) (hC_b_Olds.app _) hs87z hx91z _ (St.give (T := [cBlk b_5 [I ((b_Olds.getD i default).src), I ((b_Olds.getD i default).dst), I ((b_Olds.getD i default).stage), u86z] 43, cOwn (α := Raw 3) 43 v_l rw_l, cRo B_l, cOwn (α := Yr) 41 u0_3 r2, cBlk b_4 [u0_3, v_l, I b_First, I b_Last] 26, cBlk b_2 [.slice none 0 0, .slice none 0 0, I 0, I 0] 26, cBlk b_1 [v_b_Years, v_b_Olds, I b_First, I b_Last] 26]) H rfl)) ?_
  rintro vq w93z ⟨r3, u0_6, hr94z, hvq, H2_⟩
  subst hr94z
  subst vq
  try dsimp only at hM
  replace H : St w w93z [cOwn (α := Int) 3 u0_6 r3, cBlk b_5 [I ((b_Olds.getD i default).src), I ((b_Olds.getD i default).dst), I ((b_Olds.getD i default).stage), u86z] 43, cOwn (α := Raw 3) 43 v_l rw_l, cRo B_l, cOwn (α := Yr) 41 u0_3 r2, cBlk b_4 [u0_3, v_l, I b_First, I b_Last] 26, cBlk b_2 [.slice none 0 0, .slice none 0 0, I 0, I 0] 26, cBlk b_1 [v_b_Years, v_b_Olds, I b_First, I b_Last] 26] R := H.back H2_ rfl
  clear H2_
  refine s_val (x_fa (a := .pointer (some ⟨b_5, 0, none⟩)) (v := .pointer (some ⟨b_5, 3, none⟩)) rfl (fa_blk (o := 0) Fd43_3 Sz27)) ?_
  refine t_st (k := 1) (b := b_5) (off := 3) (cs := [I ((b_Olds.getD i default).src), I ((b_Olds.getD i default).dst), I ((b_Olds.getD i default).stage), u86z]) (vs := [u0_6]) (cs' := [I ((b_Olds.getD i default).src), I ((b_Olds.getD i default).dst), I ((b_Olds.getD i default).stage), u0_6]) (v := u0_6) (L' := [cOwn (α := Int) 3 u0_6 r3, cBlk b_5 [I ((b_Olds.getD i default).src), I ((b_Olds.getD i default).dst), I ((b_Olds.getD i default).stage), u0_6] 43, cOwn (α := Raw 3) 43 v_l rw_l, cRo B_l, cOwn (α := Yr) 41 u0_3 r2, cBlk b_4 [u0_3, v_l, I b_First, I b_Last] 26, cBlk b_2 [.slice none 0 0, .slice none 0 0, I 0, I 0] 26, cBlk b_1 [v_b_Years, v_b_Olds, I b_First, I b_Last] 26]) H rfl rfl rfl Sz27 (Sl.cells (ownSl (H.get (k := 0) rfl))) rfl rfl (by simp only [List.all_cons, List.all_nil, Bool.true_and, Bool.and_true, Sl.oc (ownSl (H.get (k := 0) rfl))]; try rfl) rfl rfl ?_
  intro w95z H
  refine s_nil ?_
  refine W.region rfl ?_
  refine s_val (x_fa (a := .pointer (some ⟨b_4, 0, none⟩)) (v := .pointer (some ⟨b_4, 1, none⟩)) rfl (fa_blk (o := 0) Fd26_1 Sz24)) ?_
  refine s_val (x_ld (p := .pointer (some ⟨b_4, 1, none⟩)) (v := v_l) rfl (ldb_sc Sc24 (H.blk (k := 5) rfl) rfl)) ?_
  refine s_val (x_ld (p := .pointer (some ⟨b_5, 0, none⟩)) (v := .agg #[I ((b_Olds.getD i default).src), I ((b_Olds.getD i default).dst), I ((b_Olds.getD i default).stage), u0_6]) rfl (ldb_ag (ds := [I ((b_Olds.getD i default).src), I ((b_Olds.getD i default).dst), I ((b_Olds.getD i default).stage), u0_6]) Ag43 Sz43 (H.blk (k := 1) rfl) rfl rfl)) ?_
  obtain ⟨Bs_7, H⟩ := H.emptyE
  obtain ⟨Bs_8, H, hs97z⟩ := H.freezeE (k := 1) rfl
  replace H : St w w95z [cRo Bs_7, cRo Bs_8, cBlk b_5 [I ((b_Olds.getD i default).src), I ((b_Olds.getD i default).dst), I ((b_Olds.getD i default).stage), u0_6] 43, cOwn (α := Raw 3) 43 v_l rw_l, cRo B_l, cOwn (α := Yr) 41 u0_3 r2, cBlk b_4 [u0_3, v_l, I b_First, I b_Last] 26, cBlk b_2 [.slice none 0 0, .slice none 0 0, I 0, I 0] 26, cBlk b_1 [v_b_Years, v_b_Olds, I b_First, I b_Last] 26] R := H
  have hq96z := hs97z
  obtain ⟨Bs_9, H, le98z, le99z⟩ := H.joinE (i := 0) (j := 1) rfl rfl
  replace hq96z := hq96z.mono le99z
  obtain ⟨rw100z, hrw_rw100z⟩ : ∃ r : Raw 3, r.cs = [I ((b_Olds.getD i default).src), I ((b_Olds.getD i default).dst), I ((b_Olds.getD i default).stage), u0_6] := ⟨Raw.of [I ((b_Olds.getD i default).src), I ((b_Olds.getD i default).dst), I ((b_Olds.getD i default).stage), u0_6] rfl (by simp only [List.all_cons, List.all_nil, Bool.true_and, Bool.and_true, Sl.oc hq96z]; try rfl), rfl⟩
  have hr101z : RepR (α := Old10) Bs_9.cells [rw100z] [(⟨((b_Olds.getD i default).src : Int), ((b_Olds.getD i default).dst : Int), ((b_Olds.getD i default).stage : Int), r3⟩ : Old10)] := .cons (by rw [hrw_rw100z]; exact ⟨_, rfl, hq96z⟩) <| .nil
  refine t_bs (α := Raw 3) T24 [.agg #[I ((b_Olds.getD i default).src), I ((b_Olds.getD i default).dst), I ((b_Olds.getD i default).stage), u0_6]] [rw100z] H rfl (.cons (by rw [show (Flat.enc rw100z : List Value) = rw100z.cs from rfl, hrw_rw100z]; rfl) (Flat.rep_enc _ _) <| .nil) rfl rfl rfl ?_
  intro v102z w103z H
  replace H : St w w103z [cOwn (α := Raw 3) 43 v102z ([rw100z]), cRo Bs_9, cRo Bs_7, cRo Bs_8, cBlk b_5 [I ((b_Olds.getD i default).src), I ((b_Olds.getD i default).dst), I ((b_Olds.getD i default).stage), u0_6] 43, cOwn (α := Raw 3) 43 v_l rw_l, cRo B_l, cOwn (α := Yr) 41 u0_3 r2, cBlk b_4 [u0_3, v_l, I b_First, I b_Last] 26, cBlk b_2 [.slice none 0 0, .slice none 0 0, I 0, I 0] 26, cBlk b_1 [v_b_Years, v_b_Olds, I b_First, I b_Last] 26] R := H
  obtain ⟨sd104z, hM⟩ := M.e_grd hM
  simp only [Bool.and_eq_true, decide_eq_true_eq] at sd104z
  have hr105z := hr101z
  obtain ⟨Bs_13, H, le106z, le107z⟩ := H.joinE (i := 6) (j := 1) rfl rfl
  replace hr_l := hr_l.mono le106z
  replace hr105z := hr105z.mono le107z
  have hr110z := hr_l.app hr105z
  refine t_app (α := Raw 3) (k := 6) (l := rw_l) (l2 := [rw100z]) (l' := rw_l ++ ([rw100z])) (vy := v102z) T24 rfl H rfl rfl rfl (ownSl (H.get (k := 1) rfl)) (ownLe _ (H.get (k := 1) rfl)) (rfl) (by have a_ := hr_l.len; have b_ := hr105z.len; (try simp only [List.length_nil] at *); first | omega | (rw [a_, b_]; omega)) ?_
  intro v108z w109z H
  replace H : St w w109z [cRo Bs_13, cOwn (α := Raw 3) 43 v102z ([rw100z]), cRo Bs_9, cRo Bs_7, cRo Bs_8, cBlk b_5 [I ((b_Olds.getD i default).src), I ((b_Olds.getD i default).dst), I ((b_Olds.getD i default).stage), u0_6] 43, cOwn (α := Raw 3) 43 v108z (rw_l ++ ([rw100z])), cRo B_l, cOwn (α := Yr) 41 u0_3 r2, cBlk b_4 [u0_3, v_l, I b_First, I b_Last] 26, cBlk b_2 [.slice none 0 0, .slice none 0 0, I 0, I 0] 26, cBlk b_1 [v_b_Years, v_b_Olds, I b_First, I b_Last] 26] R := H
  refine s_val (x_fa (a := .pointer (some ⟨b_4, 0, none⟩)) (v := .pointer (some ⟨b_4, 1, none⟩)) rfl (fa_blk (o := 0) Fd26_1 Sz24)) ?_
  refine t_st (k := 9) (b := b_4) (off := 1) (cs := [u0_3, v_l, I b_First, I b_Last]) (vs := [v108z]) (cs' := [u0_3, v108z, I b_First, I b_Last]) (v := v108z) (L' := [cRo Bs_13, cOwn (α := Raw 3) 43 v102z ([rw100z]), cRo Bs_9, cRo Bs_7, cRo Bs_8, cBlk b_5 [I ((b_Olds.getD i default).src), I ((b_Olds.getD i default).dst), I ((b_Olds.getD i default).stage), u0_6] 43, cOwn (α := Raw 3) 43 v108z (rw_l ++ ([rw100z])), cRo B_l, cOwn (α := Yr) 41 u0_3 r2, cBlk b_4 [u0_3, v108z, I b_First, I b_Last] 26, cBlk b_2 [.slice none 0 0, .slice none 0 0, I 0, I 0] 26, cBlk b_1 [v_b_Years, v_b_Olds, I b_First, I b_Last] 26]) H rfl rfl rfl Sz24 (Sl.cells (rowSl rfl (H.get (k := 6) rfl) (roLe _ (H.get (k := 0) rfl)) hr110z)) rfl rfl (by simp only [List.all_cons, List.all_nil, Bool.true_and, Bool.and_true, Sl.oc (rowSl rfl (H.get (k := 6) rfl) (roLe _ (H.get (k := 0) rfl)) hr110z)]; try rfl) rfl rfl ?_
  intro w111z H
  refine s_nil ?_
  refine W.region rfl ?_
  refine s_val (x_mv (v := I (i : Int)) rfl) ?_
  refine s_val (x_ari (a := (i : Int)) (b := 1) (r := (i : Int) + 1) rfl rfl rfl (by omega)) ?_
  refine s_val (x_as (v := I ((i : Int) + 1)) rfl) ?_
  refine s_nil ?_
  exact ⟨m79z, lt80z, i + 1, l ++ ([(⟨((b_Olds.getD i default).src : Int), ((b_Olds.getD i default).dst : Int), ((b_Olds.getD i default).stage : Int), r3⟩ : Old10)]), v108z, rw_l ++ ([rw100z]), Bs_13, _, upds_of _ _ ⟨rfl, rfl, rfl, rfl, trivial⟩, M.e_inl hM hN82z, (H.pick [6, 0, 8, 9, 10, 11] (by decide) rfl), hr110z⟩
 replace hM := M.e_f hM c84z
 simp only [decide_eq_true_eq, decide_eq_false_iff_not, beq_iff_eq, bne_iff_ne, beq_eq_false_iff_ne, bne_eq_false_iff_eq, ne_eq, Decidable.not_not] at c84z
 refine W.exit ?_
 have hX112z := M.e_inr hM hN82z
 subst hX112z
 replace hM := hk75z
 try dsimp only at hM
 refine W.seq ?_
 refine W.region rfl ?_
 refine s_val (x_ld (p := .pointer (some ⟨b_4, 0, none⟩)) (v := .agg #[u0_3, v_l, I b_First, I b_Last]) rfl (ldb_ag (ds := [u0_3, v_l, I b_First, I b_Last]) Ag26 Sz26 (H.blk (k := 3) rfl) rfl rfl)) ?_
 refine t_st (k := 4) (b := b_2) (off := 0) (cs := [.slice none 0 0, .slice none 0 0, I 0, I 0]) (vs := [u0_3, v_l, I b_First, I b_Last]) (cs' := [u0_3, v_l, I b_First, I b_Last]) (v := .agg #[u0_3, v_l, I b_First, I b_Last]) (L' := [cOwn (α := Raw 3) 43 v_l rw_l, cRo B_l, cOwn (α := Yr) 41 u0_3 r2, cBlk b_4 [u0_3, v_l, I b_First, I b_Last] 26, cBlk b_2 [u0_3, v_l, I b_First, I b_Last] 26, cBlk b_1 [v_b_Years, v_b_Olds, I b_First, I b_Last] 26]) H rfl rfl rfl Sz26 rfl rfl rfl (by simp only [List.all_cons, List.all_nil, Bool.true_and, Bool.and_true, Sl.oc (ownSl (H.get (k := 2) rfl)), Sl.oc (rowSl rfl (H.get (k := 0) rfl) (roLe _ (H.get (k := 1) rfl)) hr_l)]; try rfl) rfl rfl ?_
 intro w113z H
 refine s_nil ?_
 refine W.ret ?_
 have hb114z := (H.blk (k := 4) rfl)
 have hr_ := M.e_pure hM
 exact ⟨_, (resE_of1 (v := .agg #[u0_3, v_l, I b_First, I b_Last]) rfl (.cell (v := .agg #[u0_3, v_l, I b_First, I b_Last]) rfl (run_loadVar_ag (ds := [u0_3, v_l, I b_First, I b_Last]) Ag26 Sz26 hb114z rfl rfl) <| .nil)), ⟨r2, l, b_First, b_Last, u0_3, v_l, rw_l, B_l, hr_, rfl, (H.pick [2, 0, 1] (by decide) rfl), hr_l⟩⟩

def zaW (b_Years : List Yr) : (Nat × (List Yr)) -> M ((Nat × (List Yr)) ⊕ ((List Yr) × (List Yr))) := fun (i, l) =>
  bif decide ((i : Int) < (b_Years.length : Int)) then (
  M.grd (decide ((i : Int) < (b_Years.length : Int))) <|
  M.grd (decide ((l.length + ([(b_Years.getD i default)]).length) * 24 <= 140737488355328)) <|
  M.pure (.inl (i + 1, l ++ ([(b_Years.getD i default)]))))
  else (
  M.pure (.inr (l, l)))
def zbb (b_Olds : List Old10) : (Nat × (List Old10)) -> M ((Nat × (List Old10)) ⊕ ((List Old10) × (List Old10))) := fun (i2, l4) =>
  bif decide ((i2 : Int) < (b_Olds.length : Int)) then (
  M.grd (decide ((i2 : Int) < (b_Olds.length : Int))) <|
  M.grd (decide ((l4.length + ([(b_Olds.getD i2 default)]).length) * 48 <= 140737488355328)) <|
  M.pure (.inl (i2 + 1, l4 ++ ([(b_Olds.getD i2 default)]))))
  else (
  M.pure (.inr (l4, l4)))
def zbK (b_Years : List Yr) (b_Olds : List Old10) (b_First : Int) (b_Last : Int) : M ((List Yr) × (List Old10) × Int × Int) :=
  M.bind (M.iter (zaW b_Years) (0, [])) fun (l2, l3) =>
  M.bind (M.iter (zbb b_Olds) (0, [])) fun (l5, l6) =>
  M.pure (l3, l6, b_First, b_Last)
theorem zaf {R : List Chunk} {C_b_Years : Cells} {v_b_Years : Value} {C_b_Olds : Cells} {v_b_Olds : Value} (b_Years : List Yr) (b_Olds : List Old10) (b_First : Int) (b_Last : Int) (hC_b_Years : Reads R C_b_Years) (hs_b_Years : Sl C_b_Years v_b_Years b_Years) (hC_b_Olds : Reads R C_b_Olds) (hs_b_Olds : Sl C_b_Olds v_b_Olds b_Olds) {r : ((List Yr) × (List Old10) × Int × Int)} (hM : (zbK b_Years b_Olds b_First b_Last).Ends r) (w : World) (H : St w w [] R) : Ret Try.prog 22 #[.agg #[v_b_Years, v_b_Olds, I b_First, I b_Last]] w fun v w' => ∃ (y0 : List Yr) (y1 : List Old10) (y2 : Int) (y3 : Int) (u0 : Value) (u1 : Value) (rr2 : List (Raw 3)) (Bs3 : Base), (y0, y1, y2, y3) = r /\ v = .agg #[u0, u1, I y2, I y3] /\ St w w' [cOwn (α := Yr) 127 u0 y0, cOwn (α := Raw 3) 128 u1 rr2, cRo Bs3] R /\ RepR (α := Old10) (Cells.sup C_b_Olds Bs3.cells) rr2 y1 := by
 refine ret_of_W Try.func22 rfl rfl rfl ?_
 refine W.seq ?_
 refine W.region rfl ?_
 refine t_box (v := .agg #[v_b_Years, v_b_Olds, I b_First, I b_Last]) (cs := [v_b_Years, v_b_Olds, I b_First, I b_Last]) H rfl rfl ?_
 intro b_1 w1z H
 refine t_alloc (cs := [.slice none 0 0, .slice none 0 0, I 0, I 0]) H Al55 rfl ?_
 intro b_2 w2z H
 refine s_nil ?_
 refine W.seq ?_
 refine W.region rfl ?_
 refine s_val (x_fa (a := .pointer (some ⟨b_1, 0, none⟩)) (v := .pointer (some ⟨b_1, 2, none⟩)) rfl (fa_blk (o := 0) Fd26_2 Sz3)) ?_
 refine s_val (x_ld (p := .pointer (some ⟨b_1, 2, none⟩)) (v := I b_First) rfl (ldb_sc Sc3 (H.blk (k := 1) rfl) rfl)) ?_
 refine s_val (x_fa (a := .pointer (some ⟨b_1, 0, none⟩)) (v := .pointer (some ⟨b_1, 3, none⟩)) rfl (fa_blk (o := 0) Fd26_3 Sz3)) ?_
 refine s_val (x_ld (p := .pointer (some ⟨b_1, 3, none⟩)) (v := I b_Last) rfl (ldb_sc Sc3 (H.blk (k := 1) rfl) rfl)) ?_
 refine s_val (x_bld (ps := [(2, I b_First), (3, I b_Last)]) (zs := [.slice none 0 0, .slice none 0 0, I 0, I 0]) (L' := [.slice none 0 0, .slice none 0 0, I b_First, I b_Last]) rfl Try.underlying55 Al55 rfl (Bd55 Try.underlying55) (.cons (cs := [I b_First]) rfl rfl rfl rfl rfl <| .cons (cs := [I b_Last]) rfl rfl rfl rfl rfl <| .nil)) ?_
 refine t_alloc (cs := [.slice none 0 0, .slice none 0 0, I 0, I 0]) H Al55 rfl ?_
 intro b_3 w3z H
 refine t_st (k := 0) (b := b_3) (off := 0) (cs := [.slice none 0 0, .slice none 0 0, I 0, I 0]) (vs := [.slice none 0 0, .slice none 0 0, I b_First, I b_Last]) (cs' := [.slice none 0 0, .slice none 0 0, I b_First, I b_Last]) (v := .agg #[.slice none 0 0, .slice none 0 0, I b_First, I b_Last]) (L' := [cBlk b_3 [.slice none 0 0, .slice none 0 0, I b_First, I b_Last] 55, cBlk b_2 [.slice none 0 0, .slice none 0 0, I 0, I 0] 55, cBlk b_1 [v_b_Years, v_b_Olds, I b_First, I b_Last] 26]) H rfl rfl rfl Sz55 rfl rfl rfl rfl rfl rfl ?_
 intro w4z H
 refine s_nil ?_
 refine W.seq ?_
 refine W.seq ?_
 refine W.region rfl ?_
 refine s_val (x_as (v := I 0) rfl) ?_
 refine s_nil ?_
 refine W.block ?_
 replace H : St w w4z [cOwn (α := Yr) 127 (.slice none 0 0) ([]), cBlk b_3 [.slice none 0 0, .slice none 0 0, I b_First, I b_Last] 55, cBlk b_2 [.slice none 0 0, .slice none 0 0, I 0, I 0] 55, cBlk b_1 [v_b_Years, v_b_Olds, I b_First, I b_Last] 26] R := H.nilOwn (α := Yr) 127
 obtain ⟨ex5z, hi6z, hk7z⟩ := M.e_bind hM
 obtain ⟨m0_, hi6z⟩ := M.e_iter hi6z
 refine W.loop (fun m σ W => ∃ (i : Nat) (l : List Yr) (v_l : Value) (ρ : Env), σ = upds ρ [(1, .pointer (some ⟨b_1, 0, none⟩)), (2, .pointer (some ⟨b_2, 0, none⟩)), (3, .pointer (some ⟨b_3, 0, none⟩)), (4, I (i : Int))] /\ M.iterN (zaW b_Years) m (i, l) = some ex5z /\ St w W [cOwn (α := Yr) 127 v_l l, cBlk b_3 [v_l, .slice none 0 0, I b_First, I b_Last] 55, cBlk b_2 [.slice none 0 0, .slice none 0 0, I 0, I 0] 55, cBlk b_1 [v_b_Years, v_b_Olds, I b_First, I b_Last] 26] R) ?_ ?_
 ·exact ⟨_, 0, [], (.slice none 0 0), _, upds_of _ _ ⟨rfl, rfl, rfl, rfl, trivial⟩, hi6z, H⟩
 rintro m10z σ w8z ⟨i, l, v_l, ρ, rfl, hI9z, H⟩
 obtain ⟨m11z, lt12z, x13z, hM, hN14z⟩ := M.e_iterN hI9z
 simp only [zaW] at hM
 clear hI9z
 refine W.seq ?_
 refine W.seq ?_
 refine W.region rfl ?_
 refine s_val (x_mv (v := I (i : Int)) rfl) ?_
 refine s_val (x_fa (a := .pointer (some ⟨b_1, 0, none⟩)) (v := .pointer (some ⟨b_1, 0, none⟩)) rfl (fa_blk (o := 0) Fd26_0 Sz23)) ?_
 refine s_val (x_ld (p := .pointer (some ⟨b_1, 0, none⟩)) (v := v_b_Years) rfl (ldb_sc Sc23 (H.blk (k := 3) rfl) rfl)) ?_
 have hl15z := (hs_b_Years).len_le
 refine s_val (x_lenS T23.und rfl hs_b_Years) ?_
 refine s_val (x_cmp (kd := .i64) (a := (i : Int)) (b := (b_Years.length : Int)) (r := decide ((i : Int) < (b_Years.length : Int))) rfl rfl rfl) ?_
 refine s_nil ?_
 refine W.cond (decide ((i : Int) < (b_Years.length : Int))) rfl (fun c16z => ?_) (fun c16z => ?_)
 ·replace hM := M.e_t hM c16z
  simp only [decide_eq_true_eq, decide_eq_false_iff_not, beq_iff_eq, bne_iff_ne, beq_eq_false_iff_ne, bne_eq_false_iff_eq, ne_eq, Decidable.not_not] at c16z
  refine W.skip ?_
  refine W.seq ?_
  refine W.block ?_
  refine W.drawT (fun W => St w W [cBlk b_2 [.slice none 0 0, .slice none 0 0, I 0, I 0] 55, cBlk b_1 [v_b_Years, v_b_Olds, I b_First, I b_Last] 26] R) (.q 0 (.q 2 (.q 3 (.q 4 (.q 5 (.q 6 (.l2 1 (.l 7 (.l 8 (.q 9 (.l 10 .nil)))) 7 (.l 1 (.l 8 (.q 9 (.l 10 .nil))))))))))) mixed (by decide +kernel) rfl ?_
  intro w17z hx_
  replace H : St w w17z [cOwn (α := Yr) 127 v_l l, cBlk b_3 [v_l, .slice none 0 0, I b_First, I b_Last] 55, cBlk b_2 [.slice none 0 0, .slice none 0 0, I 0, I 0] 55, cBlk b_1 [v_b_Years, v_b_Olds, I b_First, I b_Last] 26] R := H.ext hx_
  clear hx_
  refine ⟨(H.pick [2, 3] (by decide) rfl), ?_⟩
  refine t_q rfl (fun w' H => x_fa (a := .pointer (some ⟨b_3, 0, none⟩)) (v := .pointer (some ⟨b_3, 0, none⟩)) rfl (fa_blk (o := 0) Fd55_0 Sz52)) ?_
  refine t_q rfl (fun w' H => x_fa (a := .pointer (some ⟨b_1, 0, none⟩)) (v := .pointer (some ⟨b_1, 0, none⟩)) rfl (fa_blk (o := 0) Fd26_0 Sz23)) ?_
  refine t_q rfl (fun w' H => x_ld (p := .pointer (some ⟨b_1, 0, none⟩)) (v := v_b_Years) rfl (ldb_sc Sc23 (H.blk (k := 1) rfl) rfl)) ?_
  refine t_q rfl (fun w' H => x_mv (v := I (i : Int)) rfl) ?_
  obtain ⟨sd18z, hM⟩ := M.e_grd hM
  simp only [Bool.and_eq_true, decide_eq_true_eq] at sd18z
  refine t_q rfl (fun w' H => x_ix (a := v_b_Years) (b := I (i : Int)) (v := vat v_b_Years 3 (Int.toNat (i : Int))) rfl rfl (Sl.ix (α := Yr) T23.und T23.size hs_b_Years (by omega) (by omega))) ?_
  refine t_q rfl (fun w' H => x_ld (p := vat v_b_Years 3 (Int.toNat (i : Int))) (v := .agg #[I ((b_Years.getD i default).year), I ((b_Years.getD i default).lo), I ((b_Years.getD i default).hi)]) rfl (ld_ag Ag41 Sz41 (At.mono (Yr_atA hs_b_Years (i := (i : Int)) (by omega) (by omega)) (hC_b_Years.at H)))) ?_
  obtain ⟨sd21z, hM⟩ := M.e_grd hM
  simp only [Bool.and_eq_true, decide_eq_true_eq] at sd21z
  refine t_l2 rfl rfl ?_ ?_
  ·skip
   refine s_val (x_ld (p := .pointer (some ⟨b_3, 0, none⟩)) (v := v_l) rfl (ldb_sc Sc52 (H.blk (k := 1) rfl) rfl)) ?_
   have hvc_q25z := Sl.cells (ownSl (H.get (k := 0) rfl))
   have hvo_q25z := Sl.oc (ownSl (H.get (k := 0) rfl))
   refine s_nil ⟨(H.pick [2, 3] (by decide) rfl), ?_⟩
   refine t_l rfl ?_
   refine t_bs (α := Yr) T52 [.agg #[I ((b_Years.getD i default).year), I ((b_Years.getD i default).lo), I ((b_Years.getD i default).hi)]] [(b_Years.getD i default)] H rfl (.cons rfl (Flat.rep_enc _ (b_Years.getD i default)) <| .nil) rfl rfl rfl ?_
   intro v26z w27z H
   have hvc_q28z := Sl.cells (ownSl (H.get (k := 0) rfl))
   have hvo_q28z := Sl.oc (ownSl (H.get (k := 0) rfl))
   refine s_nil ⟨(H.pick [3, 4] (by decide) rfl), ?_⟩
   refine t_l rfl ?_
   refine t_app (α := Yr) (k := 1) (l := l) (l2 := [(b_Years.getD i default)]) (l' := l ++ ([(b_Years.getD i default)])) (vy := v26z) T52 rfl H rfl rfl rfl (ownSl (H.get (k := 0) rfl)) (ownLe _ (H.get (k := 0) rfl)) (rfl) (by first | omega | (simp only [List.length_nil] at *; omega)) ?_
   intro v29z w30z H
   replace H : St w w30z [cOwn (α := Yr) 127 v26z ([(b_Years.getD i default)]), cOwn (α := Yr) 127 v29z (l ++ ([(b_Years.getD i default)])), cBlk b_3 [v_l, .slice none 0 0, I b_First, I b_Last] 55, cBlk b_2 [.slice none 0 0, .slice none 0 0, I 0, I 0] 55, cBlk b_1 [v_b_Years, v_b_Olds, I b_First, I b_Last] 26] R := H
   have hvc_q31z := Sl.cells (ownSl (H.get (k := 1) rfl))
   have hvo_q31z := Sl.oc (ownSl (H.get (k := 1) rfl))
   refine s_nil ⟨(H.pick [3, 4] (by decide) rfl), ?_⟩
   refine t_q rfl (fun w' H => x_fa (a := .pointer (some ⟨b_3, 0, none⟩)) (v := .pointer (some ⟨b_3, 0, none⟩)) rfl (fa_blk (o := 0) Fd55_0 Sz52)) ?_
   refine t_l rfl ?_
   refine t_st (k := 2) (b := b_3) (off := 0) (cs := [v_l, .slice none 0 0, I b_First, I b_Last]) (vs := [v29z]) (cs' := [v29z, .slice none 0 0, I b_First, I b_Last]) (v := v29z) (L' := [cOwn (α := Yr) 127 v26z ([(b_Years.getD i default)]), cOwn (α := Yr) 127 v29z (l ++ ([(b_Years.getD i default)])), cBlk b_3 [v29z, .slice none 0 0, I b_First, I b_Last] 55, cBlk b_2 [.slice none 0 0, .slice none 0 0, I 0, I 0] 55, cBlk b_1 [v_b_Years, v_b_Olds, I b_First, I b_Last] 26]) H rfl rfl rfl Sz52 (Sl.cells (ownSl (H.get (k := 1) rfl))) rfl rfl (by simp only [List.all_cons, List.all_nil, Bool.true_and, Bool.and_true, Sl.oc (ownSl (H.get (k := 1) rfl))]; try rfl) rfl rfl ?_
   intro w32z H
   refine s_nil ⟨(H.pick [3, 4] (by decide) rfl), ?_⟩
   refine t_nil ?_
   refine W.region rfl ?_
   refine s_val (x_mv (v := I (i : Int)) rfl) ?_
   refine s_val (x_ari (a := (i : Int)) (b := 1) (r := (i : Int) + 1) rfl rfl rfl (by omega)) ?_
   refine s_val (x_as (v := I ((i : Int) + 1)) rfl) ?_
   refine s_nil ?_
   exact ⟨m11z, lt12z, i + 1, l ++ ([(b_Years.getD i default)]), v29z, _, upds_of _ _ ⟨rfl, rfl, rfl, rfl, trivial⟩, M.e_inl hM hN14z, (H.pick [1, 2, 3, 4] (by decide) rfl)⟩
  skip
  refine t_bs (α := Yr) T52 [.agg #[I ((b_Years.getD i default).year), I ((b_Years.getD i default).lo), I ((b_Years.getD i default).hi)]] [(b_Years.getD i default)] H rfl (.cons rfl (Flat.rep_enc _ (b_Years.getD i default)) <| .nil) rfl rfl rfl ?_
  intro v33z w34z H
  have hvc_q35z := Sl.cells (ownSl (H.get (k := 0) rfl))
  have hvo_q35z := Sl.oc (ownSl (H.get (k := 0) rfl))
  have hvc_q36z := Sl.cells (ownSl (H.get (k := 1) rfl))
  have hvo_q36z := Sl.oc (ownSl (H.get (k := 1) rfl))
  refine s_nil ⟨(H.pick [3, 4] (by decide) rfl), ?_⟩
  refine t_l rfl ?_
  refine s_val (x_ld (p := .pointer (some ⟨b_3, 0, none⟩)) (v := v_l) rfl (ldb_sc Sc52 (H.blk (k := 2) rfl) rfl)) ?_
  refine s_nil ⟨(H.pick [3, 4] (by decide) rfl), ?_⟩
  refine t_l rfl ?_
  refine t_app (α := Yr) (k := 1) (l := l) (l2 := [(b_Years.getD i default)]) (l' := l ++ ([(b_Years.getD i default)])) (vy := v33z) T52 rfl H rfl rfl rfl (ownSl (H.get (k := 0) rfl)) (ownLe _ (H.get (k := 0) rfl)) (rfl) (by first | omega | (simp only [List.length_nil] at *; omega)) ?_
  intro v37z w38z H
  replace H : St w w38z [cOwn (α := Yr) 127 v33z ([(b_Years.getD i default)]), cOwn (α := Yr) 127 v37z (l ++ ([(b_Years.getD i default)])), cBlk b_3 [v_l, .slice none 0 0, I b_First, I b_Last] 55, cBlk b_2 [.slice none 0 0, .slice none 0 0, I 0, I 0] 55, cBlk b_1 [v_b_Years, v_b_Olds, I b_First, I b_Last] 26] R := H
  have hvc_q39z := Sl.cells (ownSl (H.get (k := 1) rfl))
  have hvo_q39z := Sl.oc (ownSl (H.get (k := 1) rfl))
  refine s_nil ⟨(H.pick [3, 4] (by decide) rfl), ?_⟩
  refine t_q rfl (fun w' H => x_fa (a := .pointer (some ⟨b_3, 0, none⟩)) (v := .pointer (some ⟨b_3, 0, none⟩)) rfl (fa_blk (o := 0) Fd55_0 Sz52)) ?_
  refine t_l rfl ?_
  refine t_st (k := 2) (b := b_3) (off := 0) (cs := [v_l, .slice none 0 0, I b_First, I b_Last]) (vs := [v37z]) (cs' := [v37z, .slice none 0 0, I b_First, I b_Last]) (v := v37z) (L' := [cOwn (α := Yr) 127 v33z ([(b_Years.getD i default)]), cOwn (α := Yr) 127 v37z (l ++ ([(b_Years.getD i default)])), cBlk b_3 [v37z, .slice none 0 0, I b_First, I b_Last] 55, cBlk b_2 [.slice none 0 0, .slice none 0 0, I 0, I 0] 55, cBlk b_1 [v_b_Years, v_b_Olds, I b_First, I b_Last] 26]) H rfl rfl rfl Sz52 (Sl.cells (ownSl (H.get (k := 1) rfl))) rfl rfl (by simp only [List.all_cons, List.all_nil, Bool.true_and, Bool.and_true, Sl.oc (ownSl (H.get (k := 1) rfl))]; try rfl) rfl rfl ?_
  intro w40z H
  refine s_nil ⟨(H.pick [3, 4] (by decide) rfl), ?_⟩
  refine t_nil ?_
  refine W.region rfl ?_
  refine s_val (x_mv (v := I (i : Int)) rfl) ?_
  refine s_val (x_ari (a := (i : Int)) (b := 1) (r := (i : Int) + 1) rfl rfl rfl (by omega)) ?_
  refine s_val (x_as (v := I ((i : Int) + 1)) rfl) ?_
  refine s_nil ?_
  exact ⟨m11z, lt12z, i + 1, l ++ ([(b_Years.getD i default)]), v37z, _, upds_of _ _ ⟨rfl, rfl, rfl, rfl, trivial⟩, M.e_inl hM hN14z, (H.pick [1, 2, 3, 4] (by decide) rfl)⟩
 replace hM := M.e_f hM c16z
 simp only [decide_eq_true_eq, decide_eq_false_iff_not, beq_iff_eq, bne_iff_ne, beq_eq_false_iff_ne, bne_eq_false_iff_eq, ne_eq, Decidable.not_not] at c16z
 refine W.exit ?_
 have hX41z := M.e_inr hM hN14z
 subst hX41z
 replace hM := hk7z
 try dsimp only at hM
 refine W.seq ?_
 refine W.seq ?_
 refine W.region rfl ?_
 refine s_val (x_as (v := I 0) rfl) ?_
 refine s_nil ?_
 refine W.block ?_
 obtain ⟨Bs_12, H⟩ := H.emptyE
 replace H : St w w8z [cOwn (α := Raw 3) 128 (.slice none 0 0) ([]), cRo Bs_12, cOwn (α := Yr) 127 v_l l, cBlk b_3 [v_l, .slice none 0 0, I b_First, I b_Last] 55, cBlk b_2 [.slice none 0 0, .slice none 0 0, I 0, I 0] 55, cBlk b_1 [v_b_Years, v_b_Olds, I b_First, I b_Last] 26] R := H.nilOwn (α := Raw 3) 128
 have hr42z : RepR (α := Old10) (n := 3) Bs_12.cells [] [] := .nil
 replace hr42z := hr42z.mono (Cells.sup_r (hC_b_Olds.at H) (roLe _ (H.get (k := 1) rfl)))
 obtain ⟨ex43z, hi44z, hk45z⟩ := M.e_bind hM
 obtain ⟨m0_, hi44z⟩ := M.e_iter hi44z
 refine W.loop (fun m σ W => ∃ (i2 : Nat) (l4 : List Old10) (v_l4 : Value) (rw_l4 : List (Raw 3)) (B_l4 : Base) (ρ : Env), σ = upds ρ [(1, .pointer (some ⟨b_1, 0, none⟩)), (2, .pointer (some ⟨b_2, 0, none⟩)), (3, .pointer (some ⟨b_3, 0, none⟩)), (5, I (i2 : Int))] /\ M.iterN (zbb b_Olds) m (i2, l4) = some ex43z /\ St w W [cOwn (α := Raw 3) 128 v_l4 rw_l4, cRo B_l4, cOwn (α := Yr) 127 v_l l, cBlk b_3 [v_l, v_l4, I b_First, I b_Last] 55, cBlk b_2 [.slice none 0 0, .slice none 0 0, I 0, I 0] 55, cBlk b_1 [v_b_Years, v_b_Olds, I b_First, I b_Last] 26] R /\ RepR (α := Old10) (Cells.sup C_b_Olds B_l4.cells) rw_l4 l4) ?_ ?_
 ·exact ⟨_, 0, [], (.slice none 0 0), [], Bs_12, _, upds_of _ _ ⟨rfl, rfl, rfl, rfl, trivial⟩, hi44z, H, hr42z⟩
 rintro m48z σ w46z ⟨i2, l4, v_l4, rw_l4, B_l4, ρ, rfl, hI47z, H, hr_l4⟩
 obtain ⟨m49z, lt50z, x51z, hM, hN52z⟩ := M.e_iterN hI47z
 simp only [zbb] at hM
 clear hI47z
 refine W.seq ?_
 refine W.seq ?_
 refine W.region rfl ?_
 refine s_val (x_mv (v := I (i2 : Int)) rfl) ?_
 refine s_val (x_fa (a := .pointer (some ⟨b_1, 0, none⟩)) (v := .pointer (some ⟨b_1, 1, none⟩)) rfl (fa_blk (o := 0) Fd26_1 Sz24)) ?_
 refine s_val (x_ld (p := .pointer (some ⟨b_1, 1, none⟩)) (v := v_b_Olds) rfl (ldb_sc Sc24 (H.blk (k := 5) rfl) rfl)) ?_
 have hl53z := (hs_b_Olds).len_le
 refine s_val (x_lenS T24.und rfl hs_b_Olds) ?_
 refine s_val (x_cmp (kd := .i64) (a := (i2 : Int)) (b := (b_Olds.length : Int)) (r := decide ((i2 : Int) < (b_Olds.length : Int))) rfl rfl rfl) ?_
 refine s_nil ?_
 refine W.cond (decide ((i2 : Int) < (b_Olds.length : Int))) rfl (fun c54z => ?_) (fun c54z => ?_)
 ·replace hM := M.e_t hM c54z
  simp only [decide_eq_true_eq, decide_eq_false_iff_not, beq_iff_eq, bne_iff_ne, beq_eq_false_iff_ne, bne_eq_false_iff_eq, ne_eq, Decidable.not_not] at c54z
  refine W.skip ?_
  refine W.seq ?_
  refine W.block ?_
  refine W.drawT (fun W => St w W [cRo B_l4, cOwn (α := Yr) 127 v_l l, cBlk b_2 [.slice none 0 0, .slice none 0 0, I 0, I 0] 55, cBlk b_1 [v_b_Years, v_b_Olds, I b_First, I b_Last] 26] R) (.q 0 (.q 2 (.q 3 (.q 4 (.q 5 (.q 6 (.l2 1 (.l 7 (.l 8 (.q 9 (.l 10 .nil)))) 7 (.l 1 (.l 8 (.q 9 (.l 10 .nil))))))))))) mixed (by decide +kernel) rfl ?_
  intro w55z hx_
  replace H : St w w55z [cOwn (α := Raw 3) 128 v_l4 rw_l4, cRo B_l4, cOwn (α := Yr) 127 v_l l, cBlk b_3 [v_l, v_l4, I b_First, I b_Last] 55, cBlk b_2 [.slice none 0 0, .slice none 0 0, I 0, I 0] 55, cBlk b_1 [v_b_Years, v_b_Olds, I b_First, I b_Last] 26] R := H.ext hx_
  clear hx_
  refine ⟨(H.pick [1, 2, 4, 5] (by decide) rfl), ?_⟩
  refine t_q rfl (fun w' H => x_fa (a := .pointer (some ⟨b_3, 0, none⟩)) (v := .pointer (some ⟨b_3, 1, none⟩)) rfl (fa_blk (o := 0) Fd55_1 Sz53)) ?_
  refine t_q rfl (fun w' H => x_fa (a := .pointer (some ⟨b_1, 0, none⟩)) (v := .pointer (some ⟨b_1, 1, none⟩)) rfl (fa_blk (o := 0) Fd26_1 Sz24)) ?_
  refine t_q rfl (fun w' H => x_ld (p := .pointer (some ⟨b_1, 1, none⟩)) (v := v_b_Olds) rfl (ldb_sc Sc24 (H.blk (k := 3) rfl) rfl)) ?_
  refine t_q rfl (fun w' H => x_mv (v := I (i2 : Int)) rfl) ?_
  obtain ⟨sd56z, hM⟩ := M.e_grd hM
  simp only [Bool.and_eq_true, decide_eq_true_eq] at sd56z
  refine t_q rfl (fun w' H => x_ix (a := v_b_Olds) (b := I (i2 : Int)) (v := vat v_b_Olds 4 (Int.toNat (i2 : Int))) rfl rfl (Sl.ix (α := Old10) T24.und T24.size hs_b_Olds (by omega) (by omega))) ?_
  obtain ⟨u57z, ha59z, hs58z⟩ := Old10_atA hs_b_Olds (i := (i2 : Int)) (by omega) (by omega)
  replace hs58z : Sl _ u57z (b_Olds.getD i2 default).passed := hs58z
  have hl_hs58z := hs58z.len_le
  refine t_q rfl (fun w' H => x_ld (p := vat v_b_Olds 4 (Int.toNat (i2 : Int))) (v := .agg #[I ((b_Olds.getD i2 default).src), I ((b_Olds.getD i2 default).dst), I ((b_Olds.getD i2 default).stage), u57z]) rfl (ld_ag Ag43 Sz43 (At.mono ha59z (hC_b_Olds.at H)))) ?_
  obtain ⟨sd65z, hM⟩ := M.e_grd hM
  simp only [Bool.and_eq_true, decide_eq_true_eq] at sd65z
  refine t_l2 rfl rfl ?_ ?_
  ·skip
   refine s_val (x_ld (p := .pointer (some ⟨b_3, 1, none⟩)) (v := v_l4) rfl (ldb_sc Sc53 (H.blk (k := 3) rfl) rfl)) ?_
   have hvc_q73z := Sl.cells (ownSl (H.get (k := 0) rfl))
   have hvo_q73z := Sl.oc (ownSl (H.get (k := 0) rfl))
   refine s_nil ⟨(H.pick [1, 2, 4, 5] (by decide) rfl), ?_⟩
   refine t_l rfl ?_
   obtain ⟨Bs_7, H⟩ := H.emptyE
   have hq74z := hs58z
   replace hq74z := hq74z.mono (Cells.sup_l _ Bs_7.cells)
   obtain ⟨rw75z, hrw_rw75z⟩ : ∃ r : Raw 3, r.cs = [I ((b_Olds.getD i2 default).src), I ((b_Olds.getD i2 default).dst), I ((b_Olds.getD i2 default).stage), u57z] := ⟨Raw.of [I ((b_Olds.getD i2 default).src), I ((b_Olds.getD i2 default).dst), I ((b_Olds.getD i2 default).stage), u57z] rfl (by simp only [List.all_cons, List.all_nil, Bool.true_and, Bool.and_true, Sl.oc hq74z]; try rfl), rfl⟩
   have hr76z : RepR (α := Old10) (Cells.sup C_b_Olds Bs_7.cells) [rw75z] [(b_Olds.getD i2 default)] := .cons (by rw [hrw_rw75z]; exact ⟨_, rfl, hq74z⟩) <| .nil
   refine t_bs (α := Raw 3) T53 [.agg #[I ((b_Olds.getD i2 default).src), I ((b_Olds.getD i2 default).dst), I ((b_Olds.getD i2 default).stage), u57z]] [rw75z] H rfl (.cons (by rw [show (Flat.enc rw75z : List Value) = rw75z.cs from rfl, hrw_rw75z]; rfl) (Flat.rep_enc _ _) <| .nil) rfl rfl rfl ?_
   intro v77z w78z H
   replace H : St w w78z [cOwn (α := Raw 3) 128 v77z ([rw75z]), cRo Bs_7, cOwn (α := Raw 3) 128 v_l4 rw_l4, cRo B_l4, cOwn (α := Yr) 127 v_l l, cBlk b_3 [v_l, v_l4, I b_First, I b_Last] 55, cBlk b_2 [.slice none 0 0, .slice none 0 0, I 0, I 0] 55, cBlk b_1 [v_b_Years, v_b_Olds, I b_First, I b_Last] 26] R := H
   have hvc_q79z := Sl.cells (ownSl (H.get (k := 0) rfl))
   have hvo_q79z := Sl.oc (ownSl (H.get (k := 0) rfl))
   refine s_nil ⟨(H.pick [3, 4, 6, 7] (by decide) rfl), ?_⟩
   refine t_l rfl ?_
   have hr80z := hr76z
   obtain ⟨Bs_11, H, le81z, le82z⟩ := H.joinE (i := 3) (j := 1) rfl rfl
   replace hr_l4 := hr_l4.mono (Cells.sup_mono le81z (hC_b_Olds.at H) (roLe _ (H.get (k := 0) rfl)))
   replace hr80z := hr80z.mono (Cells.sup_mono le82z (hC_b_Olds.at H) (roLe _ (H.get (k := 0) rfl)))
   have hr85z := hr_l4.app hr80z
   refine t_app (α := Raw 3) (k := 3) (l := rw_l4) (l2 := [rw75z]) (l' := rw_l4 ++ ([rw75z])) (vy := v77z) T53 rfl H rfl rfl rfl (ownSl (H.get (k := 1) rfl)) (ownLe _ (H.get (k := 1) rfl)) (rfl) (by have a_ := hr_l4.len; have b_ := hr80z.len; (try simp only [List.length_nil] at *); first | omega | (rw [a_, b_]; omega)) ?_
   intro v83z w84z H
   replace H : St w w84z [cRo Bs_11, cOwn (α := Raw 3) 128 v77z ([rw75z]), cRo Bs_7, cOwn (α := Raw 3) 128 v83z (rw_l4 ++ ([rw75z])), cRo B_l4, cOwn (α := Yr) 127 v_l l, cBlk b_3 [v_l, v_l4, I b_First, I b_Last] 55, cBlk b_2 [.slice none 0 0, .slice none 0 0, I 0, I 0] 55, cBlk b_1 [v_b_Years, v_b_Olds, I b_First, I b_Last] 26] R := H
   have hvc_q86z := Sl.cells (ownSl (H.get (k := 3) rfl))
   have hvo_q86z := Sl.oc (ownSl (H.get (k := 3) rfl))
   refine s_nil ⟨(H.pick [4, 5, 7, 8] (by decide) rfl), ?_⟩
   refine t_q rfl (fun w' H => x_fa (a := .pointer (some ⟨b_3, 0, none⟩)) (v := .pointer (some ⟨b_3, 1, none⟩)) rfl (fa_blk (o := 0) Fd55_1 Sz53)) ?_
   refine t_l rfl ?_
   refine t_st (k := 6) (b := b_3) (off := 1) (cs := [v_l, v_l4, I b_First, I b_Last]) (vs := [v83z]) (cs' := [v_l, v83z, I b_First, I b_Last]) (v := v83z) (L' := [cRo Bs_11, cOwn (α := Raw 3) 128 v77z ([rw75z]), cRo Bs_7, cOwn (α := Raw 3) 128 v83z (rw_l4 ++ ([rw75z])), cRo B_l4, cOwn (α := Yr) 127 v_l l, cBlk b_3 [v_l, v83z, I b_First, I b_Last] 55, cBlk b_2 [.slice none 0 0, .slice none 0 0, I 0, I 0] 55, cBlk b_1 [v_b_Years, v_b_Olds, I b_First, I b_Last] 26]) H rfl rfl rfl Sz53 (Sl.cells (rowSl rfl (H.get (k := 3) rfl) (Cells.sup_le (hC_b_Olds.at H) (roLe _ (H.get (k := 0) rfl))) hr85z)) rfl rfl (by simp only [List.all_cons, List.all_nil, Bool.true_and, Bool.and_true, Sl.oc (rowSl rfl (H.get (k := 3) rfl) (Cells.sup_le (hC_b_Olds.at H) (roLe _ (H.get (k := 0) rfl))) hr85z)]; try rfl) rfl rfl ?_
   intro w87z H
   refine s_nil ⟨(H.pick [4, 5, 7, 8] (by decide) rfl), ?_⟩
   refine t_nil ?_
   refine W.region rfl ?_
   refine s_val (x_mv (v := I (i2 : Int)) rfl) ?_
   refine s_val (x_ari (a := (i2 : Int)) (b := 1) (r := (i2 : Int) + 1) rfl rfl rfl (by omega)) ?_
   refine s_val (x_as (v := I ((i2 : Int) + 1)) rfl) ?_
   refine s_nil ?_
   exact ⟨m49z, lt50z, i2 + 1, l4 ++ ([(b_Olds.getD i2 default)]), v83z, rw_l4 ++ ([rw75z]), Bs_11, _, upds_of _ _ ⟨rfl, rfl, rfl, rfl, trivial⟩, M.e_inl hM hN52z, (H.pick [3, 0, 5, 6, 7, 8] (by decide) rfl), hr85z⟩
  skip
  obtain ⟨Bs_7, H⟩ := H.emptyE
  have hq88z := hs58z
  replace hq88z := hq88z.mono (Cells.sup_l _ Bs_7.cells)
  obtain ⟨rw89z, hrw_rw89z⟩ : ∃ r : Raw 3, r.cs = [I ((b_Olds.getD i2 default).src), I ((b_Olds.getD i2 default).dst), I ((b_Olds.getD i2 default).stage), u57z] := ⟨Raw.of [I ((b_Olds.getD i2 default).src), I ((b_Olds.getD i2 default).dst), I ((b_Olds.getD i2 default).stage), u57z] rfl (by simp only [List.all_cons, List.all_nil, Bool.true_and, Bool.and_true, Sl.oc hq88z]; try rfl), rfl⟩
  have hr90z : RepR (α := Old10) (Cells.sup C_b_Olds Bs_7.cells) [rw89z] [(b_Olds.getD i2 default)] := .cons (by rw [hrw_rw89z]; exact ⟨_, rfl, hq88z⟩) <| .nil
  refine t_bs (α := Raw 3) T53 [.agg #[I ((b_Olds.getD i2 default).src), I ((b_Olds.getD i2 default).dst), I ((b_Olds.getD i2 default).stage), u57z]] [rw89z] H rfl (.cons (by rw [show (Flat.enc rw89z : List Value) = rw89z.cs from rfl, hrw_rw89z]; rfl) (Flat.rep_enc _ _) <| .nil) rfl rfl rfl ?_
  intro v91z w92z H
  replace H : St w w92z [cOwn (α := Raw 3) 128 v91z ([rw89z]), cRo Bs_7, cOwn (α := Raw 3) 128 v_l4 rw_l4, cRo B_l4, cOwn (α := Yr) 127 v_l l, cBlk b_3 [v_l, v_l4, I b_First, I b_Last] 55, cBlk b_2 [.slice none 0 0, .slice none 0 0, I 0, I 0] 55, cBlk b_1 [v_b_Years, v_b_Olds, I b_First, I b_Last] 26] R := H
  have hvc_q93z := Sl.cells (ownSl (H.get (k := 0) rfl))
  have hvo_q93z := Sl.oc (ownSl (H.get (k := 0) rfl))
  have hvc_q94z := Sl.cells (ownSl (H.get (k := 2) rfl))
  have hvo_q94z := Sl.oc (ownSl (H.get (k := 2) rfl))
  refine s_nil ⟨(H.pick [3, 4, 6, 7] (by decide) rfl), ?_⟩
  refine t_l rfl ?_
  refine s_val (x_ld (p := .pointer (some ⟨b_3, 1, none⟩)) (v := v_l4) rfl (ldb_sc Sc53 (H.blk (k := 5) rfl) rfl)) ?_
  refine s_nil ⟨(H.pick [3, 4, 6, 7] (by decide) rfl), ?_⟩
  refine t_l rfl ?_
  have hr95z := hr90z
  obtain ⟨Bs_11, H, le96z, le97z⟩ := H.joinE (i := 3) (j := 1) rfl rfl
  replace hr_l4 := hr_l4.mono (Cells.sup_mono le96z (hC_b_Olds.at H) (roLe _ (H.get (k := 0) rfl)))
  replace hr95z := hr95z.mono (Cells.sup_mono le97z (hC_b_Olds.at H) (roLe _ (H.get (k := 0) rfl)))
  have hr100z := hr_l4.app hr95z
  refine t_app (α := Raw 3) (k := 3) (l := rw_l4) (l2 := [rw89z]) (l' := rw_l4 ++ ([rw89z])) (vy := v91z) T53 rfl H rfl rfl rfl (ownSl (H.get (k := 1) rfl)) (ownLe _ (H.get (k := 1) rfl)) (rfl) (by have a_ := hr_l4.len; have b_ := hr95z.len; (try simp only [List.length_nil] at *); first | omega | (rw [a_, b_]; omega)) ?_
  intro v98z w99z H
  replace H : St w w99z [cRo Bs_11, cOwn (α := Raw 3) 128 v91z ([rw89z]), cRo Bs_7, cOwn (α := Raw 3) 128 v98z (rw_l4 ++ ([rw89z])), cRo B_l4, cOwn (α := Yr) 127 v_l l, cBlk b_3 [v_l, v_l4, I b_First, I b_Last] 55, cBlk b_2 [.slice none 0 0, .slice none 0 0, I 0, I 0] 55, cBlk b_1 [v_b_Years, v_b_Olds, I b_First, I b_Last] 26] R := H
  have hvc_q101z := Sl.cells (ownSl (H.get (k := 3) rfl))
  have hvo_q101z := Sl.oc (ownSl (H.get (k := 3) rfl))
  refine s_nil ⟨(H.pick [4, 5, 7, 8] (by decide) rfl), ?_⟩
  refine t_q rfl (fun w' H => x_fa (a := .pointer (some ⟨b_3, 0, none⟩)) (v := .pointer (some ⟨b_3, 1, none⟩)) rfl (fa_blk (o := 0) Fd55_1 Sz53)) ?_
  refine t_l rfl ?_
  refine t_st (k := 6) (b := b_3) (off := 1) (cs := [v_l, v_l4, I b_First, I b_Last]) (vs := [v98z]) (cs' := [v_l, v98z, I b_First, I b_Last]) (v := v98z) (L' := [cRo Bs_11, cOwn (α := Raw 3) 128 v91z ([rw89z]), cRo Bs_7, cOwn (α := Raw 3) 128 v98z (rw_l4 ++ ([rw89z])), cRo B_l4, cOwn (α := Yr) 127 v_l l, cBlk b_3 [v_l, v98z, I b_First, I b_Last] 55, cBlk b_2 [.slice none 0 0, .slice none 0 0, I 0, I 0] 55, cBlk b_1 [v_b_Years, v_b_Olds, I b_First, I b_Last] 26]) H rfl rfl rfl Sz53 (Sl.cells (rowSl rfl (H.get (k := 3) rfl) (Cells.sup_le (hC_b_Olds.at H) (roLe _ (H.get (k := 0) rfl))) hr100z)) rfl rfl (by simp only [List.all_cons, List.all_nil, Bool.true_and, Bool.and_true, Sl.oc (rowSl rfl (H.get (k := 3) rfl) (Cells.sup_le (hC_b_Olds.at H) (roLe _ (H.get (k := 0) rfl))) hr100z)]; try rfl) rfl rfl ?_
  intro w102z H
  refine s_nil ⟨(H.pick [4, 5, 7, 8] (by decide) rfl), ?_⟩
  refine t_nil ?_
  refine W.region rfl ?_
  refine s_val (x_mv (v := I (i2 : Int)) rfl) ?_
  refine s_val (x_ari (a := (i2 : Int)) (b := 1) (r := (i2 : Int) + 1) rfl rfl rfl (by omega)) ?_
  refine s_val (x_as (v := I ((i2 : Int) + 1)) rfl) ?_
  refine s_nil ?_
  exact ⟨m49z, lt50z, i2 + 1, l4 ++ ([(b_Olds.getD i2 default)]), v98z, rw_l4 ++ ([rw89z]), Bs_11, _, upds_of _ _ ⟨rfl, rfl, rfl, rfl, trivial⟩, M.e_inl hM hN52z, (H.pick [3, 0, 5, 6, 7, 8] (by decide) rfl), hr100z⟩
 replace hM := M.e_f hM c54z
 simp only [decide_eq_true_eq, decide_eq_false_iff_not, beq_iff_eq, bne_iff_ne, beq_eq_false_iff_ne, bne_eq_false_iff_eq, ne_eq, Decidable.not_not] at c54z
 refine W.exit ?_
 have hX103z := M.e_inr hM hN52z
 subst hX103z
 replace hM := hk45z
 try dsimp only at hM
 refine W.seq ?_
 refine W.region rfl ?_
 refine s_val (x_ld (p := .pointer (some ⟨b_3, 0, none⟩)) (v := .agg #[v_l, v_l4, I b_First, I b_Last]) rfl (ldb_ag (ds := [v_l, v_l4, I b_First, I b_Last]) Ag55 Sz55 (H.blk (k := 3) rfl) rfl rfl)) ?_
 refine t_st (k := 4) (b := b_2) (off := 0) (cs := [.slice none 0 0, .slice none 0 0, I 0, I 0]) (vs := [v_l, v_l4, I b_First, I b_Last]) (cs' := [v_l, v_l4, I b_First, I b_Last]) (v := .agg #[v_l, v_l4, I b_First, I b_Last]) (L' := [cOwn (α := Raw 3) 128 v_l4 rw_l4, cRo B_l4, cOwn (α := Yr) 127 v_l l, cBlk b_3 [v_l, v_l4, I b_First, I b_Last] 55, cBlk b_2 [v_l, v_l4, I b_First, I b_Last] 55, cBlk b_1 [v_b_Years, v_b_Olds, I b_First, I b_Last] 26]) H rfl rfl rfl Sz55 rfl rfl rfl (by simp only [List.all_cons, List.all_nil, Bool.true_and, Bool.and_true, Sl.oc (ownSl (H.get (k := 2) rfl)), Sl.oc (rowSl rfl (H.get (k := 0) rfl) (Cells.sup_le (hC_b_Olds.at H) (roLe _ (H.get (k := 1) rfl))) hr_l4)]; try rfl) rfl rfl ?_
 intro w104z H
 refine s_nil ?_
 refine W.ret ?_
 have hb105z := (H.blk (k := 4) rfl)
 have hr_ := M.e_pure hM
 exact ⟨_, (resE_of1 (v := .agg #[v_l, v_l4, I b_First, I b_Last]) rfl (.cell (v := .agg #[v_l, v_l4, I b_First, I b_Last]) rfl (run_loadVar_ag (ds := [v_l, v_l4, I b_First, I b_Last]) Ag55 Sz55 hb105z rfl rfl) <| .nil)), ⟨l, l4, b_First, b_Last, v_l, v_l4, rw_l4, B_l4, hr_, rfl, (H.pick [2, 0, 1] (by decide) rfl), hr_l4⟩⟩

def zaM (l : List Int) (a : Int) (b : Int) : Nat -> M (Nat ⊕ (Unit ⊕ Unit)) := fun i =>
  bif decide ((i : Int) < (l.length : Int)) then (
  M.grd (decide ((i : Int) < (l.length : Int))) <|
  M.bind (zac (l.getD i 0) a b) fun r2 =>
  M.grd ((!((!r2) && (decide (0 < (i : Int)))) || (decide ((-9223372036854775808 : Int) <= ((i : Int) - 1)) && decide (((i : Int) - 1) <= (9223372036854775807 : Int))))) <|
  M.grd ((!((!r2) && (decide (0 < (i : Int)))) || (decide ((0 : Int) <= ((i : Int) - 1)) && decide (((i : Int) - 1) < (l.length : Int))))) <|
  bif (r2 || ((decide (0 < (i : Int))) && (decide ((l.getD i 0) <= (l.getD (Int.toNat ((i : Int) - 1)) 0))))) then (
  M.pure (.inr (.inl ())))
  else (
  M.pure (.inl (i + 1))))
  else (
  M.pure (.inr (.inr ())))
def zbB (l : List Int) (a : Int) (b : Int) : M Bool :=
  M.bind (M.iter (zaM l a b) 0) fun x_ => match x_ with
  | (.inl (_ : Unit)) => (
  M.pure true)
  | (.inr (_ : Unit)) => (
  M.pure false)
theorem zcT {R : List Chunk} {C_l : Cells} {v_l : Value} (l : List Int) (a : Int) (b : Int) (hC_l : Reads R C_l) (hs_l : Sl C_l v_l l) {r : Bool} (hM : (zbB l a b).Ends r) (w : World) (H : St w w [] R) : Ret Try.prog 89 #[v_l, I a, I b] w fun v w' => ∃ (y0 : Bool), y0 = r /\ v = B y0 /\ St w w' [] R := by
 refine ret_of_W Try.func89 rfl rfl rfl ?_
 refine W.seq ?_
 refine W.region rfl ?_
 refine s_val (x_as (v := B false) rfl) ?_
 refine s_nil ?_
 refine W.seq ?_
 refine W.seq ?_
 refine W.region rfl ?_
 refine s_val (x_as (v := I 0) rfl) ?_
 refine s_nil ?_
 refine W.block ?_
 obtain ⟨ex1z, hi2z, hk3z⟩ := M.e_bind hM
 obtain ⟨m0_, hi2z⟩ := M.e_iter hi2z
 refine W.loop (fun m σ W => ∃ (i : Nat) (ρ : Env), σ = upds ρ [(0, v_l), (1, I a), (2, I b), (7, I (i : Int))] /\ M.iterN (zaM l a b) m i = some ex1z /\ St w W [] R) ?_ ?_
 ·exact ⟨_, 0, _, upds_of _ _ ⟨rfl, rfl, rfl, rfl, trivial⟩, hi2z, H⟩
 rintro m6z σ w4z ⟨i, ρ, rfl, hI5z, H⟩
 obtain ⟨m7z, lt8z, x9z, hM, hN10z⟩ := M.e_iterN hI5z
 simp only [zaM] at hM
 clear hI5z
 refine W.seq ?_
 refine W.seq ?_
 refine W.region rfl ?_
 refine s_val (x_mv (v := I (i : Int)) rfl) ?_
 refine s_val (x_mv (v := v_l) rfl) ?_
 have hl11z := (hs_l).len_le
 refine s_val (x_lenS T27.und rfl hs_l) ?_
 refine s_val (x_cmp (kd := .i64) (a := (i : Int)) (b := (l.length : Int)) (r := decide ((i : Int) < (l.length : Int))) rfl rfl rfl) ?_
 refine s_nil ?_
 refine W.cond (decide ((i : Int) < (l.length : Int))) rfl (fun c12z => ?_) (fun c12z => ?_)
 ·replace hM := M.e_t hM c12z
  simp only [decide_eq_true_eq, decide_eq_false_iff_not, beq_iff_eq, bne_iff_ne, beq_eq_false_iff_ne, bne_eq_false_iff_eq, ne_eq, Decidable.not_not] at c12z
  refine W.skip ?_
  refine W.seq ?_
  refine W.block ?_
  refine W.seq ?_
  refine W.draw (fun W => St w W [] R) [(0, true), (1, true), (2, true), (3, true), (4, true), (5, true), (6, false), (7, true), (8, true), (9, true), (10, true), (11, true), (12, true), (13, true), (14, true), (15, true), (16, true), (17, true), (18, true), (19, true), (20, true), (21, true), (22, true)] mixed (by decide +kernel) rfl ?_
  intro w13z hx_
  replace H : St w w13z [] R := H.ext hx_
  clear hx_
  refine ⟨(H.pick [] (by decide) rfl), ?_⟩
  refine d_q rfl (fun w' H => x_mv (v := v_l) rfl) ?_
  refine d_q rfl (fun w' H => x_mv (v := I (i : Int)) rfl) ?_
  obtain ⟨sd14z, hM⟩ := M.e_grd hM
  simp only [Bool.and_eq_true, decide_eq_true_eq] at sd14z
  refine d_q rfl (fun w' H => x_ix (a := v_l) (b := I (i : Int)) (v := vat v_l 1 (Int.toNat (i : Int))) rfl rfl (Sl.ix (α := Int) T27.und T27.size hs_l (by omega) (by omega))) ?_
  refine d_q rfl (fun w' H => x_ld (p := vat v_l 1 (Int.toNat (i : Int))) (v := I (l.getD i 0)) rfl (ld_sc Sc3 (At.mono (Int_at hs_l (i := (i : Int)) (by omega) (by omega)) (hC_l.at H)))) ?_
  refine d_q rfl (fun w' H => x_mv (v := I a) rfl) ?_
  refine d_q rfl (fun w' H => x_mv (v := I b) rfl) ?_
  refine d_l rfl ?_
  obtain ⟨r16z, hx15z, hM⟩ := M.e_bind hM
  refine s_call cf67 [I (l.getD i 0), I a, I b] rfl (zae (l.getD i 0) a b hx15z _ (St.give (T := []) H rfl)) ?_
  rintro vq w17z ⟨r2, hr18z, hvq, H2_⟩
  subst hr18z
  subst vq
  try dsimp only at hM
  replace H : St w w17z [] R := H.back H2_ rfl
  clear H2_
  refine s_nil ⟨(H.pick [] (by decide) rfl), ?_⟩
  refine d_q rfl (fun w' H => x_mv (v := B r2) rfl) ?_
  refine d_qg (!r2) rfl (gy_f rfl) (fun hg => (fun w' H => x_mv (v := I (i : Int)) rfl)) ?_
  refine d_qg (!r2) rfl (gy_f rfl) (fun hg => (fun w' H => x_cmp (kd := .i64) (a := (i : Int)) (b := 0) (r := decide (0 < (i : Int))) (gd_of (c := !r2) hg (I (i : Int))) rfl rfl)) ?_
  refine d_qg (!r2) rfl (gy_f rfl) (fun hg => (fun w' H => x_mv (v := B (decide (0 < (i : Int)))) (gd_of (c := !r2) hg (B (decide (0 < (i : Int))))))) ?_
  refine d_qg ((!r2) && (decide (0 < (i : Int)))) rfl (gy_gt rfl rfl) (fun hg => (fun w' H => x_mv (v := v_l) rfl)) ?_
  refine d_qg ((!r2) && (decide (0 < (i : Int)))) rfl (gy_gt rfl rfl) (fun hg => (fun w' H => x_mv (v := I (i : Int)) rfl)) ?_
  refine d_qg ((!r2) && (decide (0 < (i : Int)))) rfl (gy_gt rfl rfl) (fun hg => (fun w' H => x_ix (a := v_l) (b := I (i : Int)) (v := vat v_l 1 (Int.toNat (i : Int))) (gd_of (c := ((!r2) && (decide (0 < (i : Int))))) hg (v_l)) (gd_of (c := ((!r2) && (decide (0 < (i : Int))))) hg (I (i : Int))) (Sl.ix (α := Int) T27.und T27.size hs_l (by first | omega | (have hx_ := hg; simp at hx_; omega)) (by first | omega | (have hx_ := hg; simp at hx_; omega))))) ?_
  refine d_qg ((!r2) && (decide (0 < (i : Int)))) rfl (gy_gt rfl rfl) (fun hg => (fun w' H => x_ld (p := vat v_l 1 (Int.toNat (i : Int))) (v := I (l.getD i 0)) (gd_of (c := ((!r2) && (decide (0 < (i : Int))))) hg (vat v_l 1 (Int.toNat (i : Int)))) (ld_sc Sc3 (At.mono (Int_at hs_l (i := (i : Int)) (by first | omega | (have hx_ := hg; simp at hx_; omega)) (by first | omega | (have hx_ := hg; simp at hx_; omega))) (hC_l.at H))))) ?_
  refine d_qg ((!r2) && (decide (0 < (i : Int)))) rfl (gy_gt rfl rfl) (fun hg => (fun w' H => x_mv (v := v_l) rfl)) ?_
  refine d_qg ((!r2) && (decide (0 < (i : Int)))) rfl (gy_gt rfl rfl) (fun hg => (fun w' H => x_mv (v := I (i : Int)) rfl)) ?_
  obtain ⟨sd19z, hM⟩ := M.e_grd hM
  replace sd19z := M.imp_of sd19z
  simp only [Bool.and_eq_true, decide_eq_true_eq] at sd19z
  refine d_qg ((!r2) && (decide (0 < (i : Int)))) rfl (gy_gt rfl rfl) (fun hg => (fun w' H => x_ari (a := (i : Int)) (b := 1) (r := (i : Int) - 1) (gd_of (c := ((!r2) && (decide (0 < (i : Int))))) hg (I (i : Int))) rfl rfl (by have h1_ := sd19z.resolve_left (by rw [hg]; decide); first | exact h1_ | exact h1_.1 | exact h1_.2 | omega | (have hx_ := hg; simp at hx_; omega)))) ?_
  obtain ⟨sd20z, hM⟩ := M.e_grd hM
  replace sd20z := M.imp_of sd20z
  simp only [Bool.and_eq_true, decide_eq_true_eq] at sd20z
  refine d_qg ((!r2) && (decide (0 < (i : Int)))) rfl (gy_gt rfl rfl) (fun hg => (fun w' H => x_ix (a := v_l) (b := I ((i : Int) - 1)) (v := vat v_l 1 (Int.toNat ((i : Int) - 1))) (gd_of (c := ((!r2) && (decide (0 < (i : Int))))) hg (v_l)) (gd_of (c := ((!r2) && (decide (0 < (i : Int))))) hg (I ((i : Int) - 1))) (Sl.ix (α := Int) T27.und T27.size hs_l (by have h1_ := sd19z.resolve_left (by rw [hg]; decide); have h2_ := sd20z.resolve_left (by rw [hg]; decide); first | exact h1_ | exact h1_.1 | exact h1_.2 | exact h2_ | exact h2_.1 | exact h2_.2 | omega | (have hx_ := hg; simp at hx_; omega)) (by have h1_ := sd19z.resolve_left (by rw [hg]; decide); have h2_ := sd20z.resolve_left (by rw [hg]; decide); first | exact h1_ | exact h1_.1 | exact h1_.2 | exact h2_ | exact h2_.1 | exact h2_.2 | omega | (have hx_ := hg; simp at hx_; omega))))) ?_
  refine d_qg ((!r2) && (decide (0 < (i : Int)))) rfl (gy_gt rfl rfl) (fun hg => (fun w' H => x_ld (p := vat v_l 1 (Int.toNat ((i : Int) - 1))) (v := I (l.getD (Int.toNat ((i : Int) - 1)) 0)) (gd_of (c := ((!r2) && (decide (0 < (i : Int))))) hg (vat v_l 1 (Int.toNat ((i : Int) - 1)))) (ld_sc Sc3 (At.mono (Int_at hs_l (i := (i : Int) - 1) (by have h1_ := sd19z.resolve_left (by rw [hg]; decide); have h2_ := sd20z.resolve_left (by rw [hg]; decide); first | exact h1_ | exact h1_.1 | exact h1_.2 | exact h2_ | exact h2_.1 | exact h2_.2 | omega | (have hx_ := hg; simp at hx_; omega)) (by have h1_ := sd19z.resolve_left (by rw [hg]; decide); have h2_ := sd20z.resolve_left (by rw [hg]; decide); first | exact h1_ | exact h1_.1 | exact h1_.2 | exact h2_ | exact h2_.1 | exact h2_.2 | omega | (have hx_ := hg; simp at hx_; omega))) (hC_l.at H))))) ?_
  refine d_qg ((!r2) && (decide (0 < (i : Int)))) rfl (gy_gt rfl rfl) (fun hg => (fun w' H => x_cmp (kd := .i64) (a := l.getD i 0) (b := l.getD (Int.toNat ((i : Int) - 1)) 0) (r := decide ((l.getD i 0) <= (l.getD (Int.toNat ((i : Int) - 1)) 0))) (gd_of (c := ((!r2) && (decide (0 < (i : Int))))) hg (I (l.getD i 0))) (gd_of (c := ((!r2) && (decide (0 < (i : Int))))) hg (I (l.getD (Int.toNat ((i : Int) - 1)) 0))) rfl)) ?_
  refine d_qg (!r2) rfl (gy_f rfl) (fun hg => (fun w' H => x_pand (b := decide (0 < (i : Int))) (r := decide ((l.getD i 0) <= (l.getD (Int.toNat ((i : Int) - 1)) 0))) (gd_of (c := !r2) hg (B (decide (0 < (i : Int))))) (fun hb => gd_of (c := ((!r2) && (decide (0 < (i : Int))))) (by first | exact hb | (rw [hb]; rfl) | simp_all) (B (decide ((l.getD i 0) <= (l.getD (Int.toNat ((i : Int) - 1)) 0))))) rfl)) ?_
  refine d_q rfl (fun w' H => x_por (b := r2) (r := ((decide (0 < (i : Int))) && (decide ((l.getD i 0) <= (l.getD (Int.toNat ((i : Int) - 1)) 0))))) rfl rfl (fun hb => gd_of (c := !r2) (by first | exact hb | (rw [hb]; rfl) | simp_all) (B ((decide (0 < (i : Int))) && (decide ((l.getD i 0) <= (l.getD (Int.toNat ((i : Int) - 1)) 0))))))) ?_
  refine d_nil ?_
  refine W.cond (r2 || ((decide (0 < (i : Int))) && (decide ((l.getD i 0) <= (l.getD (Int.toNat ((i : Int) - 1)) 0))))) rfl (fun c21z => ?_) (fun c21z => ?_)
  ·replace hM := M.e_t hM c21z
   refine W.seq ?_
   refine W.region rfl ?_
   refine s_val (x_as (v := B true) rfl) ?_
   refine s_nil ?_
   refine W.ret ?_
   have hX22z := M.e_inr hM hN10z
   subst hX22z
   replace hM := hk3z
   try dsimp only at hM
   have hr_ := M.e_pure hM
   exact ⟨_, resE_tmp rfl, ⟨true, hr_, rfl, H⟩⟩
  replace hM := M.e_f hM c21z
  refine W.skip ?_
  refine W.region rfl ?_
  refine s_val (x_mv (v := I (i : Int)) rfl) ?_
  refine s_val (x_ari (a := (i : Int)) (b := 1) (r := (i : Int) + 1) rfl rfl rfl (by omega)) ?_
  refine s_val (x_as (v := I ((i : Int) + 1)) rfl) ?_
  refine s_nil ?_
  exact ⟨m7z, lt8z, i + 1, _, upds_of _ _ ⟨rfl, rfl, rfl, rfl, trivial⟩, M.e_inl hM hN10z, H⟩
 replace hM := M.e_f hM c12z
 simp only [decide_eq_true_eq, decide_eq_false_iff_not, beq_iff_eq, bne_iff_ne, beq_eq_false_iff_ne, bne_eq_false_iff_eq, ne_eq, Decidable.not_not] at c12z
 refine W.exit ?_
 have hX23z := M.e_inr hM hN10z
 subst hX23z
 replace hM := hk3z
 try dsimp only at hM
 refine W.seq ?_
 refine W.region rfl ?_
 refine s_val (x_as (v := B false) rfl) ?_
 refine s_nil ?_
 refine W.ret ?_
 have hr_ := M.e_pure hM
 exact ⟨_, resE_tmp rfl, ⟨false, hr_, rfl, H⟩⟩

def zar (b_Olds : List Old10) : Nat -> M (Nat ⊕ (Unit ⊕ Unit)) := fun i =>
  bif decide ((i : Int) < (b_Olds.length : Int)) then (
  M.grd (decide ((i : Int) < (b_Olds.length : Int))) <|
  bif decide (10 < (((b_Olds.getD i default).passed).length : Int)) then (
  M.pure (.inr (.inl ())))
  else (
  M.pure (.inl (i + 1))))
  else (
  M.pure (.inr (.inr ())))
def zaI (b_Years : List Yr) (b_First : Int) (b_Last : Int) : Nat -> M (Nat ⊕ (Int ⊕ Unit)) := fun i2 =>
  bif decide ((i2 : Int) < (b_Years.length : Int)) then (
  M.grd (decide ((i2 : Int) < (b_Years.length : Int))) <|
  M.bind (zac ((b_Years.getD i2 default).year) b_First b_Last) fun r4 =>
  bif (((r4 || (decide (((b_Years.getD i2 default).lo) < 0))) || (decide (2000 < ((b_Years.getD i2 default).hi)))) || (decide (((b_Years.getD i2 default).hi) < ((b_Years.getD i2 default).lo)))) then (
  M.pure (.inr (.inl 110)))
  else (
  M.grd ((!(decide (0 < (i2 : Int))) || (decide ((-9223372036854775808 : Int) <= ((i2 : Int) - 1)) && decide (((i2 : Int) - 1) <= (9223372036854775807 : Int))))) <|
  M.grd ((!(decide (0 < (i2 : Int))) || (decide ((0 : Int) <= ((i2 : Int) - 1)) && decide (((i2 : Int) - 1) < (b_Years.length : Int))))) <|
  bif ((decide (0 < (i2 : Int))) && (decide (((b_Years.getD i2 default).year) <= ((b_Years.getD (Int.toNat ((i2 : Int) - 1)) default).year)))) then (
  M.pure (.inr (.inl 9)))
  else (
  M.pure (.inl (i2 + 1)))))
  else (
  M.pure (.inr (.inr ())))
def zaJ (b_Olds : List Old10) (b_First : Int) (b_Last : Int) : Nat -> M (Nat ⊕ (Unit ⊕ Unit)) := fun i3 =>
  bif decide ((i3 : Int) < (b_Olds.length : Int)) then (
  M.grd (decide ((i3 : Int) < (b_Olds.length : Int))) <|
  M.bind (zac ((b_Olds.getD i3 default).src) b_First b_Last) fun r5 =>
  M.bind (M.opt (!r5) (zac ((b_Olds.getD i3 default).dst) b_First b_Last) false) fun r6 =>
  M.bind (M.opt (!((r5 || r6) || (decide (((b_Olds.getD i3 default).dst) < ((b_Olds.getD i3 default).src))))) (zac ((b_Olds.getD i3 default).stage) 1 2000) false) fun r7 =>
  M.bind (M.opt (!(((r5 || r6) || (decide (((b_Olds.getD i3 default).dst) < ((b_Olds.getD i3 default).src)))) || r7)) (zbB ((b_Olds.getD i3 default).passed) ((b_Olds.getD i3 default).src) ((b_Olds.getD i3 default).dst)) false) fun r8 =>
  bif ((((r5 || r6) || (decide (((b_Olds.getD i3 default).dst) < ((b_Olds.getD i3 default).src)))) || r7) || r8) then (
  M.pure (.inr (.inl ())))
  else (
  M.pure (.inl (i3 + 1))))
  else (
  M.pure (.inr (.inr ())))
def za4 (b_Years : List Yr) (b_Olds : List Old10) (b_First : Int) (b_Last : Int) : M Int :=
  M.bind (zac b_First 0 3000) fun r2 =>
  M.bind (M.opt (!r2) (zac b_Last 0 3000) false) fun r3 =>
  M.grd ((!(!((r2 || r3) || (decide (b_Last < b_First)))) || (decide ((-9223372036854775808 : Int) <= (b_Last - b_First)) && decide ((b_Last - b_First) <= (9223372036854775807 : Int))))) <|
  bif (((r2 || r3) || (decide (b_Last < b_First))) || (decide (999 < (b_Last - b_First)))) then (
  M.pure 110)
  else (
  bif ((decide (60 < (b_Years.length : Int))) || (decide (8 < (b_Olds.length : Int)))) then (
  M.pure 3)
  else (
  M.bind (M.iter (zar b_Olds) 0) fun x_ => match x_ with
  | (.inl (_ : Unit)) => (
  M.pure 3)
  | (.inr (_ : Unit)) => (
  M.bind (M.iter (zaI b_Years b_First b_Last) 0) fun x_ => match x_ with
  | (.inl s) => (
  M.pure s)
  | (.inr (_ : Unit)) => (
  M.bind (M.iter (zaJ b_Olds b_First b_Last) 0) fun x_ => match x_ with
  | (.inl (_ : Unit)) => (
  M.pure 110)
  | (.inr (_ : Unit)) => (
  M.pure 0)))))
theorem zcv {R : List Chunk} {C_b_Years : Cells} {v_b_Years : Value} {C_b_Olds : Cells} {v_b_Olds : Value} (b_Years : List Yr) (b_Olds : List Old10) (b_First : Int) (b_Last : Int) (hC_b_Years : Reads R C_b_Years) (hs_b_Years : Sl C_b_Years v_b_Years b_Years) (hC_b_Olds : Reads R C_b_Olds) (hs_b_Olds : Sl C_b_Olds v_b_Olds b_Olds) {r : Int} (hM : (za4 b_Years b_Olds b_First b_Last).Ends r) (w : World) (H : St w w [] R) : Ret Try.prog 48 #[.agg #[v_b_Years, v_b_Olds, I b_First, I b_Last]] w fun v w' => ∃ (y0 : Int), y0 = r /\ v = I y0 /\ St w w' [] R := by
 refine ret_of_W Try.func48 rfl rfl rfl ?_
 refine W.seq ?_
 refine W.region rfl ?_
 refine t_box (v := .agg #[v_b_Years, v_b_Olds, I b_First, I b_Last]) (cs := [v_b_Years, v_b_Olds, I b_First, I b_Last]) H rfl rfl ?_
 intro b_1 w1z H
 refine s_val (x_as (v := I 0) rfl) ?_
 refine s_nil ?_
 refine W.seq ?_
 refine W.seq ?_
 refine W.region rfl ?_
 refine s_val (x_fa (a := .pointer (some ⟨b_1, 0, none⟩)) (v := .pointer (some ⟨b_1, 2, none⟩)) rfl (fa_blk (o := 0) Fd55_2 Sz3)) ?_
 refine s_val (x_ld (p := .pointer (some ⟨b_1, 2, none⟩)) (v := I b_First) rfl (ldb_sc Sc3 (H.blk (k := 0) rfl) rfl)) ?_
 obtain ⟨r3z, hx2z, hM⟩ := M.e_bind hM
 refine s_call cf67 [I b_First, I 0, I 3000] rfl (zae b_First 0 3000 hx2z _ (St.give (T := [cBlk b_1 [v_b_Years, v_b_Olds, I b_First, I b_Last] 55]) H rfl)) ?_
 rintro vq w4z ⟨r2, hr5z, hvq, H2_⟩
 subst hr5z
 subst vq
 try dsimp only at hM
 replace H : St w w4z [cBlk b_1 [v_b_Years, v_b_Olds, I b_First, I b_Last] 55] R := H.back H2_ rfl
 clear H2_
 refine s_val (x_mv (v := B r2) rfl) ?_
 refine g_val (!r2) (gy_f rfl) (fun hg => x_fa (a := .pointer (some ⟨b_1, 0, none⟩)) (v := .pointer (some ⟨b_1, 3, none⟩)) rfl (fa_blk (o := 0) Fd55_3 Sz3)) ?_
 refine g_val (!r2) (gy_f rfl) (fun hg => x_ld (p := .pointer (some ⟨b_1, 3, none⟩)) (v := I b_Last) (gd_of (c := !r2) hg (.pointer (some ⟨b_1, 3, none⟩))) (ldb_sc Sc3 (H.blk (k := 0) rfl) rfl)) ?_
 obtain ⟨r3, hx6z, hM⟩ := M.e_bind hM
 refine t_gcall (!r2) (gy_f rfl) cf67 (B r3) (fun _ => [I b_Last, I 0, I 3000]) (fun hg => lst3 (gd_of (c := !r2) hg (I b_Last)) rfl rfl) H (fun hg => (zae b_Last 0 3000 (M.e_opt hx6z hg) _ (H.give (A := []) rfl)).mono fun v_ w_ ⟨y_, hr_, hv_, H_⟩ => by subst hr_; exact ⟨hv_, H.via H_⟩) ?_
 intro w7z H
 refine s_val (x_por (b := r2) (r := r3) rfl rfl (fun hb => gd_of (c := !r2) (by first | exact hb | (rw [hb]; rfl) | simp_all) (B r3))) ?_
 refine s_val (x_mv (v := B (r2 || r3)) rfl) ?_
 refine g_val (!(r2 || r3)) (gy_f rfl) (fun hg => x_fa (a := .pointer (some ⟨b_1, 0, none⟩)) (v := .pointer (some ⟨b_1, 3, none⟩)) rfl (fa_blk (o := 0) Fd55_3 Sz3)) ?_
 refine g_val (!(r2 || r3)) (gy_f rfl) (fun hg => x_ld (p := .pointer (some ⟨b_1, 3, none⟩)) (v := I b_Last) (gd_of (c := !(r2 || r3)) hg (.pointer (some ⟨b_1, 3, none⟩))) (ldb_sc Sc3 (H.blk (k := 0) rfl) rfl)) ?_
 refine g_val (!(r2 || r3)) (gy_f rfl) (fun hg => x_fa (a := .pointer (some ⟨b_1, 0, none⟩)) (v := .pointer (some ⟨b_1, 2, none⟩)) rfl (fa_blk (o := 0) Fd55_2 Sz3)) ?_
 refine g_val (!(r2 || r3)) (gy_f rfl) (fun hg => x_ld (p := .pointer (some ⟨b_1, 2, none⟩)) (v := I b_First) (gd_of (c := !(r2 || r3)) hg (.pointer (some ⟨b_1, 2, none⟩))) (ldb_sc Sc3 (H.blk (k := 0) rfl) rfl)) ?_
 refine g_val (!(r2 || r3)) (gy_f rfl) (fun hg => x_cmp (kd := .i64) (a := b_Last) (b := b_First) (r := decide (b_Last < b_First)) (gd_of (c := !(r2 || r3)) hg (I b_Last)) (gd_of (c := !(r2 || r3)) hg (I b_First)) rfl) ?_
 refine s_val (x_por (b := (r2 || r3)) (r := decide (b_Last < b_First)) rfl rfl (fun hb => gd_of (c := !(r2 || r3)) (by first | exact hb | (rw [hb]; rfl) | simp_all) (B (decide (b_Last < b_First))))) ?_
 refine s_val (x_mv (v := B ((r2 || r3) || (decide (b_Last < b_First)))) rfl) ?_
 refine g_val (!((r2 || r3) || (decide (b_Last < b_First)))) (gy_f rfl) (fun hg => x_fa (a := .pointer (some ⟨b_1, 0, none⟩)) (v := .pointer (some ⟨b_1, 3, none⟩)) rfl (fa_blk (o := 0) Fd55_3 Sz3)) ?_
 refine g_val (!((r2 || r3) || (decide (b_Last < b_First)))) (gy_f rfl) (fun hg => x_ld (p := .pointer (some ⟨b_1, 3, none⟩)) (v := I b_Last) (gd_of (c := !((r2 || r3) || (decide (b_Last < b_First)))) hg (.pointer (some ⟨b_1, 3, none⟩))) (ldb_sc Sc3 (H.blk (k := 0) rfl) rfl)) ?_
 refine g_val (!((r2 || r3) || (decide (b_Last < b_First)))) (gy_f rfl) (fun hg => x_fa (a := .pointer (some ⟨b_1, 0, none⟩)) (v := .pointer (some ⟨b_1, 2, none⟩)) rfl (fa_blk (o := 0) Fd55_2 Sz3)) ?_
 refine g_val (!((r2 || r3) || (decide (b_Last < b_First)))) (gy_f rfl) (fun hg => x_ld (p := .pointer (some ⟨b_1, 2, none⟩)) (v := I b_First) (gd_of (c := !((r2 || r3) || (decide (b_Last < b_First)))) hg (.pointer (some ⟨b_1, 2, none⟩))) (ldb_sc Sc3 (H.blk (k := 0) rfl) rfl)) ?_
 obtain ⟨sd8z, hM⟩ := M.e_grd hM
 replace sd8z := M.imp_of sd8z
 simp only [Bool.and_eq_true, decide_eq_true_eq] at sd8z
 refine g_val (!((r2 || r3) || (decide (b_Last < b_First)))) (gy_f rfl) (fun hg => x_ari (a := b_Last) (b := b_First) (r := b_Last - b_First) (gd_of (c := !((r2 || r3) || (decide (b_Last < b_First)))) hg (I b_Last)) (gd_of (c := !((r2 || r3) || (decide (b_Last < b_First)))) hg (I b_First)) rfl (by have h1_ := sd8z.resolve_left (by rw [hg]; decide); first | exact h1_ | exact h1_.1 | exact h1_.2 | omega | (have hx_ := hg; simp at hx_; omega))) ?_
 refine g_val (!((r2 || r3) || (decide (b_Last < b_First)))) (gy_f rfl) (fun hg => x_cmp (kd := .i64) (a := b_Last - b_First) (b := 999) (r := decide (999 < (b_Last - b_First))) (gd_of (c := !((r2 || r3) || (decide (b_Last < b_First)))) hg (I (b_Last - b_First))) rfl rfl) ?_
 refine s_val (x_por (b := ((r2 || r3) || (decide (b_Last < b_First)))) (r := decide (999 < (b_Last - b_First))) rfl rfl (fun hb => gd_of (c := !((r2 || r3) || (decide (b_Last < b_First)))) (by first | exact hb | (rw [hb]; rfl) | simp_all) (B (decide (999 < (b_Last - b_First)))))) ?_
 refine s_nil ?_
 refine W.cond (((r2 || r3) || (decide (b_Last < b_First))) || (decide (999 < (b_Last - b_First)))) rfl (fun c9z => ?_) (fun c9z => ?_)
 ·replace hM := M.e_t hM c9z
  refine W.seq ?_
  refine W.region rfl ?_
  refine s_val (x_as (v := I 110) rfl) ?_
  refine s_nil ?_
  refine W.ret ?_
  have hr_ := M.e_pure hM
  exact ⟨_, resE_tmp rfl, ⟨110, hr_, rfl, (H.pick [] (by decide) rfl)⟩⟩
 replace hM := M.e_f hM c9z
 refine W.skip ?_
 refine W.seq ?_
 refine W.seq ?_
 refine W.region rfl ?_
 refine s_val (x_fa (a := .pointer (some ⟨b_1, 0, none⟩)) (v := .pointer (some ⟨b_1, 0, none⟩)) rfl (fa_blk (o := 0) Fd55_0 Sz52)) ?_
 refine s_val (x_ld (p := .pointer (some ⟨b_1, 0, none⟩)) (v := v_b_Years) rfl (ldb_sc Sc52 (H.blk (k := 0) rfl) rfl)) ?_
 have hl10z := (hs_b_Years).len_le
 refine s_val (x_lenS T52.und rfl hs_b_Years) ?_
 refine s_val (x_cmp (kd := .i64) (a := (b_Years.length : Int)) (b := 60) (r := decide (60 < (b_Years.length : Int))) rfl rfl rfl) ?_
 refine s_val (x_mv (v := B (decide (60 < (b_Years.length : Int)))) rfl) ?_
 refine g_val (!(decide (60 < (b_Years.length : Int)))) (gy_f rfl) (fun hg => x_fa (a := .pointer (some ⟨b_1, 0, none⟩)) (v := .pointer (some ⟨b_1, 1, none⟩)) rfl (fa_blk (o := 0) Fd55_1 Sz53)) ?_
 refine g_val (!(decide (60 < (b_Years.length : Int)))) (gy_f rfl) (fun hg => x_ld (p := .pointer (some ⟨b_1, 1, none⟩)) (v := v_b_Olds) (gd_of (c := !(decide (60 < (b_Years.length : Int)))) hg (.pointer (some ⟨b_1, 1, none⟩))) (ldb_sc Sc53 (H.blk (k := 0) rfl) rfl)) ?_
 refine g_val (!(decide (60 < (b_Years.length : Int)))) (gy_f rfl) (fun hg => x_lenS T53.und (gd_of (c := !(decide (60 < (b_Years.length : Int)))) hg (v_b_Olds)) hs_b_Olds) ?_
 refine g_val (!(decide (60 < (b_Years.length : Int)))) (gy_f rfl) (fun hg => x_cmp (kd := .i64) (a := (b_Olds.length : Int)) (b := 8) (r := decide (8 < (b_Olds.length : Int))) (gd_of (c := !(decide (60 < (b_Years.length : Int)))) hg (I (b_Olds.length : Int))) rfl rfl) ?_
 refine s_val (x_por (b := decide (60 < (b_Years.length : Int))) (r := decide (8 < (b_Olds.length : Int))) rfl rfl (fun hb => gd_of (c := !(decide (60 < (b_Years.length : Int)))) (by first | exact hb | (rw [hb]; rfl) | simp_all) (B (decide (8 < (b_Olds.length : Int)))))) ?_
 refine s_nil ?_
 refine W.cond ((decide (60 < (b_Years.length : Int))) || (decide (8 < (b_Olds.length : Int)))) rfl (fun c12z => ?_) (fun c12z => ?_)
 ·replace hM := M.e_t hM c12z
  refine W.seq ?_
  refine W.region rfl ?_
  refine s_val (x_as (v := I 3) rfl) ?_
  refine s_nil ?_
  refine W.ret ?_
  have hr_ := M.e_pure hM
  exact ⟨_, resE_tmp rfl, ⟨3, hr_, rfl, (H.pick [] (by decide) rfl)⟩⟩
 replace hM := M.e_f hM c12z
 refine W.skip ?_
 refine W.seq ?_
 refine W.seq ?_
 refine W.region rfl ?_
 refine s_val (x_as (v := I 0) rfl) ?_
 refine s_nil ?_
 refine W.block ?_
 obtain ⟨ex13z, hi14z, hk15z⟩ := M.e_bind hM
 obtain ⟨m0_, hi14z⟩ := M.e_iter hi14z
 refine W.loop (fun m σ W => ∃ (i : Nat) (ρ : Env), σ = upds ρ [(1, .pointer (some ⟨b_1, 0, none⟩)), (3, I (i : Int))] /\ M.iterN (zar b_Olds) m i = some ex13z /\ St w W [cBlk b_1 [v_b_Years, v_b_Olds, I b_First, I b_Last] 55] R) ?_ ?_
 ·exact ⟨_, 0, _, upds_of _ _ ⟨rfl, rfl, trivial⟩, hi14z, H⟩
 rintro m18z σ w16z ⟨i, ρ, rfl, hI17z, H⟩
 obtain ⟨m19z, lt20z, x21z, hM, hN22z⟩ := M.e_iterN hI17z
 simp only [zar] at hM
 clear hI17z
 refine W.seq ?_
 refine W.seq ?_
 refine W.region rfl ?_
 refine s_val (x_mv (v := I (i : Int)) rfl) ?_
 refine s_val (x_fa (a := .pointer (some ⟨b_1, 0, none⟩)) (v := .pointer (some ⟨b_1, 1, none⟩)) rfl (fa_blk (o := 0) Fd55_1 Sz53)) ?_
 refine s_val (x_ld (p := .pointer (some ⟨b_1, 1, none⟩)) (v := v_b_Olds) rfl (ldb_sc Sc53 (H.blk (k := 0) rfl) rfl)) ?_
 have hl23z := (hs_b_Olds).len_le
 refine s_val (x_lenS T53.und rfl hs_b_Olds) ?_
 refine s_val (x_cmp (kd := .i64) (a := (i : Int)) (b := (b_Olds.length : Int)) (r := decide ((i : Int) < (b_Olds.length : Int))) rfl rfl rfl) ?_
 refine s_nil ?_
 refine W.cond (decide ((i : Int) < (b_Olds.length : Int))) rfl (fun c24z => ?_) (fun c24z => ?_)
 ·replace hM := M.e_t hM c24z
  simp only [decide_eq_true_eq, decide_eq_false_iff_not, beq_iff_eq, bne_iff_ne, beq_eq_false_iff_ne, bne_eq_false_iff_eq, ne_eq, Decidable.not_not] at c24z
  refine W.skip ?_
  refine W.seq ?_
  refine W.block ?_
  refine W.seq ?_
  refine W.region rfl ?_
  refine s_val (x_fa (a := .pointer (some ⟨b_1, 0, none⟩)) (v := .pointer (some ⟨b_1, 1, none⟩)) rfl (fa_blk (o := 0) Fd55_1 Sz53)) ?_
  refine s_val (x_ld (p := .pointer (some ⟨b_1, 1, none⟩)) (v := v_b_Olds) rfl (ldb_sc Sc53 (H.blk (k := 0) rfl) rfl)) ?_
  refine s_val (x_mv (v := I (i : Int)) rfl) ?_
  obtain ⟨sd25z, hM⟩ := M.e_grd hM
  simp only [Bool.and_eq_true, decide_eq_true_eq] at sd25z
  refine s_val (x_ix (a := v_b_Olds) (b := I (i : Int)) (v := vat v_b_Olds 4 (Int.toNat (i : Int))) rfl rfl (Sl.ix (α := Old10) T53.und T53.size hs_b_Olds (by omega) (by omega))) ?_
  refine s_val (x_fa (a := vat v_b_Olds 4 (Int.toNat (i : Int))) (v := fat (vat v_b_Olds 4 (Int.toNat (i : Int))) 3) rfl (fa_pl Fd128_3 Sz27 (Sl.pl (i := (i : Int)) hs_b_Olds (by omega) (by omega)))) ?_
  obtain ⟨u26z, ha_u26z, hs27z⟩ := Old10_at3 hs_b_Olds (i := (i : Int)) (by omega) (by omega)
  replace hs27z : Sl _ u26z (b_Olds.getD i default).passed := hs27z
  have hl_hs27z := hs27z.len_le
  refine s_val (x_ld (p := fat (vat v_b_Olds 4 (Int.toNat (i : Int))) 3) (v := u26z) rfl (ld_sc Sc27 (At.mono (ha_u26z) (hC_b_Olds.at H)))) ?_
  have hl28z := (hs27z).len_le
  refine s_val (x_lenS T27.und rfl hs27z) ?_
  refine s_val (x_cmp (kd := .i64) (a := (((b_Olds.getD i default).passed).length : Int)) (b := 10) (r := decide (10 < (((b_Olds.getD i default).passed).length : Int))) rfl rfl rfl) ?_
  refine s_nil ?_
  refine W.cond (decide (10 < (((b_Olds.getD i default).passed).length : Int))) rfl (fun c29z => ?_) (fun c29z => ?_)
  ·replace hM := M.e_t hM c29z
   simp only [decide_eq_true_eq, decide_eq_false_iff_not, beq_iff_eq, bne_iff_ne, beq_eq_false_iff_ne, bne_eq_false_iff_eq, ne_eq, Decidable.not_not] at c29z
   refine W.seq ?_
   refine W.region rfl ?_
   refine s_val (x_as (v := I 3) rfl) ?_
   refine s_nil ?_
   refine W.ret ?_
   have hX30z := M.e_inr hM hN22z
   subst hX30z
   replace hM := hk15z
   try dsimp only at hM
   have hr_ := M.e_pure hM
   exact ⟨_, resE_tmp rfl, ⟨3, hr_, rfl, (H.pick [] (by decide) rfl)⟩⟩
  replace hM := M.e_f hM c29z
  simp only [decide_eq_true_eq, decide_eq_false_iff_not, beq_iff_eq, bne_iff_ne, beq_eq_false_iff_ne, bne_eq_false_iff_eq, ne_eq, Decidable.not_not] at c29z
  refine W.skip ?_
  refine W.region rfl ?_
  refine s_val (x_mv (v := I (i : Int)) rfl) ?_
  refine s_val (x_ari (a := (i : Int)) (b := 1) (r := (i : Int) + 1) rfl rfl rfl (by omega)) ?_
  refine s_val (x_as (v := I ((i : Int) + 1)) rfl) ?_
  refine s_nil ?_
  exact ⟨m19z, lt20z, i + 1, _, upds_of _ _ ⟨rfl, rfl, trivial⟩, M.e_inl hM hN22z, H⟩
 replace hM := M.e_f hM c24z
 simp only [decide_eq_true_eq, decide_eq_false_iff_not, beq_iff_eq, bne_iff_ne, beq_eq_false_iff_ne, bne_eq_false_iff_eq, ne_eq, Decidable.not_not] at c24z
 refine W.exit ?_
 have hX31z := M.e_inr hM hN22z
 subst hX31z
 replace hM := hk15z
 try dsimp only at hM
 refine W.seq ?_
 refine W.seq ?_
 refine W.region rfl ?_
 refine s_val (x_as (v := I 0) rfl) ?_
 refine s_nil ?_
 refine W.block ?_
 obtain ⟨ex32z, hi33z, hk34z⟩ := M.e_bind hM
 obtain ⟨m0_, hi33z⟩ := M.e_iter hi33z
 refine W.loop (fun m σ W => ∃ (i2 : Nat) (ρ : Env), σ = upds ρ [(1, .pointer (some ⟨b_1, 0, none⟩)), (4, I (i2 : Int))] /\ M.iterN (zaI b_Years b_First b_Last) m i2 = some ex32z /\ St w W [cBlk b_1 [v_b_Years, v_b_Olds, I b_First, I b_Last] 55] R) ?_ ?_
 ·exact ⟨_, 0, _, upds_of _ _ ⟨rfl, rfl, trivial⟩, hi33z, H⟩
 rintro m37z σ w35z ⟨i2, ρ, rfl, hI36z, H⟩
 obtain ⟨m38z, lt39z, x40z, hM, hN41z⟩ := M.e_iterN hI36z
 simp only [zaI] at hM
 clear hI36z
 refine W.seq ?_
 refine W.seq ?_
 refine W.region rfl ?_
 refine s_val (x_mv (v := I (i2 : Int)) rfl) ?_
 refine s_val (x_fa (a := .pointer (some ⟨b_1, 0, none⟩)) (v := .pointer (some ⟨b_1, 0, none⟩)) rfl (fa_blk (o := 0) Fd55_0 Sz52)) ?_
 refine s_val (x_ld (p := .pointer (some ⟨b_1, 0, none⟩)) (v := v_b_Years) rfl (ldb_sc Sc52 (H.blk (k := 0) rfl) rfl)) ?_
 have hl42z := (hs_b_Years).len_le
 refine s_val (x_lenS T52.und rfl hs_b_Years) ?_
 refine s_val (x_cmp (kd := .i64) (a := (i2 : Int)) (b := (b_Years.length : Int)) (r := decide ((i2 : Int) < (b_Years.length : Int))) rfl rfl rfl) ?_
 refine s_nil ?_
 refine W.cond (decide ((i2 : Int) < (b_Years.length : Int))) rfl (fun c43z => ?_) (fun c43z => ?_)
 ·replace hM := M.e_t hM c43z
  simp only [decide_eq_true_eq, decide_eq_false_iff_not, beq_iff_eq, bne_iff_ne, beq_eq_false_iff_ne, bne_eq_false_iff_eq, ne_eq, Decidable.not_not] at c43z
  refine W.skip ?_
  refine W.seq ?_
  refine W.block ?_
  refine W.seq ?_
  refine W.region rfl ?_
  refine s_val (x_fa (a := .pointer (some ⟨b_1, 0, none⟩)) (v := .pointer (some ⟨b_1, 0, none⟩)) rfl (fa_blk (o := 0) Fd55_0 Sz52)) ?_
  refine s_val (x_ld (p := .pointer (some ⟨b_1, 0, none⟩)) (v := v_b_Years) rfl (ldb_sc Sc52 (H.blk (k := 0) rfl) rfl)) ?_
  refine s_val (x_mv (v := I (i2 : Int)) rfl) ?_
  obtain ⟨sd44z, hM⟩ := M.e_grd hM
  simp only [Bool.and_eq_true, decide_eq_true_eq] at sd44z
  refine s_val (x_ix (a := v_b_Years) (b := I (i2 : Int)) (v := vat v_b_Years 3 (Int.toNat (i2 : Int))) rfl rfl (Sl.ix (α := Yr) T52.und T52.size hs_b_Years (by omega) (by omega))) ?_
  refine s_val (x_ld (p := vat v_b_Years 3 (Int.toNat (i2 : Int))) (v := .agg #[I ((b_Years.getD i2 default).year), I ((b_Years.getD i2 default).lo), I ((b_Years.getD i2 default).hi)]) rfl (ld_ag Ag127 Sz127 (At.mono (Yr_atA hs_b_Years (i := (i2 : Int)) (by omega) (by omega)) (hC_b_Years.at H)))) ?_
  refine t_alloc (cs := [I 0, I 0, I 0]) H Al127 rfl ?_
  intro b_2 w45z H
  refine t_st (k := 0) (b := b_2) (off := 0) (cs := [I 0, I 0, I 0]) (vs := [I ((b_Years.getD i2 default).year), I ((b_Years.getD i2 default).lo), I ((b_Years.getD i2 default).hi)]) (cs' := [I ((b_Years.getD i2 default).year), I ((b_Years.getD i2 default).lo), I ((b_Years.getD i2 default).hi)]) (v := .agg #[I ((b_Years.getD i2 default).year), I ((b_Years.getD i2 default).lo), I ((b_Years.getD i2 default).hi)]) (L' := [cBlk b_2 [I ((b_Years.getD i2 default).year), I ((b_Years.getD i2 default).lo), I ((b_Years.getD i2 default).hi)] 127, cBlk b_1 [v_b_Years, v_b_Olds, I b_First, I b_Last] 55]) H rfl rfl rfl Sz127 rfl rfl rfl rfl rfl rfl ?_
  intro w46z H
  refine s_nil ?_
  refine W.seq ?_
  refine W.seq ?_
  refine W.region rfl ?_
  refine s_val (x_fa (a := .pointer (some ⟨b_2, 0, none⟩)) (v := .pointer (some ⟨b_2, 0, none⟩)) rfl (fa_blk (o := 0) Fd127_0 Sz3)) ?_
  refine s_val (x_ld (p := .pointer (some ⟨b_2, 0, none⟩)) (v := I ((b_Years.getD i2 default).year)) rfl (ldb_sc Sc3 (H.blk (k := 0) rfl) rfl)) ?_
  refine s_val (x_fa (a := .pointer (some ⟨b_1, 0, none⟩)) (v := .pointer (some ⟨b_1, 2, none⟩)) rfl (fa_blk (o := 0) Fd55_2 Sz3)) ?_
  refine s_val (x_ld (p := .pointer (some ⟨b_1, 2, none⟩)) (v := I b_First) rfl (ldb_sc Sc3 (H.blk (k := 1) rfl) rfl)) ?_
  refine s_val (x_fa (a := .pointer (some ⟨b_1, 0, none⟩)) (v := .pointer (some ⟨b_1, 3, none⟩)) rfl (fa_blk (o := 0) Fd55_3 Sz3)) ?_
  refine s_val (x_ld (p := .pointer (some ⟨b_1, 3, none⟩)) (v := I b_Last) rfl (ldb_sc Sc3 (H.blk (k := 1) rfl) rfl)) ?_
  obtain ⟨r48z, hx47z, hM⟩ := M.e_bind hM
  refine s_call cf67 [I ((b_Years.getD i2 default).year), I b_First, I b_Last] rfl (zae ((b_Years.getD i2 default).year) b_First b_Last hx47z _ (St.give (T := [cBlk b_2 [I ((b_Years.getD i2 default).year), I ((b_Years.getD i2 default).lo), I ((b_Years.getD i2 default).hi)] 127, cBlk b_1 [v_b_Years, v_b_Olds, I b_First, I b_Last] 55]) H rfl)) ?_
  rintro vq w49z ⟨r4, hr50z, hvq, H2_⟩
  subst hr50z
  subst vq
  try dsimp only at hM
  replace H : St w w49z [cBlk b_2 [I ((b_Years.getD i2 default).year), I ((b_Years.getD i2 default).lo), I ((b_Years.getD i2 default).hi)] 127, cBlk b_1 [v_b_Years, v_b_Olds, I b_First, I b_Last] 55] R := H.back H2_ rfl
  clear H2_
  refine s_val (x_mv (v := B r4) rfl) ?_
  refine g_val (!r4) (gy_f rfl) (fun hg => x_fa (a := .pointer (some ⟨b_2, 0, none⟩)) (v := .pointer (some ⟨b_2, 1, none⟩)) rfl (fa_blk (o := 0) Fd127_1 Sz35)) ?_
  refine g_val (!r4) (gy_f rfl) (fun hg => x_fa (a := .pointer (some ⟨b_2, 1, none⟩)) (v := .pointer (some ⟨b_2, 1, none⟩)) (gd_of (c := !r4) hg (.pointer (some ⟨b_2, 1, none⟩))) (fa_blk (o := 1) Fd35_0 Sz3)) ?_
  refine g_val (!r4) (gy_f rfl) (fun hg => x_ld (p := .pointer (some ⟨b_2, 1, none⟩)) (v := I ((b_Years.getD i2 default).lo)) (gd_of (c := !r4) hg (.pointer (some ⟨b_2, 1, none⟩))) (ldb_sc Sc3 (H.blk (k := 0) rfl) rfl)) ?_
  refine g_val (!r4) (gy_f rfl) (fun hg => x_cmp (kd := .i64) (a := (b_Years.getD i2 default).lo) (b := 0) (r := decide (((b_Years.getD i2 default).lo) < 0)) (gd_of (c := !r4) hg (I ((b_Years.getD i2 default).lo))) rfl rfl) ?_
  refine s_val (x_por (b := r4) (r := decide (((b_Years.getD i2 default).lo) < 0)) rfl rfl (fun hb => gd_of (c := !r4) (by first | exact hb | (rw [hb]; rfl) | simp_all) (B (decide (((b_Years.getD i2 default).lo) < 0))))) ?_
  refine s_val (x_mv (v := B (r4 || (decide (((b_Years.getD i2 default).lo) < 0)))) rfl) ?_
  refine g_val (!(r4 || (decide (((b_Years.getD i2 default).lo) < 0)))) (gy_f rfl) (fun hg => x_fa (a := .pointer (some ⟨b_2, 0, none⟩)) (v := .pointer (some ⟨b_2, 1, none⟩)) rfl (fa_blk (o := 0) Fd127_1 Sz35)) ?_
  refine g_val (!(r4 || (decide (((b_Years.getD i2 default).lo) < 0)))) (gy_f rfl) (fun hg => x_fa (a := .pointer (some ⟨b_2, 1, none⟩)) (v := .pointer (some ⟨b_2, 2, none⟩)) (gd_of (c := !(r4 || (decide (((b_Years.getD i2 default).lo) < 0)))) hg (.pointer (some ⟨b_2, 1, none⟩))) (fa_blk (o := 1) Fd35_1 Sz3)) ?_
  refine g_val (!(r4 || (decide (((b_Years.getD i2 default).lo) < 0)))) (gy_f rfl) (fun hg => x_ld (p := .pointer (some ⟨b_2, 2, none⟩)) (v := I ((b_Years.getD i2 default).hi)) (gd_of (c := !(r4 || (decide (((b_Years.getD i2 default).lo) < 0)))) hg (.pointer (some ⟨b_2, 2, none⟩))) (ldb_sc Sc3 (H.blk (k := 0) rfl) rfl)) ?_
  refine g_val (!(r4 || (decide (((b_Years.getD i2 default).lo) < 0)))) (gy_f rfl) (fun hg => x_cmp (kd := .i64) (a := (b_Years.getD i2 default).hi) (b := 2000) (r := decide (2000 < ((b_Years.getD i2 default).hi))) (gd_of (c := !(r4 || (decide (((b_Years.getD i2 default).lo) < 0)))) hg (I ((b_Years.getD i2 default).hi))) rfl rfl) ?_
  refine s_val (x_por (b := (r4 || (decide (((b_Years.getD i2 default).lo) < 0)))) (r := decide (2000 < ((b_Years.getD i2 default).hi))) rfl rfl (fun hb => gd_of (c := !(r4 || (decide (((b_Years.getD i2 default).lo) < 0)))) (by first | exact hb | (rw [hb]; rfl) | simp_all) (B (decide (2000 < ((b_Years.getD i2 default).hi)))))) ?_
  refine s_val (x_mv (v := B ((r4 || (decide (((b_Years.getD i2 default).lo) < 0))) || (decide (2000 < ((b_Years.getD i2 default).hi))))) rfl) ?_
  refine g_val (!((r4 || (decide (((b_Years.getD i2 default).lo) < 0))) || (decide (2000 < ((b_Years.getD i2 default).hi))))) (gy_f rfl) (fun hg => x_fa (a := .pointer (some ⟨b_2, 0, none⟩)) (v := .pointer (some ⟨b_2, 1, none⟩)) rfl (fa_blk (o := 0) Fd127_1 Sz35)) ?_
  refine g_val (!((r4 || (decide (((b_Years.getD i2 default).lo) < 0))) || (decide (2000 < ((b_Years.getD i2 default).hi))))) (gy_f rfl) (fun hg => x_fa (a := .pointer (some ⟨b_2, 1, none⟩)) (v := .pointer (some ⟨b_2, 1, none⟩)) (gd_of (c := !((r4 || (decide (((b_Years.getD i2 default).lo) < 0))) || (decide (2000 < ((b_Years.getD i2 default).hi))))) hg (.pointer (some ⟨b_2, 1, none⟩))) (fa_blk (o := 1) Fd35_0 Sz3)) ?_
  refine g_val (!((r4 || (decide (((b_Years.getD i2 default).lo) < 0))) || (decide (2000 < ((b_Years.getD i2 default).hi))))) (gy_f rfl) (fun hg => x_ld (p := .pointer (some ⟨b_2, 1, none⟩)) (v := I ((b_Years.getD i2 default).lo)) (gd_of (c := !((r4 || (decide (((b_Years.getD i2 default).lo) < 0))) || (decide (2000 < ((b_Years.getD i2 default).hi))))) hg (.pointer (some ⟨b_2, 1, none⟩))) (ldb_sc Sc3 (H.blk (k := 0) rfl) rfl)) ?_
  refine g_val (!((r4 || (decide (((b_Years.getD i2 default).lo) < 0))) || (decide (2000 < ((b_Years.getD i2 default).hi))))) (gy_f rfl) (fun hg => x_fa (a := .pointer (some ⟨b_2, 0, none⟩)) (v := .pointer (some ⟨b_2, 1, none⟩)) rfl (fa_blk (o := 0) Fd127_1 Sz35)) ?_
  refine g_val (!((r4 || (decide (((b_Years.getD i2 default).lo) < 0))) || (decide (2000 < ((b_Years.getD i2 default).hi))))) (gy_f rfl) (fun hg => x_fa (a := .pointer (some ⟨b_2, 1, none⟩)) (v := .pointer (some ⟨b_2, 2, none⟩)) (gd_of (c := !((r4 || (decide (((b_Years.getD i2 default).lo) < 0))) || (decide (2000 < ((b_Years.getD i2 default).hi))))) hg (.pointer (some ⟨b_2, 1, none⟩))) (fa_blk (o := 1) Fd35_1 Sz3)) ?_
  refine g_val (!((r4 || (decide (((b_Years.getD i2 default).lo) < 0))) || (decide (2000 < ((b_Years.getD i2 default).hi))))) (gy_f rfl) (fun hg => x_ld (p := .pointer (some ⟨b_2, 2, none⟩)) (v := I ((b_Years.getD i2 default).hi)) (gd_of (c := !((r4 || (decide (((b_Years.getD i2 default).lo) < 0))) || (decide (2000 < ((b_Years.getD i2 default).hi))))) hg (.pointer (some ⟨b_2, 2, none⟩))) (ldb_sc Sc3 (H.blk (k := 0) rfl) rfl)) ?_
  refine g_val (!((r4 || (decide (((b_Years.getD i2 default).lo) < 0))) || (decide (2000 < ((b_Years.getD i2 default).hi))))) (gy_f rfl) (fun hg => x_cmp (kd := .i64) (a := (b_Years.getD i2 default).lo) (b := (b_Years.getD i2 default).hi) (r := decide (((b_Years.getD i2 default).hi) < ((b_Years.getD i2 default).lo))) (gd_of (c := !((r4 || (decide (((b_Years.getD i2 default).lo) < 0))) || (decide (2000 < ((b_Years.getD i2 default).hi))))) hg (I ((b_Years.getD i2 default).lo))) (gd_of (c := !((r4 || (decide (((b_Years.getD i2 default).lo) < 0))) || (decide (2000 < ((b_Years.getD i2 default).hi))))) hg (I ((b_Years.getD i2 default).hi))) rfl) ?_
  refine s_val (x_por (b := ((r4 || (decide (((b_Years.getD i2 default).lo) < 0))) || (decide (2000 < ((b_Years.getD i2 default).hi))))) (r := decide (((b_Years.getD i2 default).hi) < ((b_Years.getD i2 default).lo))) rfl rfl (fun hb => gd_of (c := !((r4 || (decide (((b_Years.getD i2 default).lo) < 0))) || (decide (2000 < ((b_Years.getD i2 default).hi))))) (by first | exact hb | (rw [hb]; rfl) | simp_all) (B (decide (((b_Years.getD i2 default).hi) < ((b_Years.getD i2 default).lo)))))) ?_
  refine s_nil ?_
  refine W.cond (((r4 || (decide (((b_Years.getD i2 default).lo) < 0))) || (decide (2000 < ((b_Years.getD i2 default).hi)))) || (decide (((b_Years.getD i2 default).hi) < ((b_Years.getD i2 default).lo)))) rfl (fun c51z => ?_) (fun c51z => ?_)
  ·replace hM := M.e_t hM c51z
   refine W.seq ?_
   refine W.region rfl ?_
   refine s_val (x_as (v := I 110) rfl) ?_
   refine s_nil ?_
   refine W.ret ?_
   have hX52z := M.e_inr hM hN41z
   subst hX52z
   replace hM := hk34z
   try dsimp only at hM
   have hr_ := M.e_pure hM
   exact ⟨_, resE_tmp rfl, ⟨110, hr_, rfl, (H.pick [] (by decide) rfl)⟩⟩
  replace hM := M.e_f hM c51z
  refine W.skip ?_
  refine W.seq ?_
  refine W.draw (fun W => St w W [cBlk b_2 [I ((b_Years.getD i2 default).year), I ((b_Years.getD i2 default).lo), I ((b_Years.getD i2 default).hi)] 127, cBlk b_1 [v_b_Years, v_b_Olds, I b_First, I b_Last] 55] R) [(0, true), (1, true), (2, true), (3, true), (4, true), (5, true), (6, true), (7, true), (8, true), (9, true), (10, true), (11, true), (12, true), (13, true)] mixed (by decide +kernel) rfl ?_
  intro w53z hx_
  replace H : St w w53z [cBlk b_2 [I ((b_Years.getD i2 default).year), I ((b_Years.getD i2 default).lo), I ((b_Years.getD i2 default).hi)] 127, cBlk b_1 [v_b_Years, v_b_Olds, I b_First, I b_Last] 55] R := H.ext hx_
  clear hx_
  refine ⟨(H.pick [0, 1] (by decide) rfl), ?_⟩
  refine d_q rfl (fun w' H => x_mv (v := I (i2 : Int)) rfl) ?_
  refine d_q rfl (fun w' H => x_cmp (kd := .i64) (a := (i2 : Int)) (b := 0) (r := decide (0 < (i2 : Int))) rfl rfl rfl) ?_
  refine d_q rfl (fun w' H => x_mv (v := B (decide (0 < (i2 : Int)))) rfl) ?_
  refine d_qg (decide (0 < (i2 : Int))) rfl (gy_t rfl) (fun hg => (fun w' H => x_fa (a := .pointer (some ⟨b_2, 0, none⟩)) (v := .pointer (some ⟨b_2, 0, none⟩)) rfl (fa_blk (o := 0) Fd127_0 Sz3))) ?_
  refine d_qg (decide (0 < (i2 : Int))) rfl (gy_t rfl) (fun hg => (fun w' H => x_ld (p := .pointer (some ⟨b_2, 0, none⟩)) (v := I ((b_Years.getD i2 default).year)) (gd_of (c := decide (0 < (i2 : Int))) hg (.pointer (some ⟨b_2, 0, none⟩))) (ldb_sc Sc3 (H.blk (k := 0) rfl) rfl))) ?_
  refine d_qg (decide (0 < (i2 : Int))) rfl (gy_t rfl) (fun hg => (fun w' H => x_fa (a := .pointer (some ⟨b_1, 0, none⟩)) (v := .pointer (some ⟨b_1, 0, none⟩)) rfl (fa_blk (o := 0) Fd55_0 Sz52))) ?_
  refine d_qg (decide (0 < (i2 : Int))) rfl (gy_t rfl) (fun hg => (fun w' H => x_ld (p := .pointer (some ⟨b_1, 0, none⟩)) (v := v_b_Years) (gd_of (c := decide (0 < (i2 : Int))) hg (.pointer (some ⟨b_1, 0, none⟩))) (ldb_sc Sc52 (H.blk (k := 1) rfl) rfl))) ?_
  refine d_qg (decide (0 < (i2 : Int))) rfl (gy_t rfl) (fun hg => (fun w' H => x_mv (v := I (i2 : Int)) rfl)) ?_
  obtain ⟨sd54z, hM⟩ := M.e_grd hM
  replace sd54z := M.imp_of sd54z
  simp only [Bool.and_eq_true, decide_eq_true_eq] at sd54z
  refine d_qg (decide (0 < (i2 : Int))) rfl (gy_t rfl) (fun hg => (fun w' H => x_ari (a := (i2 : Int)) (b := 1) (r := (i2 : Int) - 1) (gd_of (c := decide (0 < (i2 : Int))) hg (I (i2 : Int))) rfl rfl (by have h1_ := sd54z.resolve_left (by rw [hg]; decide); first | exact h1_ | exact h1_.1 | exact h1_.2 | omega | (have hx_ := hg; simp at hx_; omega)))) ?_
  obtain ⟨sd55z, hM⟩ := M.e_grd hM
  replace sd55z := M.imp_of sd55z
  simp only [Bool.and_eq_true, decide_eq_true_eq] at sd55z
  refine d_qg (decide (0 < (i2 : Int))) rfl (gy_t rfl) (fun hg => (fun w' H => x_ix (a := v_b_Years) (b := I ((i2 : Int) - 1)) (v := vat v_b_Years 3 (Int.toNat ((i2 : Int) - 1))) (gd_of (c := decide (0 < (i2 : Int))) hg (v_b_Years)) (gd_of (c := decide (0 < (i2 : Int))) hg (I ((i2 : Int) - 1))) (Sl.ix (α := Yr) T52.und T52.size hs_b_Years (by have h1_ := sd54z.resolve_left (by rw [hg]; decide); have h2_ := sd55z.resolve_left (by rw [hg]; decide); first | exact h1_ | exact h1_.1 | exact h1_.2 | exact h2_ | exact h2_.1 | exact h2_.2 | omega | (have hx_ := hg; simp at hx_; omega)) (by have h1_ := sd54z.resolve_left (by rw [hg]; decide); have h2_ := sd55z.resolve_left (by rw [hg]; decide); first | exact h1_ | exact h1_.1 | exact h1_.2 | exact h2_ | exact h2_.1 | exact h2_.2 | omega | (have hx_ := hg; simp at hx_; omega))))) ?_
  refine d_qg (decide (0 < (i2 : Int))) rfl (gy_t rfl) (fun hg => (fun w' H => x_fa (a := vat v_b_Years 3 (Int.toNat ((i2 : Int) - 1))) (v := fat (vat v_b_Years 3 (Int.toNat ((i2 : Int) - 1))) 0) (gd_of (c := decide (0 < (i2 : Int))) hg (vat v_b_Years 3 (Int.toNat ((i2 : Int) - 1)))) (fa_pl Fd127_0 Sz3 (Sl.pl (i := (i2 : Int) - 1) hs_b_Years (by have h1_ := sd54z.resolve_left (by rw [hg]; decide); have h2_ := sd55z.resolve_left (by rw [hg]; decide); first | exact h1_ | exact h1_.1 | exact h1_.2 | exact h2_ | exact h2_.1 | exact h2_.2 | omega | (have hx_ := hg; simp at hx_; omega)) (by have h1_ := sd54z.resolve_left (by rw [hg]; decide); have h2_ := sd55z.resolve_left (by rw [hg]; decide); first | exact h1_ | exact h1_.1 | exact h1_.2 | exact h2_ | exact h2_.1 | exact h2_.2 | omega | (have hx_ := hg; simp at hx_; omega)))))) ?_
  refine d_qg (decide (0 < (i2 : Int))) rfl (gy_t rfl) (fun hg => (fun w' H => x_ld (p := fat (vat v_b_Years 3 (Int.toNat ((i2 : Int) - 1))) 0) (v := I ((b_Years.getD (Int.toNat ((i2 : Int) - 1)) default).year)) (gd_of (c := decide (0 < (i2 : Int))) hg (fat (vat v_b_Years 3 (Int.toNat ((i2 : Int) - 1))) 0)) (ld_sc Sc3 (At.mono (Yr_at0 hs_b_Years (i := (i2 : Int) - 1) (by have h1_ := sd54z.resolve_left (by rw [hg]; decide); have h2_ := sd55z.resolve_left (by rw [hg]; decide); first | exact h1_ | exact h1_.1 | exact h1_.2 | exact h2_ | exact h2_.1 | exact h2_.2 | omega | (have hx_ := hg; simp at hx_; omega)) (by have h1_ := sd54z.resolve_left (by rw [hg]; decide); have h2_ := sd55z.resolve_left (by rw [hg]; decide); first | exact h1_ | exact h1_.1 | exact h1_.2 | exact h2_ | exact h2_.1 | exact h2_.2 | omega | (have hx_ := hg; simp at hx_; omega))) (hC_b_Years.at H))))) ?_
  refine d_qg (decide (0 < (i2 : Int))) rfl (gy_t rfl) (fun hg => (fun w' H => x_cmp (kd := .i64) (a := (b_Years.getD i2 default).year) (b := (b_Years.getD (Int.toNat ((i2 : Int) - 1)) default).year) (r := decide (((b_Years.getD i2 default).year) <= ((b_Years.getD (Int.toNat ((i2 : Int) - 1)) default).year))) (gd_of (c := decide (0 < (i2 : Int))) hg (I ((b_Years.getD i2 default).year))) (gd_of (c := decide (0 < (i2 : Int))) hg (I ((b_Years.getD (Int.toNat ((i2 : Int) - 1)) default).year))) rfl)) ?_
  refine d_q rfl (fun w' H => x_pand (b := decide (0 < (i2 : Int))) (r := decide (((b_Years.getD i2 default).year) <= ((b_Years.getD (Int.toNat ((i2 : Int) - 1)) default).year))) rfl (fun hb => gd_of (c := decide (0 < (i2 : Int))) (by first | exact hb | (rw [hb]; rfl) | simp_all) (B (decide (((b_Years.getD i2 default).year) <= ((b_Years.getD (Int.toNat ((i2 : Int) - 1)) default).year))))) rfl) ?_
  refine d_nil ?_
  refine W.cond ((decide (0 < (i2 : Int))) && (decide (((b_Years.getD i2 default).year) <= ((b_Years.getD (Int.toNat ((i2 : Int) - 1)) default).year)))) rfl (fun c56z => ?_) (fun c56z => ?_)
  ·replace hM := M.e_t hM c56z
   refine W.seq ?_
   refine W.region rfl ?_
   refine s_val (x_as (v := I 9) rfl) ?_
   refine s_nil ?_
   refine W.ret ?_
   have hX57z := M.e_inr hM hN41z
   subst hX57z
   replace hM := hk34z
   try dsimp only at hM
   have hr_ := M.e_pure hM
   exact ⟨_, resE_tmp rfl, ⟨9, hr_, rfl, (H.pick [] (by decide) rfl)⟩⟩
  replace hM := M.e_f hM c56z
  refine W.skip ?_
  refine W.region rfl ?_
  refine s_val (x_mv (v := I (i2 : Int)) rfl) ?_
  refine s_val (x_ari (a := (i2 : Int)) (b := 1) (r := (i2 : Int) + 1) rfl rfl rfl (by omega)) ?_
  refine s_val (x_as (v := I ((i2 : Int) + 1)) rfl) ?_
  refine s_nil ?_
  exact ⟨m38z, lt39z, i2 + 1, _, upds_of _ _ ⟨rfl, rfl, trivial⟩, M.e_inl hM hN41z, (H.pick [1] (by decide) rfl)⟩
 replace hM := M.e_f hM c43z
 simp only [decide_eq_true_eq, decide_eq_false_iff_not, beq_iff_eq, bne_iff_ne, beq_eq_false_iff_ne, bne_eq_false_iff_eq, ne_eq, Decidable.not_not] at c43z
 refine W.exit ?_
 have hX58z := M.e_inr hM hN41z
 subst hX58z
 replace hM := hk34z
 try dsimp only at hM
 refine W.seq ?_
 refine W.seq ?_
 refine W.region rfl ?_
 refine s_val (x_as (v := I 0) rfl) ?_
 refine s_nil ?_
 refine W.block ?_
 obtain ⟨ex59z, hi60z, hk61z⟩ := M.e_bind hM
 obtain ⟨m0_, hi60z⟩ := M.e_iter hi60z
 refine W.loop (fun m σ W => ∃ (i3 : Nat) (ρ : Env), σ = upds ρ [(1, .pointer (some ⟨b_1, 0, none⟩)), (6, I (i3 : Int))] /\ M.iterN (zaJ b_Olds b_First b_Last) m i3 = some ex59z /\ St w W [cBlk b_1 [v_b_Years, v_b_Olds, I b_First, I b_Last] 55] R) ?_ ?_
 ·exact ⟨_, 0, _, upds_of _ _ ⟨rfl, rfl, trivial⟩, hi60z, H⟩
 rintro m64z σ w62z ⟨i3, ρ, rfl, hI63z, H⟩
 obtain ⟨m65z, lt66z, x67z, hM, hN68z⟩ := M.e_iterN hI63z
 simp only [zaJ] at hM
 clear hI63z
 refine W.seq ?_
 refine W.seq ?_
 refine W.region rfl ?_
 refine s_val (x_mv (v := I (i3 : Int)) rfl) ?_
 refine s_val (x_fa (a := .pointer (some ⟨b_1, 0, none⟩)) (v := .pointer (some ⟨b_1, 1, none⟩)) rfl (fa_blk (o := 0) Fd55_1 Sz53)) ?_
 refine s_val (x_ld (p := .pointer (some ⟨b_1, 1, none⟩)) (v := v_b_Olds) rfl (ldb_sc Sc53 (H.blk (k := 0) rfl) rfl)) ?_
 have hl69z := (hs_b_Olds).len_le
 refine s_val (x_lenS T53.und rfl hs_b_Olds) ?_
 refine s_val (x_cmp (kd := .i64) (a := (i3 : Int)) (b := (b_Olds.length : Int)) (r := decide ((i3 : Int) < (b_Olds.length : Int))) rfl rfl rfl) ?_
 refine s_nil ?_
 refine W.cond (decide ((i3 : Int) < (b_Olds.length : Int))) rfl (fun c70z => ?_) (fun c70z => ?_)
 ·replace hM := M.e_t hM c70z
  simp only [decide_eq_true_eq, decide_eq_false_iff_not, beq_iff_eq, bne_iff_ne, beq_eq_false_iff_ne, bne_eq_false_iff_eq, ne_eq, Decidable.not_not] at c70z
  refine W.skip ?_
  refine W.seq ?_
  refine W.block ?_
  refine W.seq ?_
  refine W.region rfl ?_
  refine s_val (x_fa (a := .pointer (some ⟨b_1, 0, none⟩)) (v := .pointer (some ⟨b_1, 1, none⟩)) rfl (fa_blk (o := 0) Fd55_1 Sz53)) ?_
  refine s_val (x_ld (p := .pointer (some ⟨b_1, 1, none⟩)) (v := v_b_Olds) rfl (ldb_sc Sc53 (H.blk (k := 0) rfl) rfl)) ?_
  refine s_val (x_mv (v := I (i3 : Int)) rfl) ?_
  obtain ⟨sd71z, hM⟩ := M.e_grd hM
  simp only [Bool.and_eq_true, decide_eq_true_eq] at sd71z
  refine s_val (x_ix (a := v_b_Olds) (b := I (i3 : Int)) (v := vat v_b_Olds 4 (Int.toNat (i3 : Int))) rfl rfl (Sl.ix (α := Old10) T53.und T53.size hs_b_Olds (by omega) (by omega))) ?_
  obtain ⟨u72z, ha74z, hs73z⟩ := Old10_atA hs_b_Olds (i := (i3 : Int)) (by omega) (by omega)
  replace hs73z : Sl _ u72z (b_Olds.getD i3 default).passed := hs73z
  have hl_hs73z := hs73z.len_le
  refine s_val (x_ld (p := vat v_b_Olds 4 (Int.toNat (i3 : Int))) (v := .agg #[I ((b_Olds.getD i3 default).src), I ((b_Olds.getD i3 default).dst), I ((b_Olds.getD i3 default).stage), u72z]) rfl (ld_ag Ag128 Sz128 (At.mono ha74z (hC_b_Olds.at H)))) ?_
  refine t_alloc (cs := [I 0, I 0, I 0, .slice none 0 0]) H Al128 rfl ?_
  intro b_3 w75z H
  refine t_st (k := 0) (b := b_3) (off := 0) (cs := [I 0, I 0, I 0, .slice none 0 0]) (vs := [I ((b_Olds.getD i3 default).src), I ((b_Olds.getD i3 default).dst), I ((b_Olds.getD i3 default).stage), u72z]) (cs' := [I ((b_Olds.getD i3 default).src), I ((b_Olds.getD i3 default).dst), I ((b_Olds.getD i3 default).stage), u72z]) (v := .agg #[I ((b_Olds.getD i3 default).src), I ((b_Olds.getD i3 default).dst), I ((b_Olds.getD i3 default).stage), u72z]) (L' := [cBlk b_3 [I ((b_Olds.getD i3 default).src), I ((b_Olds.getD i3 default).dst), I ((b_Olds.getD i3 default).stage), u72z] 128, cBlk b_1 [v_b_Years, v_b_Olds, I b_First, I b_Last] 55]) H rfl rfl rfl Sz128 rfl rfl rfl (by simp only [List.all_cons, List.all_nil, Bool.true_and, Bool.and_true, Sl.oc hs73z]; try rfl) rfl rfl ?_
  intro w76z H
  refine s_nil ?_
  refine W.seq ?_
  refine W.region rfl ?_
  refine s_val (x_fa (a := .pointer (some ⟨b_3, 0, none⟩)) (v := .pointer (some ⟨b_3, 0, none⟩)) rfl (fa_blk (o := 0) Fd128_0 Sz3)) ?_
  refine s_val (x_ld (p := .pointer (some ⟨b_3, 0, none⟩)) (v := I ((b_Olds.getD i3 default).src)) rfl (ldb_sc Sc3 (H.blk (k := 0) rfl) rfl)) ?_
  refine s_val (x_fa (a := .pointer (some ⟨b_1, 0, none⟩)) (v := .pointer (some ⟨b_1, 2, none⟩)) rfl (fa_blk (o := 0) Fd55_2 Sz3)) ?_
  refine s_val (x_ld (p := .pointer (some ⟨b_1, 2, none⟩)) (v := I b_First) rfl (ldb_sc Sc3 (H.blk (k := 1) rfl) rfl)) ?_
  refine s_val (x_fa (a := .pointer (some ⟨b_1, 0, none⟩)) (v := .pointer (some ⟨b_1, 3, none⟩)) rfl (fa_blk (o := 0) Fd55_3 Sz3)) ?_
  refine s_val (x_ld (p := .pointer (some ⟨b_1, 3, none⟩)) (v := I b_Last) rfl (ldb_sc Sc3 (H.blk (k := 1) rfl) rfl)) ?_
  obtain ⟨r78z, hx77z, hM⟩ := M.e_bind hM
  refine s_call cf67 [I ((b_Olds.getD i3 default).src), I b_First, I b_Last] rfl (zae ((b_Olds.getD i3 default).src) b_First b_Last hx77z _ (St.give (T := [cBlk b_3 [I ((b_Olds.getD i3 default).src), I ((b_Olds.getD i3 default).dst), I ((b_Olds.getD i3 default).stage), u72z] 128, cBlk b_1 [v_b_Years, v_b_Olds, I b_First, I b_Last] 55]) H rfl)) ?_
  rintro vq w79z ⟨r5, hr80z, hvq, H2_⟩
  subst hr80z
  subst vq
  try dsimp only at hM
  replace H : St w w79z [cBlk b_3 [I ((b_Olds.getD i3 default).src), I ((b_Olds.getD i3 default).dst), I ((b_Olds.getD i3 default).stage), u72z] 128, cBlk b_1 [v_b_Years, v_b_Olds, I b_First, I b_Last] 55] R := H.back H2_ rfl
  clear H2_
  refine s_val (x_mv (v := B r5) rfl) ?_
  refine g_val (!r5) (gy_f rfl) (fun hg => x_fa (a := .pointer (some ⟨b_3, 0, none⟩)) (v := .pointer (some ⟨b_3, 1, none⟩)) rfl (fa_blk (o := 0) Fd128_1 Sz3)) ?_
  refine g_val (!r5) (gy_f rfl) (fun hg => x_ld (p := .pointer (some ⟨b_3, 1, none⟩)) (v := I ((b_Olds.getD i3 default).dst)) (gd_of (c := !r5) hg (.pointer (some ⟨b_3, 1, none⟩))) (ldb_sc Sc3 (H.blk (k := 0) rfl) rfl)) ?_
  refine g_val (!r5) (gy_f rfl) (fun hg => x_fa (a := .pointer (some ⟨b_1, 0, none⟩)) (v := .pointer (some ⟨b_1, 2, none⟩)) rfl (fa_blk (o := 0) Fd55_2 Sz3)) ?_
  refine g_val (!r5) (gy_f rfl) (fun hg => x_ld (p := .pointer (some ⟨b_1, 2, none⟩)) (v := I b_First) (gd_of (c := !r5) hg (.pointer (some ⟨b_1, 2, none⟩))) (ldb_sc Sc3 (H.blk (k := 1) rfl) rfl)) ?_
  refine g_val (!r5) (gy_f rfl) (fun hg => x_fa (a := .pointer (some ⟨b_1, 0, none⟩)) (v := .pointer (some ⟨b_1, 3, none⟩)) rfl (fa_blk (o := 0) Fd55_3 Sz3)) ?_
  refine g_val (!r5) (gy_f rfl) (fun hg => x_ld (p := .pointer (some ⟨b_1, 3, none⟩)) (v := I b_Last) (gd_of (c := !r5) hg (.pointer (some ⟨b_1, 3, none⟩))) (ldb_sc Sc3 (H.blk (k := 1) rfl) rfl)) ?_
  obtain ⟨r6, hx81z, hM⟩ := M.e_bind hM
  refine t_gcall (!r5) (gy_f rfl) cf67 (B r6) (fun _ => [I ((b_Olds.getD i3 default).dst), I b_First, I b_Last]) (fun hg => lst3 (gd_of (c := !r5) hg (I ((b_Olds.getD i3 default).dst))) (gd_of (c := !r5) hg (I b_First)) (gd_of (c := !r5) hg (I b_Last))) H (fun hg => (zae ((b_Olds.getD i3 default).dst) b_First b_Last (M.e_opt hx81z hg) _ (H.give (A := []) rfl)).mono fun v_ w_ ⟨y_, hr_, hv_, H_⟩ => by subst hr_; exact ⟨hv_, H.via H_⟩) ?_
  intro w82z H
  refine s_val (x_por (b := r5) (r := r6) rfl rfl (fun hb => gd_of (c := !r5) (by first | exact hb | (rw [hb]; rfl) | simp_all) (B r6))) ?_
  refine s_val (x_mv (v := B (r5 || r6)) rfl) ?_
  refine g_val (!(r5 || r6)) (gy_f rfl) (fun hg => x_fa (a := .pointer (some ⟨b_3, 0, none⟩)) (v := .pointer (some ⟨b_3, 0, none⟩)) rfl (fa_blk (o := 0) Fd128_0 Sz3)) ?_
  refine g_val (!(r5 || r6)) (gy_f rfl) (fun hg => x_ld (p := .pointer (some ⟨b_3, 0, none⟩)) (v := I ((b_Olds.getD i3 default).src)) (gd_of (c := !(r5 || r6)) hg (.pointer (some ⟨b_3, 0, none⟩))) (ldb_sc Sc3 (H.blk (k := 0) rfl) rfl)) ?_
  refine g_val (!(r5 || r6)) (gy_f rfl) (fun hg => x_fa (a := .pointer (some ⟨b_3, 0, none⟩)) (v := .pointer (some ⟨b_3, 1, none⟩)) rfl (fa_blk (o := 0) Fd128_1 Sz3)) ?_
  refine g_val (!(r5 || r6)) (gy_f rfl) (fun hg => x_ld (p := .pointer (some ⟨b_3, 1, none⟩)) (v := I ((b_Olds.getD i3 default).dst)) (gd_of (c := !(r5 || r6)) hg (.pointer (some ⟨b_3, 1, none⟩))) (ldb_sc Sc3 (H.blk (k := 0) rfl) rfl)) ?_
  refine g_val (!(r5 || r6)) (gy_f rfl) (fun hg => x_cmp (kd := .i64) (a := (b_Olds.getD i3 default).src) (b := (b_Olds.getD i3 default).dst) (r := decide (((b_Olds.getD i3 default).dst) < ((b_Olds.getD i3 default).src))) (gd_of (c := !(r5 || r6)) hg (I ((b_Olds.getD i3 default).src))) (gd_of (c := !(r5 || r6)) hg (I ((b_Olds.getD i3 default).dst))) rfl) ?_
  refine s_val (x_por (b := (r5 || r6)) (r := decide (((b_Olds.getD i3 default).dst) < ((b_Olds.getD i3 default).src))) rfl rfl (fun hb => gd_of (c := !(r5 || r6)) (by first | exact hb | (rw [hb]; rfl) | simp_all) (B (decide (((b_Olds.getD i3 default).dst) < ((b_Olds.getD i3 default).src)))))) ?_
  refine s_val (x_mv (v := B ((r5 || r6) || (decide (((b_Olds.getD i3 default).dst) < ((b_Olds.getD i3 default).src))))) rfl) ?_
  refine g_val (!((r5 || r6) || (decide (((b_Olds.getD i3 default).dst) < ((b_Olds.getD i3 default).src))))) (gy_f rfl) (fun hg => x_fa (a := .pointer (some ⟨b_3, 0, none⟩)) (v := .pointer (some ⟨b_3, 2, none⟩)) rfl (fa_blk (o := 0) Fd128_2 Sz3)) ?_
  refine g_val (!((r5 || r6) || (decide (((b_Olds.getD i3 default).dst) < ((b_Olds.getD i3 default).src))))) (gy_f rfl) (fun hg => x_ld (p := .pointer (some ⟨b_3, 2, none⟩)) (v := I ((b_Olds.getD i3 default).stage)) (gd_of (c := !((r5 || r6) || (decide (((b_Olds.getD i3 default).dst) < ((b_Olds.getD i3 default).src))))) hg (.pointer (some ⟨b_3, 2, none⟩))) (ldb_sc Sc3 (H.blk (k := 0) rfl) rfl)) ?_
  obtain ⟨r7, hx83z, hM⟩ := M.e_bind hM
  refine t_gcall (!((r5 || r6) || (decide (((b_Olds.getD i3 default).dst) < ((b_Olds.getD i3 default).src))))) (gy_f rfl) cf67 (B r7) (fun _ => [I ((b_Olds.getD i3 default).stage), I 1, I 2000]) (fun hg => lst3 (gd_of (c := !((r5 || r6) || (decide (((b_Olds.getD i3 default).dst) < ((b_Olds.getD i3 default).src))))) hg (I ((b_Olds.getD i3 default).stage))) rfl rfl) H (fun hg => (zae ((b_Olds.getD i3 default).stage) 1 2000 (M.e_opt hx83z hg) _ (H.give (A := []) rfl)).mono fun v_ w_ ⟨y_, hr_, hv_, H_⟩ => by subst hr_; exact ⟨hv_, H.via H_⟩) ?_
  intro w84z H
  refine s_val (x_por (b := ((r5 || r6) || (decide (((b_Olds.getD i3 default).dst) < ((b_Olds.getD i3 default).src))))) (r := r7) rfl rfl (fun hb => gd_of (c := !((r5 || r6) || (decide (((b_Olds.getD i3 default).dst) < ((b_Olds.getD i3 default).src))))) (by first | exact hb | (rw [hb]; rfl) | simp_all) (B r7))) ?_
  refine s_val (x_mv (v := B (((r5 || r6) || (decide (((b_Olds.getD i3 default).dst) < ((b_Olds.getD i3 default).src)))) || r7)) rfl) ?_
  refine g_val (!(((r5 || r6) || (decide (((b_Olds.getD i3 default).dst) < ((b_Olds.getD i3 default).src)))) || r7)) (gy_f rfl) (fun hg => x_fa (a := .pointer (some ⟨b_3, 0, none⟩)) (v := .pointer (some ⟨b_3, 3, none⟩)) rfl (fa_blk (o := 0) Fd128_3 Sz27)) ?_
  refine g_val (!(((r5 || r6) || (decide (((b_Olds.getD i3 default).dst) < ((b_Olds.getD i3 default).src)))) || r7)) (gy_f rfl) (fun hg => x_ld (p := .pointer (some ⟨b_3, 3, none⟩)) (v := u72z) (gd_of (c := !(((r5 || r6) || (decide (((b_Olds.getD i3 default).dst) < ((b_Olds.getD i3 default).src)))) || r7)) hg (.pointer (some ⟨b_3, 3, none⟩))) (ldb_sc Sc27 (H.blk (k := 0) rfl) rfl)) ?_
  refine g_val (!(((r5 || r6) || (decide (((b_Olds.getD i3 default).dst) < ((b_Olds.getD i3 default).src)))) || r7)) (gy_f rfl) (fun hg => x_fa (a := .pointer (some ⟨b_3, 0, none⟩)) (v := .pointer (some ⟨b_3, 0, none⟩)) rfl (fa_blk (o := 0) Fd128_0 Sz3)) ?_
  refine g_val (!(((r5 || r6) || (decide (((b_Olds.getD i3 default).dst) < ((b_Olds.getD i3 default).src)))) || r7)) (gy_f rfl) (fun hg => x_ld (p := .pointer (some ⟨b_3, 0, none⟩)) (v := I ((b_Olds.getD i3 default).src)) (gd_of (c := !(((r5 || r6) || (decide (((b_Olds.getD i3 default).dst) < ((b_Olds.getD i3 default).src)))) || r7)) hg (.pointer (some ⟨b_3, 0, none⟩))) (ldb_sc Sc3 (H.blk (k := 0) rfl) rfl)) ?_
  refine g_val (!(((r5 || r6) || (decide (((b_Olds.getD i3 default).dst) < ((b_Olds.getD i3 default).src)))) || r7)) (gy_f rfl) (fun hg => x_fa (a := .pointer (some ⟨b_3, 0, none⟩)) (v := .pointer (some ⟨b_3, 1, none⟩)) rfl (fa_blk (o := 0) Fd128_1 Sz3)) ?_
  refine g_val (!(((r5 || r6) || (decide (((b_Olds.getD i3 default).dst) < ((b_Olds.getD i3 default).src)))) || r7)) (gy_f rfl) (fun hg => x_ld (p := .pointer (some ⟨b_3, 1, none⟩)) (v := I ((b_Olds.getD i3 default).dst)) (gd_of (c := !(((r5 || r6) || (decide (((b_Olds.getD i3 default).dst) < ((b_Olds.getD i3 default).src)))) || r7)) hg (.pointer (some ⟨b_3, 1, none⟩))) (ldb_sc Sc3 (H.blk (k := 0) rfl) rfl)) ?_
  obtain ⟨r8, hx85z, hM⟩ := M.e_bind hM
  refine t_gcall (!(((r5 || r6) || (decide (((b_Olds.getD i3 default).dst) < ((b_Olds.getD i3 default).src)))) || r7)) (gy_f rfl) cf89 (B r8) (fun _ => [u72z, I ((b_Olds.getD i3 default).src), I ((b_Olds.getD i3 default).dst)]) (fun hg => lst3 (gd_of (c := !(((r5 || r6) || (decide (((b_Olds.getD i3 default).dst) < ((b_Olds.getD i3 default).src)))) || r7)) hg (u72z)) (gd_of (c := !(((r5 || r6) || (decide (((b_Olds.getD i3 default).dst) < ((b_Olds.getD i3 default).src)))) || r7)) hg (I ((b_Olds.getD i3 default).src))) (gd_of (c := !(((r5 || r6) || (decide (((b_Olds.getD i3 default).dst) < ((b_Olds.getD i3 default).src)))) || r7)) hg (I ((b_Olds.getD i3 default).dst)))) H (fun hg => (zcT ((b_Olds.getD i3 default).passed) ((b_Olds.getD i3 default).src) ((b_Olds.getD i3 default).dst) (hC_b_Olds.app _) hs73z (M.e_opt hx85z hg) _ (H.give (A := []) rfl)).mono fun v_ w_ ⟨y_, hr_, hv_, H_⟩ => by subst hr_; exact ⟨hv_, H.via H_⟩) ?_
  intro w86z H
  refine s_val (x_por (b := (((r5 || r6) || (decide (((b_Olds.getD i3 default).dst) < ((b_Olds.getD i3 default).src)))) || r7)) (r := r8) rfl rfl (fun hb => gd_of (c := !(((r5 || r6) || (decide (((b_Olds.getD i3 default).dst) < ((b_Olds.getD i3 default).src)))) || r7)) (by first | exact hb | (rw [hb]; rfl) | simp_all) (B r8))) ?_
  refine s_nil ?_
  refine W.cond ((((r5 || r6) || (decide (((b_Olds.getD i3 default).dst) < ((b_Olds.getD i3 default).src)))) || r7) || r8) rfl (fun c87z => ?_) (fun c87z => ?_)
  ·replace hM := M.e_t hM c87z
   refine W.seq ?_
   refine W.region rfl ?_
   refine s_val (x_as (v := I 110) rfl) ?_
   refine s_nil ?_
   refine W.ret ?_
   have hX88z := M.e_inr hM hN68z
   subst hX88z
   replace hM := hk61z
   try dsimp only at hM
   have hr_ := M.e_pure hM
   exact ⟨_, resE_tmp rfl, ⟨110, hr_, rfl, (H.pick [] (by decide) rfl)⟩⟩
  replace hM := M.e_f hM c87z
  refine W.skip ?_
  refine W.region rfl ?_
  refine s_val (x_mv (v := I (i3 : Int)) rfl) ?_
  refine s_val (x_ari (a := (i3 : Int)) (b := 1) (r := (i3 : Int) + 1) rfl rfl rfl (by omega)) ?_
  refine s_val (x_as (v := I ((i3 : Int) + 1)) rfl) ?_
  refine s_nil ?_
  exact ⟨m65z, lt66z, i3 + 1, _, upds_of _ _ ⟨rfl, rfl, trivial⟩, M.e_inl hM hN68z, (H.pick [1] (by decide) rfl)⟩
 replace hM := M.e_f hM c70z
 simp only [decide_eq_true_eq, decide_eq_false_iff_not, beq_iff_eq, bne_iff_ne, beq_eq_false_iff_ne, bne_eq_false_iff_eq, ne_eq, Decidable.not_not] at c70z
 refine W.exit ?_
 have hX89z := M.e_inr hM hN68z
 subst hX89z
 replace hM := hk61z
 try dsimp only at hM
 refine W.seq ?_
 refine W.region rfl ?_
 refine s_val (x_as (v := I 0) rfl) ?_
 refine s_nil ?_
 refine W.ret ?_
 have hr_ := M.e_pure hM
 exact ⟨_, resE_tmp rfl, ⟨0, hr_, rfl, (H.pick [] (by decide) rfl)⟩⟩

end Go.Proofs.Ytcgalcbkkijkhaa
end
section
set_option maxRecDepth 100000
set_option maxHeartbeats 16000000
namespace Go.Proofs.Ytcgalcbkkijkhaa
open Go Go.Nm
def zaX (b_Years : List Yr) (year : Int) (stage : Int) : Nat -> M (Nat ⊕ (Unit ⊕ Unit)) := fun i =>
  bif decide ((i : Int) < (b_Years.length : Int)) then (
  M.grd (decide ((i : Int) < (b_Years.length : Int))) <|
  M.bind (M.opt (((b_Years.getD i default).year) == year) (zac stage ((b_Years.getD i default).lo) ((b_Years.getD i default).hi)) false) fun r2 =>
  bif ((((b_Years.getD i default).year) == year) && r2) then (
  M.pure (.inr (.inl ())))
  else (
  M.pure (.inl (i + 1))))
  else (
  M.pure (.inr (.inr ())))
def zaA (b_Olds : List Old10) (year : Int) (i2 : Nat) : (Bool × Nat) -> M ((Bool × Nat) ⊕ Bool) := fun (said, k) =>
  bif decide ((k : Int) < (((b_Olds.getD i2 default).passed).length : Int)) then (
  M.grd ((!(!said) || (decide ((k : Int) < (((b_Olds.getD i2 default).passed).length : Int))))) <|
  M.pure (.inl ((said || ((((b_Olds.getD i2 default).passed).getD k 0) == year)), k + 1)))
  else (
  M.pure (.inr said))
def zbd (b_Olds : List Old10) (year : Int) (stage : Int) : Nat -> M (Nat ⊕ (Unit ⊕ Unit)) := fun i2 =>
  bif decide ((i2 : Int) < (b_Olds.length : Int)) then (
  M.grd (decide ((i2 : Int) < (b_Olds.length : Int))) <|
  M.bind (zac year ((b_Olds.getD i2 default).src) ((b_Olds.getD i2 default).dst)) fun r3 =>
  bif r3 then (
  M.pure (.inl (i2 + 1)))
  else (
  M.bind (M.iter (zaA b_Olds year i2) (false, 0)) fun said2 =>
  bif (said2 != (decide (((b_Olds.getD i2 default).stage) <= stage))) then (
  M.pure (.inr (.inl ())))
  else (
  M.pure (.inl (i2 + 1)))))
  else (
  M.pure (.inr (.inr ())))
def za7 (b_Years : List Yr) (b_Olds : List Old10) (b_First : Int) (b_Last : Int) (year : Int) (stage : Int) : M Bool :=
  M.bind (M.iter (zaX b_Years year stage) 0) fun x_ => match x_ with
  | (.inl (_ : Unit)) => (
  M.pure false)
  | (.inr (_ : Unit)) => (
  M.bind (M.iter (zbd b_Olds year stage) 0) fun x_ => match x_ with
  | (.inl (_ : Unit)) => (
  M.pure false)
  | (.inr (_ : Unit)) => (
  M.pure true))
theorem zcw {R : List Chunk} {C_b_Years : Cells} {v_b_Years : Value} {C_b_Olds : Cells} {v_b_Olds : Value} (b_Years : List Yr) (b_Olds : List Old10) (b_First : Int) (b_Last : Int) (year : Int) (stage : Int) (hC_b_Years : Reads R C_b_Years) (hs_b_Years : Sl C_b_Years v_b_Years b_Years) (hC_b_Olds : Reads R C_b_Olds) (hs_b_Olds : Sl C_b_Olds v_b_Olds b_Olds) {r : Bool} (hM : (za7 b_Years b_Olds b_First b_Last year stage).Ends r) (w : World) (H : St w w [] R) : Ret Try.prog 68 #[.agg #[v_b_Years, v_b_Olds, I b_First, I b_Last], I year, I stage] w fun v w' => ∃ (y0 : Bool), y0 = r /\ v = B y0 /\ St w w' [] R := by
 refine ret_of_W Try.func68 rfl rfl rfl ?_
 refine W.seq ?_
 refine W.region rfl ?_
 refine t_box (v := .agg #[v_b_Years, v_b_Olds, I b_First, I b_Last]) (cs := [v_b_Years, v_b_Olds, I b_First, I b_Last]) H rfl rfl ?_
 intro b_1 w1z H
 refine s_val (x_as (v := B false) rfl) ?_
 refine s_nil ?_
 refine W.seq ?_
 refine W.seq ?_
 refine W.region rfl ?_
 refine s_val (x_as (v := I 0) rfl) ?_
 refine s_nil ?_
 refine W.block ?_
 obtain ⟨ex2z, hi3z, hk4z⟩ := M.e_bind hM
 obtain ⟨m0_, hi3z⟩ := M.e_iter hi3z
 refine W.loop (fun m σ W => ∃ (i : Nat) (ρ : Env), σ = upds ρ [(1, I year), (2, I stage), (3, .pointer (some ⟨b_1, 0, none⟩)), (7, I (i : Int))] /\ M.iterN (zaX b_Years year stage) m i = some ex2z /\ St w W [cBlk b_1 [v_b_Years, v_b_Olds, I b_First, I b_Last] 55] R) ?_ ?_
 ·exact ⟨_, 0, _, upds_of _ _ ⟨rfl, rfl, rfl, rfl, trivial⟩, hi3z, H⟩
 rintro m7z σ w5z ⟨i, ρ, rfl, hI6z, H⟩
 obtain ⟨m8z, lt9z, x10z, hM, hN11z⟩ := M.e_iterN hI6z
 simp only [zaX] at hM
 clear hI6z
 refine W.seq ?_
 refine W.seq ?_
 refine W.region rfl ?_
 refine s_val (x_mv (v := I (i : Int)) rfl) ?_
 refine s_val (x_fa (a := .pointer (some ⟨b_1, 0, none⟩)) (v := .pointer (some ⟨b_1, 0, none⟩)) rfl (fa_blk (o := 0) Fd55_0 Sz52)) ?_
 refine s_val (x_ld (p := .pointer (some ⟨b_1, 0, none⟩)) (v := v_b_Years) rfl (ldb_sc Sc52 (H.blk (k := 0) rfl) rfl)) ?_
 have hl12z := (hs_b_Years).len_le
 refine s_val (x_lenS T52.und rfl hs_b_Years) ?_
 refine s_val (x_cmp (kd := .i64) (a := (i : Int)) (b := (b_Years.length : Int)) (r := decide ((i : Int) < (b_Years.length : Int))) rfl rfl rfl) ?_
 refine s_nil ?_
 refine W.cond (decide ((i : Int) < (b_Years.length : Int))) rfl (fun c13z => ?_) (fun c13z => ?_)
 ·replace hM := M.e_t hM c13z
  simp only [decide_eq_true_eq, decide_eq_false_iff_not, beq_iff_eq, bne_iff_ne, beq_eq_false_iff_ne, bne_eq_false_iff_eq, ne_eq, Decidable.not_not] at c13z
  refine W.skip ?_
  refine W.seq ?_
  refine W.block ?_
  refine W.seq ?_
  refine W.region rfl ?_
  refine s_val (x_fa (a := .pointer (some ⟨b_1, 0, none⟩)) (v := .pointer (some ⟨b_1, 0, none⟩)) rfl (fa_blk (o := 0) Fd55_0 Sz52)) ?_
  refine s_val (x_ld (p := .pointer (some ⟨b_1, 0, none⟩)) (v := v_b_Years) rfl (ldb_sc Sc52 (H.blk (k := 0) rfl) rfl)) ?_
  refine s_val (x_mv (v := I (i : Int)) rfl) ?_
  obtain ⟨sd14z, hM⟩ := M.e_grd hM
  simp only [Bool.and_eq_true, decide_eq_true_eq] at sd14z
  refine s_val (x_ix (a := v_b_Years) (b := I (i : Int)) (v := vat v_b_Years 3 (Int.toNat (i : Int))) rfl rfl (Sl.ix (α := Yr) T52.und T52.size hs_b_Years (by omega) (by omega))) ?_
  refine s_val (x_ld (p := vat v_b_Years 3 (Int.toNat (i : Int))) (v := .agg #[I ((b_Years.getD i default).year), I ((b_Years.getD i default).lo), I ((b_Years.getD i default).hi)]) rfl (ld_ag Ag127 Sz127 (At.mono (Yr_atA hs_b_Years (i := (i : Int)) (by omega) (by omega)) (hC_b_Years.at H)))) ?_
  refine t_alloc (cs := [I 0, I 0, I 0]) H Al127 rfl ?_
  intro b_2 w15z H
  refine t_st (k := 0) (b := b_2) (off := 0) (cs := [I 0, I 0, I 0]) (vs := [I ((b_Years.getD i default).year), I ((b_Years.getD i default).lo), I ((b_Years.getD i default).hi)]) (cs' := [I ((b_Years.getD i default).year), I ((b_Years.getD i default).lo), I ((b_Years.getD i default).hi)]) (v := .agg #[I ((b_Years.getD i default).year), I ((b_Years.getD i default).lo), I ((b_Years.getD i default).hi)]) (L' := [cBlk b_2 [I ((b_Years.getD i default).year), I ((b_Years.getD i default).lo), I ((b_Years.getD i default).hi)] 127, cBlk b_1 [v_b_Years, v_b_Olds, I b_First, I b_Last] 55]) H rfl rfl rfl Sz127 rfl rfl rfl rfl rfl rfl ?_
  intro w16z H
  refine s_nil ?_
  refine W.seq ?_
  refine W.region rfl ?_
  refine s_val (x_fa (a := .pointer (some ⟨b_2, 0, none⟩)) (v := .pointer (some ⟨b_2, 0, none⟩)) rfl (fa_blk (o := 0) Fd127_0 Sz3)) ?_
  refine s_val (x_ld (p := .pointer (some ⟨b_2, 0, none⟩)) (v := I ((b_Years.getD i default).year)) rfl (ldb_sc Sc3 (H.blk (k := 0) rfl) rfl)) ?_
  refine s_val (x_mv (v := I year) rfl) ?_
  refine s_val (x_cmp (kd := .i64) (a := (b_Years.getD i default).year) (b := year) (r := ((b_Years.getD i default).year) == year) rfl rfl rfl) ?_
  refine s_val (x_mv (v := B (((b_Years.getD i default).year) == year)) rfl) ?_
  refine g_val (((b_Years.getD i default).year) == year) (gy_t rfl) (fun hg => x_mv (v := I stage) rfl) ?_
  refine g_val (((b_Years.getD i default).year) == year) (gy_t rfl) (fun hg => x_fa (a := .pointer (some ⟨b_2, 0, none⟩)) (v := .pointer (some ⟨b_2, 1, none⟩)) rfl (fa_blk (o := 0) Fd127_1 Sz35)) ?_
  refine g_val (((b_Years.getD i default).year) == year) (gy_t rfl) (fun hg => x_fa (a := .pointer (some ⟨b_2, 1, none⟩)) (v := .pointer (some ⟨b_2, 1, none⟩)) (gd_of (c := ((b_Years.getD i default).year) == year) hg (.pointer (some ⟨b_2, 1, none⟩))) (fa_blk (o := 1) Fd35_0 Sz3)) ?_
  refine g_val (((b_Years.getD i default).year) == year) (gy_t rfl) (fun hg => x_ld (p := .pointer (some ⟨b_2, 1, none⟩)) (v := I ((b_Years.getD i default).lo)) (gd_of (c := ((b_Years.getD i default).year) == year) hg (.pointer (some ⟨b_2, 1, none⟩))) (ldb_sc Sc3 (H.blk (k := 0) rfl) rfl)) ?_
  refine g_val (((b_Years.getD i default).year) == year) (gy_t rfl) (fun hg => x_fa (a := .pointer (some ⟨b_2, 0, none⟩)) (v := .pointer (some ⟨b_2, 1, none⟩)) rfl (fa_blk (o := 0) Fd127_1 Sz35)) ?_
  refine g_val (((b_Years.getD i default).year) == year) (gy_t rfl) (fun hg => x_fa (a := .pointer (some ⟨b_2, 1, none⟩)) (v := .pointer (some ⟨b_2, 2, none⟩)) (gd_of (c := ((b_Years.getD i default).year) == year) hg (.pointer (some ⟨b_2, 1, none⟩))) (fa_blk (o := 1) Fd35_1 Sz3)) ?_
  refine g_val (((b_Years.getD i default).year) == year) (gy_t rfl) (fun hg => x_ld (p := .pointer (some ⟨b_2, 2, none⟩)) (v := I ((b_Years.getD i default).hi)) (gd_of (c := ((b_Years.getD i default).year) == year) hg (.pointer (some ⟨b_2, 2, none⟩))) (ldb_sc Sc3 (H.blk (k := 0) rfl) rfl)) ?_
  obtain ⟨r2, hx17z, hM⟩ := M.e_bind hM
  refine t_gcall (((b_Years.getD i default).year) == year) (gy_t rfl) cf67 (B r2) (fun _ => [I stage, I ((b_Years.getD i default).lo), I ((b_Years.getD i default).hi)]) (fun hg => lst3 (gd_of (c := ((b_Years.getD i default).year) == year) hg (I stage)) (gd_of (c := ((b_Years.getD i default).year) == year) hg (I ((b_Years.getD i default).lo))) (gd_of (c := ((b_Years.getD i default).year) == year) hg (I ((b_Years.getD i default).hi)))) H (fun hg => (zae stage ((b_Years.getD i default).lo) ((b_Years.getD i default).hi) (M.e_opt hx17z hg) _ (H.give (A := []) rfl)).mono fun v_ w_ ⟨y_, hr_, hv_, H_⟩ => by subst hr_; exact ⟨hv_, H.via H_⟩) ?_
  intro w18z H
  refine s_val (x_pand (b := ((b_Years.getD i default).year) == year) (r := r2) rfl (fun hb => gd_of (c := ((b_Years.getD i default).year) == year) (by first | exact hb | (rw [hb]; rfl) | simp_all) (B r2)) rfl) ?_
  refine s_nil ?_
  refine W.cond ((((b_Years.getD i default).year) == year) && r2) rfl (fun c19z => ?_) (fun c19z => ?_)
  ·replace hM := M.e_t hM c19z
   refine W.seq ?_
   refine W.region rfl ?_
   refine s_val (x_as (v := B false) rfl) ?_
   refine s_nil ?_
   refine W.ret ?_
   have hX20z := M.e_inr hM hN11z
   subst hX20z
   replace hM := hk4z
   try dsimp only at hM
   have hr_ := M.e_pure hM
   exact ⟨_, resE_tmp rfl, ⟨false, hr_, rfl, (H.pick [] (by decide) rfl)⟩⟩
  replace hM := M.e_f hM c19z
  refine W.skip ?_
  refine W.region rfl ?_
  refine s_val (x_mv (v := I (i : Int)) rfl) ?_
  refine s_val (x_ari (a := (i : Int)) (b := 1) (r := (i : Int) + 1) rfl rfl rfl (by omega)) ?_
  refine s_val (x_as (v := I ((i : Int) + 1)) rfl) ?_
  refine s_nil ?_
  exact ⟨m8z, lt9z, i + 1, _, upds_of _ _ ⟨rfl, rfl, rfl, rfl, trivial⟩, M.e_inl hM hN11z, (H.pick [1] (by decide) rfl)⟩
 replace hM := M.e_f hM c13z
 simp only [decide_eq_true_eq, decide_eq_false_iff_not, beq_iff_eq, bne_iff_ne, beq_eq_false_iff_ne, bne_eq_false_iff_eq, ne_eq, Decidable.not_not] at c13z
 refine W.exit ?_
 have hX21z := M.e_inr hM hN11z
 subst hX21z
 replace hM := hk4z
 try dsimp only at hM
 refine W.seq ?_
 refine W.seq ?_
 refine W.region rfl ?_
 refine s_val (x_as (v := I 0) rfl) ?_
 refine s_nil ?_
 refine W.block ?_
 obtain ⟨ex22z, hi23z, hk24z⟩ := M.e_bind hM
 obtain ⟨m0_, hi23z⟩ := M.e_iter hi23z
 refine W.loop (fun m σ W => ∃ (i2 : Nat) (ρ : Env), σ = upds ρ [(1, I year), (2, I stage), (3, .pointer (some ⟨b_1, 0, none⟩)), (9, I (i2 : Int))] /\ M.iterN (zbd b_Olds year stage) m i2 = some ex22z /\ St w W [cBlk b_1 [v_b_Years, v_b_Olds, I b_First, I b_Last] 55] R) ?_ ?_
 ·exact ⟨_, 0, _, upds_of _ _ ⟨rfl, rfl, rfl, rfl, trivial⟩, hi23z, H⟩
 rintro m27z σ w25z ⟨i2, ρ, rfl, hI26z, H⟩
 obtain ⟨m28z, lt29z, x30z, hM, hN31z⟩ := M.e_iterN hI26z
 simp only [zbd] at hM
 clear hI26z
 refine W.seq ?_
 refine W.seq ?_
 refine W.region rfl ?_
 refine s_val (x_mv (v := I (i2 : Int)) rfl) ?_
 refine s_val (x_fa (a := .pointer (some ⟨b_1, 0, none⟩)) (v := .pointer (some ⟨b_1, 1, none⟩)) rfl (fa_blk (o := 0) Fd55_1 Sz53)) ?_
 refine s_val (x_ld (p := .pointer (some ⟨b_1, 1, none⟩)) (v := v_b_Olds) rfl (ldb_sc Sc53 (H.blk (k := 0) rfl) rfl)) ?_
 have hl32z := (hs_b_Olds).len_le
 refine s_val (x_lenS T53.und rfl hs_b_Olds) ?_
 refine s_val (x_cmp (kd := .i64) (a := (i2 : Int)) (b := (b_Olds.length : Int)) (r := decide ((i2 : Int) < (b_Olds.length : Int))) rfl rfl rfl) ?_
 refine s_nil ?_
 refine W.cond (decide ((i2 : Int) < (b_Olds.length : Int))) rfl (fun c33z => ?_) (fun c33z => ?_)
 ·replace hM := M.e_t hM c33z
  simp only [decide_eq_true_eq, decide_eq_false_iff_not, beq_iff_eq, bne_iff_ne, beq_eq_false_iff_ne, bne_eq_false_iff_eq, ne_eq, Decidable.not_not] at c33z
  refine W.skip ?_
  refine W.seq ?_
  refine W.block ?_
  refine W.seq ?_
  refine W.region rfl ?_
  refine s_val (x_fa (a := .pointer (some ⟨b_1, 0, none⟩)) (v := .pointer (some ⟨b_1, 1, none⟩)) rfl (fa_blk (o := 0) Fd55_1 Sz53)) ?_
  refine s_val (x_ld (p := .pointer (some ⟨b_1, 1, none⟩)) (v := v_b_Olds) rfl (ldb_sc Sc53 (H.blk (k := 0) rfl) rfl)) ?_
  refine s_val (x_mv (v := I (i2 : Int)) rfl) ?_
  obtain ⟨sd34z, hM⟩ := M.e_grd hM
  simp only [Bool.and_eq_true, decide_eq_true_eq] at sd34z
  refine s_val (x_ix (a := v_b_Olds) (b := I (i2 : Int)) (v := vat v_b_Olds 4 (Int.toNat (i2 : Int))) rfl rfl (Sl.ix (α := Old10) T53.und T53.size hs_b_Olds (by omega) (by omega))) ?_
  obtain ⟨u35z, ha37z, hs36z⟩ := Old10_atA hs_b_Olds (i := (i2 : Int)) (by omega) (by omega)
  replace hs36z : Sl _ u35z (b_Olds.getD i2 default).passed := hs36z
  have hl_hs36z := hs36z.len_le
  refine s_val (x_ld (p := vat v_b_Olds 4 (Int.toNat (i2 : Int))) (v := .agg #[I ((b_Olds.getD i2 default).src), I ((b_Olds.getD i2 default).dst), I ((b_Olds.getD i2 default).stage), u35z]) rfl (ld_ag Ag128 Sz128 (At.mono ha37z (hC_b_Olds.at H)))) ?_
  refine t_alloc (cs := [I 0, I 0, I 0, .slice none 0 0]) H Al128 rfl ?_
  intro b_3 w38z H
  refine t_st (k := 0) (b := b_3) (off := 0) (cs := [I 0, I 0, I 0, .slice none 0 0]) (vs := [I ((b_Olds.getD i2 default).src), I ((b_Olds.getD i2 default).dst), I ((b_Olds.getD i2 default).stage), u35z]) (cs' := [I ((b_Olds.getD i2 default).src), I ((b_Olds.getD i2 default).dst), I ((b_Olds.getD i2 default).stage), u35z]) (v := .agg #[I ((b_Olds.getD i2 default).src), I ((b_Olds.getD i2 default).dst), I ((b_Olds.getD i2 default).stage), u35z]) (L' := [cBlk b_3 [I ((b_Olds.getD i2 default).src), I ((b_Olds.getD i2 default).dst), I ((b_Olds.getD i2 default).stage), u35z] 128, cBlk b_1 [v_b_Years, v_b_Olds, I b_First, I b_Last] 55]) H rfl rfl rfl Sz128 rfl rfl rfl (by simp only [List.all_cons, List.all_nil, Bool.true_and, Bool.and_true, Sl.oc hs36z]; try rfl) rfl rfl ?_
  intro w39z H
  refine s_nil ?_
  refine W.seq ?_
  refine W.seq ?_
  refine W.region rfl ?_
  refine s_val (x_mv (v := I year) rfl) ?_
  refine s_val (x_fa (a := .pointer (some ⟨b_3, 0, none⟩)) (v := .pointer (some ⟨b_3, 0, none⟩)) rfl (fa_blk (o := 0) Fd128_0 Sz3)) ?_
  refine s_val (x_ld (p := .pointer (some ⟨b_3, 0, none⟩)) (v := I ((b_Olds.getD i2 default).src)) rfl (ldb_sc Sc3 (H.blk (k := 0) rfl) rfl)) ?_
  refine s_val (x_fa (a := .pointer (some ⟨b_3, 0, none⟩)) (v := .pointer (some ⟨b_3, 1, none⟩)) rfl (fa_blk (o := 0) Fd128_1 Sz3)) ?_
  refine s_val (x_ld (p := .pointer (some ⟨b_3, 1, none⟩)) (v := I ((b_Olds.getD i2 default).dst)) rfl (ldb_sc Sc3 (H.blk (k := 0) rfl) rfl)) ?_
  obtain ⟨r41z, hx40z, hM⟩ := M.e_bind hM
  refine s_call cf67 [I year, I ((b_Olds.getD i2 default).src), I ((b_Olds.getD i2 default).dst)] rfl (zae year ((b_Olds.getD i2 default).src) ((b_Olds.getD i2 default).dst) hx40z _ (St.give (T := [cBlk b_3 [I ((b_Olds.getD i2 default).src), I ((b_Olds.getD i2 default).dst), I ((b_Olds.getD i2 default).stage), u35z] 128, cBlk b_1 [v_b_Years, v_b_Olds, I b_First, I b_Last] 55]) H rfl)) ?_
  rintro vq w42z ⟨r3, hr43z, hvq, H2_⟩
  subst hr43z
  subst vq
  try dsimp only at hM
  replace H : St w w42z [cBlk b_3 [I ((b_Olds.getD i2 default).src), I ((b_Olds.getD i2 default).dst), I ((b_Olds.getD i2 default).stage), u35z] 128, cBlk b_1 [v_b_Years, v_b_Olds, I b_First, I b_Last] 55] R := H.back H2_ rfl
  clear H2_
  refine s_nil ?_
  refine W.cond r3 rfl (fun c44z => ?_) (fun c44z => ?_)
  ·replace hM := M.e_t hM c44z
   refine W.exit ?_
   refine W.region rfl ?_
   refine s_val (x_mv (v := I (i2 : Int)) rfl) ?_
   refine s_val (x_ari (a := (i2 : Int)) (b := 1) (r := (i2 : Int) + 1) rfl rfl rfl (by omega)) ?_
   refine s_val (x_as (v := I ((i2 : Int) + 1)) rfl) ?_
   refine s_nil ?_
   exact ⟨m28z, lt29z, i2 + 1, _, upds_of _ _ ⟨rfl, rfl, rfl, rfl, trivial⟩, M.e_inl hM hN31z, (H.pick [1] (by decide) rfl)⟩
  replace hM := M.e_f hM c44z
  refine W.skip ?_
  refine W.seq ?_
  refine W.region rfl ?_
  refine s_val (x_as (v := B false) rfl) ?_
  refine s_nil ?_
  refine W.seq ?_
  refine W.seq ?_
  refine W.region rfl ?_
  refine s_val (x_as (v := I 0) rfl) ?_
  refine s_nil ?_
  refine W.block ?_
  obtain ⟨ex45z, hi46z, hk47z⟩ := M.e_bind hM
  obtain ⟨m0_, hi46z⟩ := M.e_iter hi46z
  refine W.loop (fun m σ W => ∃ (said : Bool) (k : Nat) (ρ : Env), σ = upds ρ [(1, I year), (2, I stage), (3, .pointer (some ⟨b_1, 0, none⟩)), (9, I (i2 : Int)), (10, .pointer (some ⟨b_3, 0, none⟩)), (11, B said), (12, I (k : Int))] /\ M.iterN (zaA b_Olds year i2) m (said, k) = some ex45z /\ St w W [cBlk b_3 [I ((b_Olds.getD i2 default).src), I ((b_Olds.getD i2 default).dst), I ((b_Olds.getD i2 default).stage), u35z] 128, cBlk b_1 [v_b_Years, v_b_Olds, I b_First, I b_Last] 55] R) ?_ ?_
  ·exact ⟨_, false, 0, _, upds_of _ _ ⟨rfl, rfl, rfl, rfl, rfl, rfl, rfl, trivial⟩, hi46z, H⟩
  rintro m50z σ w48z ⟨said, k, ρ, rfl, hI49z, H⟩
  obtain ⟨m51z, lt52z, x53z, hM, hN54z⟩ := M.e_iterN hI49z
  simp only [zaA] at hM
  clear hI49z
  refine W.seq ?_
  refine W.seq ?_
  refine W.region rfl ?_
  refine s_val (x_mv (v := I (k : Int)) rfl) ?_
  refine s_val (x_fa (a := .pointer (some ⟨b_3, 0, none⟩)) (v := .pointer (some ⟨b_3, 3, none⟩)) rfl (fa_blk (o := 0) Fd128_3 Sz27)) ?_
  refine s_val (x_ld (p := .pointer (some ⟨b_3, 3, none⟩)) (v := u35z) rfl (ldb_sc Sc27 (H.blk (k := 0) rfl) rfl)) ?_
  have hl55z := (hs36z).len_le
  refine s_val (x_lenS T27.und rfl hs36z) ?_
  refine s_val (x_cmp (kd := .i64) (a := (k : Int)) (b := (((b_Olds.getD i2 default).passed).length : Int)) (r := decide ((k : Int) < (((b_Olds.getD i2 default).passed).length : Int))) rfl rfl rfl) ?_
  refine s_nil ?_
  refine W.cond (decide ((k : Int) < (((b_Olds.getD i2 default).passed).length : Int))) rfl (fun c56z => ?_) (fun c56z => ?_)
  ·replace hM := M.e_t hM c56z
   simp only [decide_eq_true_eq, decide_eq_false_iff_not, beq_iff_eq, bne_iff_ne, beq_eq_false_iff_ne, bne_eq_false_iff_eq, ne_eq, Decidable.not_not] at c56z
   refine W.skip ?_
   refine W.seq ?_
   refine W.block ?_
   refine W.region rfl ?_
   refine s_val (x_mv (v := B said) rfl) ?_
   refine s_val (x_mv (v := B said) rfl) ?_
   refine g_val (!said) (gy_f rfl) (fun hg => x_fa (a := .pointer (some ⟨b_3, 0, none⟩)) (v := .pointer (some ⟨b_3, 3, none⟩)) rfl (fa_blk (o := 0) Fd128_3 Sz27)) ?_
   refine g_val (!said) (gy_f rfl) (fun hg => x_ld (p := .pointer (some ⟨b_3, 3, none⟩)) (v := u35z) (gd_of (c := !said) hg (.pointer (some ⟨b_3, 3, none⟩))) (ldb_sc Sc27 (H.blk (k := 0) rfl) rfl)) ?_
   refine g_val (!said) (gy_f rfl) (fun hg => x_mv (v := I (k : Int)) rfl) ?_
   obtain ⟨sd57z, hM⟩ := M.e_grd hM
   replace sd57z := M.imp_of sd57z
   simp only [Bool.and_eq_true, decide_eq_true_eq] at sd57z
   refine g_val (!said) (gy_f rfl) (fun hg => x_ix (a := u35z) (b := I (k : Int)) (v := vat u35z 1 (Int.toNat (k : Int))) (gd_of (c := !said) hg (u35z)) (gd_of (c := !said) hg (I (k : Int))) (Sl.ix (α := Int) T27.und T27.size hs36z (by have h1_ := sd57z.resolve_left (by rw [hg]; decide); first | exact h1_ | exact h1_.1 | exact h1_.2 | omega | (have hx_ := hg; simp at hx_; omega)) (by have h1_ := sd57z.resolve_left (by rw [hg]; decide); first | exact h1_ | exact h1_.1 | exact h1_.2 | omega | (have hx_ := hg; simp at hx_; omega)))) ?_
   refine g_val (!said) (gy_f rfl) (fun hg => x_ld (p := vat u35z 1 (Int.toNat (k : Int))) (v := I (((b_Olds.getD i2 default).passed).getD k 0)) (gd_of (c := !said) hg (vat u35z 1 (Int.toNat (k : Int)))) (ld_sc Sc3 (At.mono (Int_at hs36z (i := (k : Int)) (by have h1_ := sd57z.resolve_left (by rw [hg]; decide); first | exact h1_ | exact h1_.1 | exact h1_.2 | omega | (have hx_ := hg; simp at hx_; omega)) (by have h1_ := sd57z.resolve_left (by rw [hg]; decide); first | exact h1_ | exact h1_.1 | exact h1_.2 | omega | (have hx_ := hg; simp at hx_; omega))) (hC_b_Olds.at H)))) ?_
   refine g_val (!said) (gy_f rfl) (fun hg => x_mv (v := I year) rfl) ?_
   refine g_val (!said) (gy_f rfl) (fun hg => x_cmp (kd := .i64) (a := ((b_Olds.getD i2 default).passed).getD k 0) (b := year) (r := (((b_Olds.getD i2 default).passed).getD k 0) == year) (gd_of (c := !said) hg (I (((b_Olds.getD i2 default).passed).getD k 0))) (gd_of (c := !said) hg (I year)) rfl) ?_
   refine s_val (x_por (b := said) (r := (((b_Olds.getD i2 default).passed).getD k 0) == year) rfl rfl (fun hb => gd_of (c := !said) (by first | exact hb | (rw [hb]; rfl) | simp_all) (B ((((b_Olds.getD i2 default).passed).getD k 0) == year)))) ?_
   refine s_val (x_as (v := B (said || ((((b_Olds.getD i2 default).passed).getD k 0) == year))) rfl) ?_
   refine s_nil ?_
   refine W.region rfl ?_
   refine s_val (x_mv (v := I (k : Int)) rfl) ?_
   refine s_val (x_ari (a := (k : Int)) (b := 1) (r := (k : Int) + 1) rfl rfl rfl (by omega)) ?_
   refine s_val (x_as (v := I ((k : Int) + 1)) rfl) ?_
   refine s_nil ?_
   exact ⟨m51z, lt52z, (said || ((((b_Olds.getD i2 default).passed).getD k 0) == year)), k + 1, _, upds_of _ _ ⟨rfl, rfl, rfl, rfl, rfl, rfl, rfl, trivial⟩, M.e_inl hM hN54z, H⟩
  replace hM := M.e_f hM c56z
  simp only [decide_eq_true_eq, decide_eq_false_iff_not, beq_iff_eq, bne_iff_ne, beq_eq_false_iff_ne, bne_eq_false_iff_eq, ne_eq, Decidable.not_not] at c56z
  refine W.exit ?_
  have hX58z := M.e_inr hM hN54z
  subst hX58z
  replace hM := hk47z
  try dsimp only at hM
  refine W.seq ?_
  refine W.region rfl ?_
  refine s_val (x_mv (v := B said) rfl) ?_
  refine s_val (x_mv (v := I stage) rfl) ?_
  refine s_val (x_fa (a := .pointer (some ⟨b_3, 0, none⟩)) (v := .pointer (some ⟨b_3, 2, none⟩)) rfl (fa_blk (o := 0) Fd128_2 Sz3)) ?_
  refine s_val (x_ld (p := .pointer (some ⟨b_3, 2, none⟩)) (v := I ((b_Olds.getD i2 default).stage)) rfl (ldb_sc Sc3 (H.blk (k := 0) rfl) rfl)) ?_
  refine s_val (x_cmp (kd := .i64) (a := stage) (b := (b_Olds.getD i2 default).stage) (r := decide (((b_Olds.getD i2 default).stage) <= stage)) rfl rfl rfl) ?_
  refine s_val (x_eqb (a := said) (b := decide (((b_Olds.getD i2 default).stage) <= stage)) (r := (said != (decide (((b_Olds.getD i2 default).stage) <= stage)))) rfl rfl Try.underlying4 rfl) ?_
  refine s_nil ?_
  refine W.cond (said != (decide (((b_Olds.getD i2 default).stage) <= stage))) rfl (fun c59z => ?_) (fun c59z => ?_)
  ·replace hM := M.e_t hM c59z
   simp only [decide_eq_true_eq, decide_eq_false_iff_not, beq_iff_eq, bne_iff_ne, beq_eq_false_iff_ne, bne_eq_false_iff_eq, ne_eq, Decidable.not_not] at c59z
   refine W.seq ?_
   refine W.region rfl ?_
   refine s_val (x_as (v := B false) rfl) ?_
   refine s_nil ?_
   refine W.ret ?_
   have hX60z := M.e_inr hM hN31z
   subst hX60z
   replace hM := hk24z
   try dsimp only at hM
   have hr_ := M.e_pure hM
   exact ⟨_, resE_tmp rfl, ⟨false, hr_, rfl, (H.pick [] (by decide) rfl)⟩⟩
  replace hM := M.e_f hM c59z
  simp only [decide_eq_true_eq, decide_eq_false_iff_not, beq_iff_eq, bne_iff_ne, beq_eq_false_iff_ne, bne_eq_false_iff_eq, ne_eq, Decidable.not_not] at c59z
  refine W.skip ?_
  refine W.region rfl ?_
  refine s_val (x_mv (v := I (i2 : Int)) rfl) ?_
  refine s_val (x_ari (a := (i2 : Int)) (b := 1) (r := (i2 : Int) + 1) rfl rfl rfl (by omega)) ?_
  refine s_val (x_as (v := I ((i2 : Int) + 1)) rfl) ?_
  refine s_nil ?_
  exact ⟨m28z, lt29z, i2 + 1, _, upds_of _ _ ⟨rfl, rfl, rfl, rfl, trivial⟩, M.e_inl hM hN31z, (H.pick [1] (by decide) rfl)⟩
 replace hM := M.e_f hM c33z
 simp only [decide_eq_true_eq, decide_eq_false_iff_not, beq_iff_eq, bne_iff_ne, beq_eq_false_iff_ne, bne_eq_false_iff_eq, ne_eq, Decidable.not_not] at c33z
 refine W.exit ?_
 have hX61z := M.e_inr hM hN31z
 subst hX61z
 replace hM := hk24z
 try dsimp only at hM
 refine W.seq ?_
 refine W.region rfl ?_
 refine s_val (x_as (v := B true) rfl) ?_
 refine s_nil ?_
 refine W.ret ?_
 have hr_ := M.e_pure hM
 exact ⟨_, resE_tmp rfl, ⟨true, hr_, rfl, (H.pick [] (by decide) rfl)⟩⟩

def zaY (stages : List Int) : Nat -> M (Nat ⊕ (Unit ⊕ Unit)) := fun i =>
  bif decide ((i : Int) < (stages.length : Int)) then (
  M.grd (decide ((i : Int) < (stages.length : Int))) <|
  M.bind (zac (stages.getD i 0) 0 2000) fun r3 =>
  bif r3 then (
  M.pure (.inr (.inl ())))
  else (
  M.pure (.inl (i + 1))))
  else (
  M.pure (.inr (.inr ())))
def zaS (b_Years : List Yr) (b_Olds : List Old10) (b_First : Int) (b_Last : Int) (stages : List Int) : Nat -> M (Nat ⊕ (Unit ⊕ Unit)) := fun i2 =>
  bif decide ((i2 : Int) < (stages.length : Int)) then (
  M.grd (decide ((-9223372036854775808 : Int) <= (b_First + (i2 : Int))) && decide ((b_First + (i2 : Int)) <= (9223372036854775807 : Int))) <|
  M.grd (decide ((i2 : Int) < (stages.length : Int))) <|
  M.bind (za7 b_Years b_Olds b_First b_Last (b_First + (i2 : Int)) (stages.getD i2 0)) fun r4 =>
  bif !r4 then (
  M.pure (.inr (.inl ())))
  else (
  M.pure (.inl (i2 + 1))))
  else (
  M.pure (.inr (.inr ())))
def zbP (b_Years : List Yr) (b_Olds : List Old10) (b_First : Int) (b_Last : Int) (stages : List Int) : M (Bool × Int) :=
  M.bind (za4 b_Years b_Olds b_First b_Last) fun r2 =>
  bif r2 != 0 then (
  M.pure (false, r2))
  else (
  M.grd (decide ((-9223372036854775808 : Int) <= (b_Last - b_First)) && decide ((b_Last - b_First) <= (9223372036854775807 : Int))) <|
  M.grd (decide ((-9223372036854775808 : Int) <= ((b_Last - b_First) + 1)) && decide (((b_Last - b_First) + 1) <= (9223372036854775807 : Int))) <|
  bif (stages.length : Int) != ((b_Last - b_First) + 1) then (
  M.pure (false, 2))
  else (
  M.bind (M.iter (zaY stages) 0) fun x_ => match x_ with
  | (.inl (_ : Unit)) => (
  M.pure (false, 4))
  | (.inr (_ : Unit)) => (
  M.bind (M.iter (zaS b_Years b_Olds b_First b_Last stages) 0) fun x_ => match x_ with
  | (.inl (_ : Unit)) => (
  M.pure (false, 0))
  | (.inr (_ : Unit)) => (
  M.pure (true, 0)))))
theorem zcO {R : List Chunk} {C_b_Years : Cells} {v_b_Years : Value} {C_b_Olds : Cells} {v_b_Olds : Value} {C_stages : Cells} {v_stages : Value} (b_Years : List Yr) (b_Olds : List Old10) (b_First : Int) (b_Last : Int) (stages : List Int) (hC_b_Years : Reads R C_b_Years) (hs_b_Years : Sl C_b_Years v_b_Years b_Years) (hC_b_Olds : Reads R C_b_Olds) (hs_b_Olds : Sl C_b_Olds v_b_Olds b_Olds) (hC_stages : Reads R C_stages) (hs_stages : Sl C_stages v_stages stages) {r : (Bool × Int)} (hM : (zbP b_Years b_Olds b_First b_Last stages).Ends r) (w : World) (H : St w w [] R) : Ret Try.prog 25 #[.agg #[v_b_Years, v_b_Olds, I b_First, I b_Last], v_stages] w fun v w' => ∃ (y0 : Bool) (y1 : Int), (y0, y1) = r /\ v = .tuple #[B y0, I y1] /\ St w w' [] R := by
 refine ret_of_W Try.func25 rfl rfl rfl ?_
 refine W.seq ?_
 refine W.region rfl ?_
 refine t_box (v := .agg #[v_b_Years, v_b_Olds, I b_First, I b_Last]) (cs := [v_b_Years, v_b_Olds, I b_First, I b_Last]) H rfl rfl ?_
 intro b_1 w1z H
 refine s_val (x_as (v := B false) rfl) ?_
 refine s_val (x_as (v := I 0) rfl) ?_
 refine s_nil ?_
 refine W.seq ?_
 refine W.seq ?_
 refine W.region rfl ?_
 refine s_val (x_ld (p := .pointer (some ⟨b_1, 0, none⟩)) (v := .agg #[v_b_Years, v_b_Olds, I b_First, I b_Last]) rfl (ldb_ag (ds := [v_b_Years, v_b_Olds, I b_First, I b_Last]) Ag55 Sz55 (H.blk (k := 0) rfl) rfl rfl)) ?_
 obtain ⟨r3z, hx2z, hM⟩ := M.e_bind hM
 refine s_call cf48 [.agg #[v_b_Years, v_b_Olds, I b_First, I b_Last]] rfl (zcv b_Years b_Olds b_First b_Last (hC_b_Years.app _) hs_b_Years (hC_b_Olds.app _) hs_b_Olds hx2z _ (St.give (T := [cBlk b_1 [v_b_Years, v_b_Olds, I b_First, I b_Last] 55]) H rfl)) ?_
 rintro vq w4z ⟨r2, hr5z, hvq, H2_⟩
 subst hr5z
 subst vq
 try dsimp only at hM
 replace H : St w w4z [cBlk b_1 [v_b_Years, v_b_Olds, I b_First, I b_Last] 55] R := H.back H2_ rfl
 clear H2_
 refine s_val (x_as (v := I r2) rfl) ?_
 refine s_nil ?_
 refine W.seq ?_
 refine W.region rfl ?_
 refine s_val (x_mv (v := I r2) rfl) ?_
 refine s_val (x_cmp (kd := .i64) (a := r2) (b := 0) (r := r2 != 0) rfl rfl rfl) ?_
 refine s_nil ?_
 refine W.cond (r2 != 0) rfl (fun c6z => ?_) (fun c6z => ?_)
 ·replace hM := M.e_t hM c6z
  simp only [decide_eq_true_eq, decide_eq_false_iff_not, beq_iff_eq, bne_iff_ne, beq_eq_false_iff_ne, bne_eq_false_iff_eq, ne_eq, Decidable.not_not] at c6z
  refine W.seq ?_
  refine W.region rfl ?_
  refine s_val (x_mv (v := I r2) rfl) ?_
  refine s_val (x_as (v := B false) rfl) ?_
  refine s_val (x_as (v := I r2) rfl) ?_
  refine s_nil ?_
  refine W.ret ?_
  have hr_ := M.e_pure hM
  exact ⟨_, resE_tmp2 rfl, ⟨false, r2, hr_, rfl, (H.pick [] (by decide) rfl)⟩⟩
 replace hM := M.e_f hM c6z
 simp only [decide_eq_true_eq, decide_eq_false_iff_not, beq_iff_eq, bne_iff_ne, beq_eq_false_iff_ne, bne_eq_false_iff_eq, ne_eq, Decidable.not_not] at c6z
 refine W.skip ?_
 refine W.seq ?_
 refine W.seq ?_
 refine W.region rfl ?_
 refine s_val (x_mv (v := v_stages) rfl) ?_
 have hl7z := (hs_stages).len_le
 refine s_val (x_lenS T27.und rfl hs_stages) ?_
 refine s_val (x_fa (a := .pointer (some ⟨b_1, 0, none⟩)) (v := .pointer (some ⟨b_1, 3, none⟩)) rfl (fa_blk (o := 0) Fd55_3 Sz3)) ?_
 refine s_val (x_ld (p := .pointer (some ⟨b_1, 3, none⟩)) (v := I b_Last) rfl (ldb_sc Sc3 (H.blk (k := 0) rfl) rfl)) ?_
 refine s_val (x_fa (a := .pointer (some ⟨b_1, 0, none⟩)) (v := .pointer (some ⟨b_1, 2, none⟩)) rfl (fa_blk (o := 0) Fd55_2 Sz3)) ?_
 refine s_val (x_ld (p := .pointer (some ⟨b_1, 2, none⟩)) (v := I b_First) rfl (ldb_sc Sc3 (H.blk (k := 0) rfl) rfl)) ?_
 obtain ⟨sd8z, hM⟩ := M.e_grd hM
 simp only [Bool.and_eq_true, decide_eq_true_eq] at sd8z
 refine s_val (x_ari (a := b_Last) (b := b_First) (r := b_Last - b_First) rfl rfl rfl (by omega)) ?_
 obtain ⟨sd9z, hM⟩ := M.e_grd hM
 simp only [Bool.and_eq_true, decide_eq_true_eq] at sd9z
 refine s_val (x_ari (a := b_Last - b_First) (b := 1) (r := (b_Last - b_First) + 1) rfl rfl rfl (by omega)) ?_
 refine s_val (x_cmp (kd := .i64) (a := (stages.length : Int)) (b := (b_Last - b_First) + 1) (r := (stages.length : Int) != ((b_Last - b_First) + 1)) rfl rfl rfl) ?_
 refine s_nil ?_
 refine W.cond ((stages.length : Int) != ((b_Last - b_First) + 1)) rfl (fun c10z => ?_) (fun c10z => ?_)
 ·replace hM := M.e_t hM c10z
  simp only [decide_eq_true_eq, decide_eq_false_iff_not, beq_iff_eq, bne_iff_ne, beq_eq_false_iff_ne, bne_eq_false_iff_eq, ne_eq, Decidable.not_not] at c10z
  refine W.seq ?_
  refine W.region rfl ?_
  refine s_val (x_as (v := B false) rfl) ?_
  refine s_val (x_as (v := I 2) rfl) ?_
  refine s_nil ?_
  refine W.ret ?_
  have hr_ := M.e_pure hM
  exact ⟨_, resE_tmp2 rfl, ⟨false, 2, hr_, rfl, (H.pick [] (by decide) rfl)⟩⟩
 replace hM := M.e_f hM c10z
 simp only [decide_eq_true_eq, decide_eq_false_iff_not, beq_iff_eq, bne_iff_ne, beq_eq_false_iff_ne, bne_eq_false_iff_eq, ne_eq, Decidable.not_not] at c10z
 refine W.skip ?_
 refine W.seq ?_
 refine W.seq ?_
 refine W.region rfl ?_
 refine s_val (x_as (v := I 0) rfl) ?_
 refine s_nil ?_
 refine W.block ?_
 obtain ⟨ex11z, hi12z, hk13z⟩ := M.e_bind hM
 obtain ⟨m0_, hi12z⟩ := M.e_iter hi12z
 refine W.loop (fun m σ W => ∃ (i : Nat) (ρ : Env), σ = upds ρ [(1, v_stages), (2, .pointer (some ⟨b_1, 0, none⟩)), (7, I (i : Int))] /\ M.iterN (zaY stages) m i = some ex11z /\ St w W [cBlk b_1 [v_b_Years, v_b_Olds, I b_First, I b_Last] 55] R) ?_ ?_
 ·exact ⟨_, 0, _, upds_of _ _ ⟨rfl, rfl, rfl, trivial⟩, hi12z, H⟩
 rintro m16z σ w14z ⟨i, ρ, rfl, hI15z, H⟩
 obtain ⟨m17z, lt18z, x19z, hM, hN20z⟩ := M.e_iterN hI15z
 simp only [zaY] at hM
 clear hI15z
 refine W.seq ?_
 refine W.seq ?_
 refine W.region rfl ?_
 refine s_val (x_mv (v := I (i : Int)) rfl) ?_
 refine s_val (x_mv (v := v_stages) rfl) ?_
 have hl21z := (hs_stages).len_le
 refine s_val (x_lenS T27.und rfl hs_stages) ?_
 refine s_val (x_cmp (kd := .i64) (a := (i : Int)) (b := (stages.length : Int)) (r := decide ((i : Int) < (stages.length : Int))) rfl rfl rfl) ?_
 refine s_nil ?_
 refine W.cond (decide ((i : Int) < (stages.length : Int))) rfl (fun c22z => ?_) (fun c22z => ?_)
 ·replace hM := M.e_t hM c22z
  simp only [decide_eq_true_eq, decide_eq_false_iff_not, beq_iff_eq, bne_iff_ne, beq_eq_false_iff_ne, bne_eq_false_iff_eq, ne_eq, Decidable.not_not] at c22z
  refine W.skip ?_
  refine W.seq ?_
  refine W.block ?_
  refine W.seq ?_
  refine W.region rfl ?_
  refine s_val (x_mv (v := v_stages) rfl) ?_
  refine s_val (x_mv (v := I (i : Int)) rfl) ?_
  obtain ⟨sd23z, hM⟩ := M.e_grd hM
  simp only [Bool.and_eq_true, decide_eq_true_eq] at sd23z
  refine s_val (x_ix (a := v_stages) (b := I (i : Int)) (v := vat v_stages 1 (Int.toNat (i : Int))) rfl rfl (Sl.ix (α := Int) T27.und T27.size hs_stages (by omega) (by omega))) ?_
  refine s_val (x_ld (p := vat v_stages 1 (Int.toNat (i : Int))) (v := I (stages.getD i 0)) rfl (ld_sc Sc3 (At.mono (Int_at hs_stages (i := (i : Int)) (by omega) (by omega)) (hC_stages.at H)))) ?_
  obtain ⟨r25z, hx24z, hM⟩ := M.e_bind hM
  refine s_call cf67 [I (stages.getD i 0), I 0, I 2000] rfl (zae (stages.getD i 0) 0 2000 hx24z _ (St.give (T := [cBlk b_1 [v_b_Years, v_b_Olds, I b_First, I b_Last] 55]) H rfl)) ?_
  rintro vq w26z ⟨r3, hr27z, hvq, H2_⟩
  subst hr27z
  subst vq
  try dsimp only at hM
  replace H : St w w26z [cBlk b_1 [v_b_Years, v_b_Olds, I b_First, I b_Last] 55] R := H.back H2_ rfl
  clear H2_
  refine s_nil ?_
  refine W.cond r3 rfl (fun c28z => ?_) (fun c28z => ?_)
  ·replace hM := M.e_t hM c28z
   refine W.seq ?_
   refine W.region rfl ?_
   refine s_val (x_as (v := B false) rfl) ?_
   refine s_val (x_as (v := I 4) rfl) ?_
   refine s_nil ?_
   refine W.ret ?_
   have hX29z := M.e_inr hM hN20z
   subst hX29z
   replace hM := hk13z
   try dsimp only at hM
   have hr_ := M.e_pure hM
   exact ⟨_, resE_tmp2 rfl, ⟨false, 4, hr_, rfl, (H.pick [] (by decide) rfl)⟩⟩
  replace hM := M.e_f hM c28z
  refine W.skip ?_
  refine W.region rfl ?_
  refine s_val (x_mv (v := I (i : Int)) rfl) ?_
  refine s_val (x_ari (a := (i : Int)) (b := 1) (r := (i : Int) + 1) rfl rfl rfl (by omega)) ?_
  refine s_val (x_as (v := I ((i : Int) + 1)) rfl) ?_
  refine s_nil ?_
  exact ⟨m17z, lt18z, i + 1, _, upds_of _ _ ⟨rfl, rfl, rfl, trivial⟩, M.e_inl hM hN20z, H⟩
 replace hM := M.e_f hM c22z
 simp only [decide_eq_true_eq, decide_eq_false_iff_not, beq_iff_eq, bne_iff_ne, beq_eq_false_iff_ne, bne_eq_false_iff_eq, ne_eq, Decidable.not_not] at c22z
 refine W.exit ?_
 have hX30z := M.e_inr hM hN20z
 subst hX30z
 replace hM := hk13z
 try dsimp only at hM
 refine W.seq ?_
 refine W.seq ?_
 refine W.region rfl ?_
 refine s_val (x_as (v := I 0) rfl) ?_
 refine s_nil ?_
 refine W.block ?_
 obtain ⟨ex31z, hi32z, hk33z⟩ := M.e_bind hM
 obtain ⟨m0_, hi32z⟩ := M.e_iter hi32z
 refine W.loop (fun m σ W => ∃ (i2 : Nat) (ρ : Env), σ = upds ρ [(1, v_stages), (2, .pointer (some ⟨b_1, 0, none⟩)), (8, I (i2 : Int))] /\ M.iterN (zaS b_Years b_Olds b_First b_Last stages) m i2 = some ex31z /\ St w W [cBlk b_1 [v_b_Years, v_b_Olds, I b_First, I b_Last] 55] R) ?_ ?_
 ·exact ⟨_, 0, _, upds_of _ _ ⟨rfl, rfl, rfl, trivial⟩, hi32z, H⟩
 rintro m36z σ w34z ⟨i2, ρ, rfl, hI35z, H⟩
 obtain ⟨m37z, lt38z, x39z, hM, hN40z⟩ := M.e_iterN hI35z
 simp only [zaS] at hM
 clear hI35z
 refine W.seq ?_
 refine W.seq ?_
 refine W.region rfl ?_
 refine s_val (x_mv (v := I (i2 : Int)) rfl) ?_
 refine s_val (x_mv (v := v_stages) rfl) ?_
 have hl41z := (hs_stages).len_le
 refine s_val (x_lenS T27.und rfl hs_stages) ?_
 refine s_val (x_cmp (kd := .i64) (a := (i2 : Int)) (b := (stages.length : Int)) (r := decide ((i2 : Int) < (stages.length : Int))) rfl rfl rfl) ?_
 refine s_nil ?_
 refine W.cond (decide ((i2 : Int) < (stages.length : Int))) rfl (fun c42z => ?_) (fun c42z => ?_)
 ·replace hM := M.e_t hM c42z
  simp only [decide_eq_true_eq, decide_eq_false_iff_not, beq_iff_eq, bne_iff_ne, beq_eq_false_iff_ne, bne_eq_false_iff_eq, ne_eq, Decidable.not_not] at c42z
  refine W.skip ?_
  refine W.seq ?_
  refine W.block ?_
  refine W.seq ?_
  refine W.draw (fun W => St w W [cBlk b_1 [v_b_Years, v_b_Olds, I b_First, I b_Last] 55] R) [(0, true), (1, true), (2, true), (3, true), (4, true), (5, true), (6, true), (7, true), (8, true), (9, false), (10, true)] mixed (by decide +kernel) rfl ?_
  intro w43z hx_
  replace H : St w w43z [cBlk b_1 [v_b_Years, v_b_Olds, I b_First, I b_Last] 55] R := H.ext hx_
  clear hx_
  refine ⟨(H.pick [0] (by decide) rfl), ?_⟩
  refine d_q rfl (fun w' H => x_ld (p := .pointer (some ⟨b_1, 0, none⟩)) (v := .agg #[v_b_Years, v_b_Olds, I b_First, I b_Last]) rfl (ldb_ag (ds := [v_b_Years, v_b_Olds, I b_First, I b_Last]) Ag55 Sz55 (H.blk (k := 0) rfl) rfl rfl)) ?_
  refine d_q rfl (fun w' H => x_fa (a := .pointer (some ⟨b_1, 0, none⟩)) (v := .pointer (some ⟨b_1, 2, none⟩)) rfl (fa_blk (o := 0) Fd55_2 Sz3)) ?_
  refine d_q rfl (fun w' H => x_ld (p := .pointer (some ⟨b_1, 2, none⟩)) (v := I b_First) rfl (ldb_sc Sc3 (H.blk (k := 0) rfl) rfl)) ?_
  refine d_q rfl (fun w' H => x_mv (v := I (i2 : Int)) rfl) ?_
  obtain ⟨sd44z, hM⟩ := M.e_grd hM
  simp only [Bool.and_eq_true, decide_eq_true_eq] at sd44z
  refine d_q rfl (fun w' H => x_ari (a := b_First) (b := (i2 : Int)) (r := b_First + (i2 : Int)) rfl rfl rfl (by omega)) ?_
  refine d_q rfl (fun w' H => x_mv (v := v_stages) rfl) ?_
  refine d_q rfl (fun w' H => x_mv (v := I (i2 : Int)) rfl) ?_
  obtain ⟨sd45z, hM⟩ := M.e_grd hM
  simp only [Bool.and_eq_true, decide_eq_true_eq] at sd45z
  refine d_q rfl (fun w' H => x_ix (a := v_stages) (b := I (i2 : Int)) (v := vat v_stages 1 (Int.toNat (i2 : Int))) rfl rfl (Sl.ix (α := Int) T27.und T27.size hs_stages (by omega) (by omega))) ?_
  refine d_q rfl (fun w' H => x_ld (p := vat v_stages 1 (Int.toNat (i2 : Int))) (v := I (stages.getD i2 0)) rfl (ld_sc Sc3 (At.mono (Int_at hs_stages (i := (i2 : Int)) (by omega) (by omega)) (hC_stages.at H)))) ?_
  refine d_l rfl ?_
  obtain ⟨r47z, hx46z, hM⟩ := M.e_bind hM
  refine s_call cf68 [.agg #[v_b_Years, v_b_Olds, I b_First, I b_Last], I (b_First + (i2 : Int)), I (stages.getD i2 0)] rfl (zcw b_Years b_Olds b_First b_Last (b_First + (i2 : Int)) (stages.getD i2 0) (hC_b_Years.app _) hs_b_Years (hC_b_Olds.app _) hs_b_Olds hx46z _ (St.give (T := [cBlk b_1 [v_b_Years, v_b_Olds, I b_First, I b_Last] 55]) H rfl)) ?_
  rintro vq w48z ⟨r4, hr49z, hvq, H2_⟩
  subst hr49z
  subst vq
  try dsimp only at hM
  replace H : St w w48z [cBlk b_1 [v_b_Years, v_b_Olds, I b_First, I b_Last] 55] R := H.back H2_ rfl
  clear H2_
  refine s_nil ⟨(H.pick [0] (by decide) rfl), ?_⟩
  refine d_q rfl (fun w' H => x_not (b := r4) rfl) ?_
  refine d_nil ?_
  refine W.cond (!r4) rfl (fun c50z => ?_) (fun c50z => ?_)
  ·replace hM := M.e_t hM c50z
   refine W.seq ?_
   refine W.region rfl ?_
   refine s_val (x_as (v := B false) rfl) ?_
   refine s_val (x_as (v := I 0) rfl) ?_
   refine s_nil ?_
   refine W.ret ?_
   have hX51z := M.e_inr hM hN40z
   subst hX51z
   replace hM := hk33z
   try dsimp only at hM
   have hr_ := M.e_pure hM
   exact ⟨_, resE_tmp2 rfl, ⟨false, 0, hr_, rfl, (H.pick [] (by decide) rfl)⟩⟩
  replace hM := M.e_f hM c50z
  refine W.skip ?_
  refine W.region rfl ?_
  refine s_val (x_mv (v := I (i2 : Int)) rfl) ?_
  refine s_val (x_ari (a := (i2 : Int)) (b := 1) (r := (i2 : Int) + 1) rfl rfl rfl (by omega)) ?_
  refine s_val (x_as (v := I ((i2 : Int) + 1)) rfl) ?_
  refine s_nil ?_
  exact ⟨m37z, lt38z, i2 + 1, _, upds_of _ _ ⟨rfl, rfl, rfl, trivial⟩, M.e_inl hM hN40z, H⟩
 replace hM := M.e_f hM c42z
 simp only [decide_eq_true_eq, decide_eq_false_iff_not, beq_iff_eq, bne_iff_ne, beq_eq_false_iff_ne, bne_eq_false_iff_eq, ne_eq, Decidable.not_not] at c42z
 refine W.exit ?_
 have hX52z := M.e_inr hM hN40z
 subst hX52z
 replace hM := hk33z
 try dsimp only at hM
 refine W.seq ?_
 refine W.region rfl ?_
 refine s_val (x_as (v := B true) rfl) ?_
 refine s_val (x_as (v := I 0) rfl) ?_
 refine s_nil ?_
 refine W.ret ?_
 have hr_ := M.e_pure hM
 exact ⟨_, resE_tmp2 rfl, ⟨true, 0, hr_, rfl, (H.pick [] (by decide) rfl)⟩⟩

def zaU (b_Years : List Yr) (b_Olds : List Old10) (b_First : Int) (b_Last : Int) (year : Int) : (Int × Bool × Nat × Int) -> M ((Int × Bool × Nat × Int) ⊕ (Int × Int)) := fun (s, s2, stage, s3) =>
  bif decide ((stage : Int) <= 2000) then (
  M.bind (za7 b_Years b_Olds b_First b_Last year (stage : Int)) fun r2 =>
  bif r2 then (
  bif !s2 then (
  M.grd (decide ((-9223372036854775808 : Int) <= ((stage : Int) + 1)) && decide (((stage : Int) + 1) <= (9223372036854775807 : Int))) <|
  M.pure (.inl ((stage : Int), true, stage + 1, (stage : Int))))
  else (
  M.grd (decide ((-9223372036854775808 : Int) <= ((stage : Int) + 1)) && decide (((stage : Int) + 1) <= (9223372036854775807 : Int))) <|
  M.pure (.inl (s, true, stage + 1, (stage : Int)))))
  else (
  M.grd (decide ((-9223372036854775808 : Int) <= ((stage : Int) + 1)) && decide (((stage : Int) + 1) <= (9223372036854775807 : Int))) <|
  M.pure (.inl (s, s2, stage + 1, s3))))
  else (
  M.pure (.inr (s, s3)))
def zaC (b_Years : List Yr) (b_Olds : List Old10) (b_First : Int) (b_Last : Int) (year : Int) : M (Int × Int) :=
  M.bind (M.iter (zaU b_Years b_Olds b_First b_Last year) (1, false, 0, 0)) fun (s4, s5) =>
  M.pure (s4, s5)
theorem zb3 {R : List Chunk} {C_b_Years : Cells} {v_b_Years : Value} {C_b_Olds : Cells} {v_b_Olds : Value} (b_Years : List Yr) (b_Olds : List Old10) (b_First : Int) (b_Last : Int) (year : Int) (hC_b_Years : Reads R C_b_Years) (hs_b_Years : Sl C_b_Years v_b_Years b_Years) (hC_b_Olds : Reads R C_b_Olds) (hs_b_Olds : Sl C_b_Olds v_b_Olds b_Olds) {r : (Int × Int)} (hM : (zaC b_Years b_Olds b_First b_Last year).Ends r) (w : World) (H : St w w [] R) : Ret Try.prog 66 #[.agg #[v_b_Years, v_b_Olds, I b_First, I b_Last], I year] w fun v w' => ∃ (y0 : Int) (y1 : Int), (y0, y1) = r /\ v = .agg #[I y0, I y1] /\ St w w' [] R := by
 refine ret_of_W Try.func66 rfl rfl rfl ?_
 refine W.seq ?_
 refine W.region rfl ?_
 refine t_box (v := .agg #[v_b_Years, v_b_Olds, I b_First, I b_Last]) (cs := [v_b_Years, v_b_Olds, I b_First, I b_Last]) H rfl rfl ?_
 intro b_1 w1z H
 refine t_alloc (cs := [I 0, I 0]) H Al35 rfl ?_
 intro b_2 w2z H
 refine s_nil ?_
 refine W.seq ?_
 refine W.region rfl ?_
 refine s_val (x_bld (ps := [(0, I 1)]) (zs := [I 0, I 0]) (L' := [I 1, I 0]) rfl Try.underlying35 Al35 rfl (Bd35 Try.underlying35) (.cons (cs := [I 1]) rfl rfl rfl rfl rfl <| .nil)) ?_
 refine t_alloc (cs := [I 0, I 0]) H Al35 rfl ?_
 intro b_3 w3z H
 refine t_st (k := 0) (b := b_3) (off := 0) (cs := [I 0, I 0]) (vs := [I 1, I 0]) (cs' := [I 1, I 0]) (v := .agg #[I 1, I 0]) (L' := [cBlk b_3 [I 1, I 0] 35, cBlk b_2 [I 0, I 0] 35, cBlk b_1 [v_b_Years, v_b_Olds, I b_First, I b_Last] 55]) H rfl rfl rfl Sz35 rfl rfl rfl rfl rfl rfl ?_
 intro w4z H
 refine s_nil ?_
 refine W.seq ?_
 refine W.region rfl ?_
 refine s_val (x_as (v := B false) rfl) ?_
 refine s_nil ?_
 refine W.seq ?_
 refine W.seq ?_
 refine W.region rfl ?_
 refine s_val (x_as (v := I 0) rfl) ?_
 refine s_nil ?_
 refine W.block ?_
 obtain ⟨ex5z, hi6z, hk7z⟩ := M.e_bind hM
 obtain ⟨m0_, hi6z⟩ := M.e_iter hi6z
 refine W.loop (fun m σ W => ∃ (s : Int) (s2 : Bool) (stage : Nat) (s3 : Int) (ρ : Env), σ = upds ρ [(1, I year), (2, .pointer (some ⟨b_1, 0, none⟩)), (4, .pointer (some ⟨b_2, 0, none⟩)), (5, .pointer (some ⟨b_3, 0, none⟩)), (6, B s2), (7, I (stage : Int))] /\ M.iterN (zaU b_Years b_Olds b_First b_Last year) m (s, s2, stage, s3) = some ex5z /\ St w W [cBlk b_3 [I s, I s3] 35, cBlk b_2 [I 0, I 0] 35, cBlk b_1 [v_b_Years, v_b_Olds, I b_First, I b_Last] 55] R) ?_ ?_
 ·exact ⟨_, 1, false, 0, 0, _, upds_of _ _ ⟨rfl, rfl, rfl, rfl, rfl, rfl, trivial⟩, hi6z, H⟩
 rintro m10z σ w8z ⟨s, s2, stage, s3, ρ, rfl, hI9z, H⟩
 obtain ⟨m11z, lt12z, x13z, hM, hN14z⟩ := M.e_iterN hI9z
 simp only [zaU] at hM
 clear hI9z
 refine W.seq ?_
 refine W.seq ?_
 refine W.region rfl ?_
 refine s_val (x_mv (v := I (stage : Int)) rfl) ?_
 refine s_val (x_cmp (kd := .i64) (a := (stage : Int)) (b := 2000) (r := decide ((stage : Int) <= 2000)) rfl rfl rfl) ?_
 refine s_nil ?_
 refine W.cond (decide ((stage : Int) <= 2000)) rfl (fun c15z => ?_) (fun c15z => ?_)
 ·replace hM := M.e_t hM c15z
  simp only [decide_eq_true_eq, decide_eq_false_iff_not, beq_iff_eq, bne_iff_ne, beq_eq_false_iff_ne, bne_eq_false_iff_eq, ne_eq, Decidable.not_not] at c15z
  refine W.skip ?_
  refine W.seq ?_
  refine W.block ?_
  refine W.seq ?_
  refine W.region rfl ?_
  refine s_val (x_ld (p := .pointer (some ⟨b_1, 0, none⟩)) (v := .agg #[v_b_Years, v_b_Olds, I b_First, I b_Last]) rfl (ldb_ag (ds := [v_b_Years, v_b_Olds, I b_First, I b_Last]) Ag55 Sz55 (H.blk (k := 2) rfl) rfl rfl)) ?_
  refine s_val (x_mv (v := I year) rfl) ?_
  refine s_val (x_mv (v := I (stage : Int)) rfl) ?_
  obtain ⟨r17z, hx16z, hM⟩ := M.e_bind hM
  refine s_call cf68 [.agg #[v_b_Years, v_b_Olds, I b_First, I b_Last], I year, I (stage : Int)] rfl (zcw b_Years b_Olds b_First b_Last year (stage : Int) (hC_b_Years.app _) hs_b_Years (hC_b_Olds.app _) hs_b_Olds hx16z _ (St.give (T := [cBlk b_3 [I s, I s3] 35, cBlk b_2 [I 0, I 0] 35, cBlk b_1 [v_b_Years, v_b_Olds, I b_First, I b_Last] 55]) H rfl)) ?_
  rintro vq w18z ⟨r2, hr19z, hvq, H2_⟩
  subst hr19z
  subst vq
  try dsimp only at hM
  replace H : St w w18z [cBlk b_3 [I s, I s3] 35, cBlk b_2 [I 0, I 0] 35, cBlk b_1 [v_b_Years, v_b_Olds, I b_First, I b_Last] 55] R := H.back H2_ rfl
  clear H2_
  refine s_nil ?_
  refine W.cond r2 rfl (fun c20z => ?_) (fun c20z => ?_)
  ·replace hM := M.e_t hM c20z
   refine W.seq ?_
   refine W.seq ?_
   refine W.region rfl ?_
   refine s_val (x_mv (v := B s2) rfl) ?_
   refine s_val (x_not (b := s2) rfl) ?_
   refine s_nil ?_
   refine W.cond (!s2) rfl (fun c21z => ?_) (fun c21z => ?_)
   ·replace hM := M.e_t hM c21z
    refine W.region rfl ?_
    refine s_val (x_mv (v := I (stage : Int)) rfl) ?_
    refine s_val (x_fa (a := .pointer (some ⟨b_3, 0, none⟩)) (v := .pointer (some ⟨b_3, 0, none⟩)) rfl (fa_blk (o := 0) Fd35_0 Sz3)) ?_
    refine t_st (k := 0) (b := b_3) (off := 0) (cs := [I s, I s3]) (vs := [I (stage : Int)]) (cs' := [I (stage : Int), I s3]) (v := I (stage : Int)) (L' := [cBlk b_3 [I (stage : Int), I s3] 35, cBlk b_2 [I 0, I 0] 35, cBlk b_1 [v_b_Years, v_b_Olds, I b_First, I b_Last] 55]) H rfl rfl rfl Sz3 rfl rfl rfl rfl rfl rfl ?_
    intro w22z H
    refine s_nil ?_
    refine W.region rfl ?_
    refine s_val (x_mv (v := I (stage : Int)) rfl) ?_
    refine s_val (x_fa (a := .pointer (some ⟨b_3, 0, none⟩)) (v := .pointer (some ⟨b_3, 1, none⟩)) rfl (fa_blk (o := 0) Fd35_1 Sz3)) ?_
    refine t_st (k := 0) (b := b_3) (off := 1) (cs := [I (stage : Int), I s3]) (vs := [I (stage : Int)]) (cs' := [I (stage : Int), I (stage : Int)]) (v := I (stage : Int)) (L' := [cBlk b_3 [I (stage : Int), I (stage : Int)] 35, cBlk b_2 [I 0, I 0] 35, cBlk b_1 [v_b_Years, v_b_Olds, I b_First, I b_Last] 55]) H rfl rfl rfl Sz3 rfl rfl rfl rfl rfl rfl ?_
    intro w23z H
    refine s_val (x_as (v := B true) rfl) ?_
    refine s_nil ?_
    refine W.region rfl ?_
    refine s_val (x_mv (v := I (stage : Int)) rfl) ?_
    obtain ⟨sd24z, hM⟩ := M.e_grd hM
    simp only [Bool.and_eq_true, decide_eq_true_eq] at sd24z
    refine s_val (x_ari (a := (stage : Int)) (b := 1) (r := (stage : Int) + 1) rfl rfl rfl (by omega)) ?_
    refine s_val (x_as (v := I ((stage : Int) + 1)) rfl) ?_
    refine s_nil ?_
    exact ⟨m11z, lt12z, (stage : Int), true, stage + 1, (stage : Int), _, upds_of _ _ ⟨rfl, rfl, rfl, rfl, rfl, rfl, trivial⟩, M.e_inl hM hN14z, H⟩
   replace hM := M.e_f hM c21z
   refine W.skip ?_
   refine W.region rfl ?_
   refine s_val (x_mv (v := I (stage : Int)) rfl) ?_
   refine s_val (x_fa (a := .pointer (some ⟨b_3, 0, none⟩)) (v := .pointer (some ⟨b_3, 1, none⟩)) rfl (fa_blk (o := 0) Fd35_1 Sz3)) ?_
   refine t_st (k := 0) (b := b_3) (off := 1) (cs := [I s, I s3]) (vs := [I (stage : Int)]) (cs' := [I s, I (stage : Int)]) (v := I (stage : Int)) (L' := [cBlk b_3 [I s, I (stage : Int)] 35, cBlk b_2 [I 0, I 0] 35, cBlk b_1 [v_b_Years, v_b_Olds, I b_First, I b_Last] 55]) H rfl rfl rfl Sz3 rfl rfl rfl rfl rfl rfl ?_
   intro w25z H
   refine s_val (x_as (v := B true) rfl) ?_
   refine s_nil ?_
   refine W.region rfl ?_
   refine s_val (x_mv (v := I (stage : Int)) rfl) ?_
   obtain ⟨sd26z, hM⟩ := M.e_grd hM
   simp only [Bool.and_eq_true, decide_eq_true_eq] at sd26z
   refine s_val (x_ari (a := (stage : Int)) (b := 1) (r := (stage : Int) + 1) rfl rfl rfl (by omega)) ?_
   refine s_val (x_as (v := I ((stage : Int) + 1)) rfl) ?_
   refine s_nil ?_
   exact ⟨m11z, lt12z, s, true, stage + 1, (stage : Int), _, upds_of _ _ ⟨rfl, rfl, rfl, rfl, rfl, rfl, trivial⟩, M.e_inl hM hN14z, H⟩
  replace hM := M.e_f hM c20z
  refine W.skip ?_
  refine W.region rfl ?_
  refine s_val (x_mv (v := I (stage : Int)) rfl) ?_
  obtain ⟨sd27z, hM⟩ := M.e_grd hM
  simp only [Bool.and_eq_true, decide_eq_true_eq] at sd27z
  refine s_val (x_ari (a := (stage : Int)) (b := 1) (r := (stage : Int) + 1) rfl rfl rfl (by omega)) ?_
  refine s_val (x_as (v := I ((stage : Int) + 1)) rfl) ?_
  refine s_nil ?_
  exact ⟨m11z, lt12z, s, s2, stage + 1, s3, _, upds_of _ _ ⟨rfl, rfl, rfl, rfl, rfl, rfl, trivial⟩, M.e_inl hM hN14z, H⟩
 replace hM := M.e_f hM c15z
 simp only [decide_eq_true_eq, decide_eq_false_iff_not, beq_iff_eq, bne_iff_ne, beq_eq_false_iff_ne, bne_eq_false_iff_eq, ne_eq, Decidable.not_not] at c15z
 refine W.exit ?_
 have hX28z := M.e_inr hM hN14z
 subst hX28z
 replace hM := hk7z
 try dsimp only at hM
 refine W.seq ?_
 refine W.region rfl ?_
 refine s_val (x_ld (p := .pointer (some ⟨b_3, 0, none⟩)) (v := .agg #[I s, I s3]) rfl (ldb_ag (ds := [I s, I s3]) Ag35 Sz35 (H.blk (k := 0) rfl) rfl rfl)) ?_
 refine t_st (k := 1) (b := b_2) (off := 0) (cs := [I 0, I 0]) (vs := [I s, I s3]) (cs' := [I s, I s3]) (v := .agg #[I s, I s3]) (L' := [cBlk b_3 [I s, I s3] 35, cBlk b_2 [I s, I s3] 35, cBlk b_1 [v_b_Years, v_b_Olds, I b_First, I b_Last] 55]) H rfl rfl rfl Sz35 rfl rfl rfl rfl rfl rfl ?_
 intro w29z H
 refine s_nil ?_
 refine W.ret ?_
 have hb30z := (H.blk (k := 1) rfl)
 have hr_ := M.e_pure hM
 exact ⟨_, (resE_of1 (v := .agg #[I s, I s3]) rfl (.cell (v := .agg #[I s, I s3]) rfl (run_loadVar_ag (ds := [I s, I s3]) Ag35 Sz35 hb30z rfl rfl) <| .nil)), ⟨s, s3, hr_, rfl, (H.pick [] (by decide) rfl)⟩⟩

def zaK (b_Years : List Yr) (b_Olds : List Old10) (b_First : Int) (b_Last : Int) : Int -> M (Int ⊕ (Int ⊕ Unit)) := fun year =>
  bif decide (year <= b_Last) then (
  M.bind (zaC b_Years b_Olds b_First b_Last year) fun (r0, r1) =>
  bif decide (r1 < r0) then (
  M.pure (.inr (.inl year)))
  else (
  M.grd (decide ((-9223372036854775808 : Int) <= (year + 1)) && decide ((year + 1) <= (9223372036854775807 : Int))) <|
  M.pure (.inl (year + 1))))
  else (
  M.pure (.inr (.inr ())))
def zbH (b_Years : List Yr) (b_Olds : List Old10) (b_First : Int) (b_Last : Int) : M (Int × Int) :=
  M.bind (za4 b_Years b_Olds b_First b_Last) fun r2 =>
  bif r2 != 0 then (
  M.pure (0, r2))
  else (
  M.bind (M.iter (zaK b_Years b_Olds b_First b_Last) b_First) fun x_ => match x_ with
  | (.inl s) => (
  M.pure (s, 0))
  | (.inr (_ : Unit)) => (
  M.pure (0, 5)))
theorem zc6 {R : List Chunk} {C_b_Years : Cells} {v_b_Years : Value} {C_b_Olds : Cells} {v_b_Olds : Value} (b_Years : List Yr) (b_Olds : List Old10) (b_First : Int) (b_Last : Int) (hC_b_Years : Reads R C_b_Years) (hs_b_Years : Sl C_b_Years v_b_Years b_Years) (hC_b_Olds : Reads R C_b_Olds) (hs_b_Olds : Sl C_b_Olds v_b_Olds b_Olds) {r : (Int × Int)} (hM : (zbH b_Years b_Olds b_First b_Last).Ends r) (w : World) (H : St w w [] R) : Ret Try.prog 50 #[.agg #[v_b_Years, v_b_Olds, I b_First, I b_Last]] w fun v w' => ∃ (y0 : Int) (y1 : Int), (y0, y1) = r /\ v = .tuple #[I y0, I y1] /\ St w w' [] R := by
 refine ret_of_W Try.func50 rfl rfl rfl ?_
 refine W.seq ?_
 refine W.region rfl ?_
 refine t_box (v := .agg #[v_b_Years, v_b_Olds, I b_First, I b_Last]) (cs := [v_b_Years, v_b_Olds, I b_First, I b_Last]) H rfl rfl ?_
 intro b_1 w1z H
 refine s_val (x_as (v := I 0) rfl) ?_
 refine s_val (x_as (v := I 0) rfl) ?_
 refine s_nil ?_
 refine W.seq ?_
 refine W.seq ?_
 refine W.region rfl ?_
 refine s_val (x_ld (p := .pointer (some ⟨b_1, 0, none⟩)) (v := .agg #[v_b_Years, v_b_Olds, I b_First, I b_Last]) rfl (ldb_ag (ds := [v_b_Years, v_b_Olds, I b_First, I b_Last]) Ag55 Sz55 (H.blk (k := 0) rfl) rfl rfl)) ?_
 obtain ⟨r3z, hx2z, hM⟩ := M.e_bind hM
 refine s_call cf48 [.agg #[v_b_Years, v_b_Olds, I b_First, I b_Last]] rfl (zcv b_Years b_Olds b_First b_Last (hC_b_Years.app _) hs_b_Years (hC_b_Olds.app _) hs_b_Olds hx2z _ (St.give (T := [cBlk b_1 [v_b_Years, v_b_Olds, I b_First, I b_Last] 55]) H rfl)) ?_
 rintro vq w4z ⟨r2, hr5z, hvq, H2_⟩
 subst hr5z
 subst vq
 try dsimp only at hM
 replace H : St w w4z [cBlk b_1 [v_b_Years, v_b_Olds, I b_First, I b_Last] 55] R := H.back H2_ rfl
 clear H2_
 refine s_val (x_as (v := I r2) rfl) ?_
 refine s_nil ?_
 refine W.seq ?_
 refine W.region rfl ?_
 refine s_val (x_mv (v := I r2) rfl) ?_
 refine s_val (x_cmp (kd := .i64) (a := r2) (b := 0) (r := r2 != 0) rfl rfl rfl) ?_
 refine s_nil ?_
 refine W.cond (r2 != 0) rfl (fun c6z => ?_) (fun c6z => ?_)
 ·replace hM := M.e_t hM c6z
  simp only [decide_eq_true_eq, decide_eq_false_iff_not, beq_iff_eq, bne_iff_ne, beq_eq_false_iff_ne, bne_eq_false_iff_eq, ne_eq, Decidable.not_not] at c6z
  refine W.seq ?_
  refine W.region rfl ?_
  refine s_val (x_mv (v := I r2) rfl) ?_
  refine s_val (x_as (v := I 0) rfl) ?_
  refine s_val (x_as (v := I r2) rfl) ?_
  refine s_nil ?_
  refine W.ret ?_
  have hr_ := M.e_pure hM
  exact ⟨_, resE_tmp2 rfl, ⟨0, r2, hr_, rfl, (H.pick [] (by decide) rfl)⟩⟩
 replace hM := M.e_f hM c6z
 simp only [decide_eq_true_eq, decide_eq_false_iff_not, beq_iff_eq, bne_iff_ne, beq_eq_false_iff_ne, bne_eq_false_iff_eq, ne_eq, Decidable.not_not] at c6z
 refine W.skip ?_
 refine W.seq ?_
 refine W.seq ?_
 refine W.region rfl ?_
 refine s_val (x_fa (a := .pointer (some ⟨b_1, 0, none⟩)) (v := .pointer (some ⟨b_1, 2, none⟩)) rfl (fa_blk (o := 0) Fd55_2 Sz3)) ?_
 refine s_val (x_ld (p := .pointer (some ⟨b_1, 2, none⟩)) (v := I b_First) rfl (ldb_sc Sc3 (H.blk (k := 0) rfl) rfl)) ?_
 refine s_val (x_as (v := I b_First) rfl) ?_
 refine s_nil ?_
 refine W.block ?_
 obtain ⟨ex7z, hi8z, hk9z⟩ := M.e_bind hM
 obtain ⟨m0_, hi8z⟩ := M.e_iter hi8z
 refine W.loop (fun m σ W => ∃ (year : Int) (ρ : Env), σ = upds ρ [(1, .pointer (some ⟨b_1, 0, none⟩)), (5, I year)] /\ M.iterN (zaK b_Years b_Olds b_First b_Last) m year = some ex7z /\ St w W [cBlk b_1 [v_b_Years, v_b_Olds, I b_First, I b_Last] 55] R) ?_ ?_
 ·exact ⟨_, b_First, _, upds_of _ _ ⟨rfl, rfl, trivial⟩, hi8z, H⟩
 rintro m12z σ w10z ⟨year, ρ, rfl, hI11z, H⟩
 obtain ⟨m13z, lt14z, x15z, hM, hN16z⟩ := M.e_iterN hI11z
 simp only [zaK] at hM
 clear hI11z
 refine W.seq ?_
 refine W.seq ?_
 refine W.region rfl ?_
 refine s_val (x_mv (v := I year) rfl) ?_
 refine s_val (x_fa (a := .pointer (some ⟨b_1, 0, none⟩)) (v := .pointer (some ⟨b_1, 3, none⟩)) rfl (fa_blk (o := 0) Fd55_3 Sz3)) ?_
 refine s_val (x_ld (p := .pointer (some ⟨b_1, 3, none⟩)) (v := I b_Last) rfl (ldb_sc Sc3 (H.blk (k := 0) rfl) rfl)) ?_
 refine s_val (x_cmp (kd := .i64) (a := year) (b := b_Last) (r := decide (year <= b_Last)) rfl rfl rfl) ?_
 refine s_nil ?_
 refine W.cond (decide (year <= b_Last)) rfl (fun c17z => ?_) (fun c17z => ?_)
 ·replace hM := M.e_t hM c17z
  simp only [decide_eq_true_eq, decide_eq_false_iff_not, beq_iff_eq, bne_iff_ne, beq_eq_false_iff_ne, bne_eq_false_iff_eq, ne_eq, Decidable.not_not] at c17z
  refine W.skip ?_
  refine W.seq ?_
  refine W.block ?_
  refine W.seq ?_
  refine W.region rfl ?_
  refine s_val (x_ld (p := .pointer (some ⟨b_1, 0, none⟩)) (v := .agg #[v_b_Years, v_b_Olds, I b_First, I b_Last]) rfl (ldb_ag (ds := [v_b_Years, v_b_Olds, I b_First, I b_Last]) Ag55 Sz55 (H.blk (k := 0) rfl) rfl rfl)) ?_
  refine s_val (x_mv (v := I year) rfl) ?_
  obtain ⟨r19z, hx18z, hM⟩ := M.e_bind hM
  refine s_call cf66 [.agg #[v_b_Years, v_b_Olds, I b_First, I b_Last], I year] rfl (zb3 b_Years b_Olds b_First b_Last year (hC_b_Years.app _) hs_b_Years (hC_b_Olds.app _) hs_b_Olds hx18z _ (St.give (T := [cBlk b_1 [v_b_Years, v_b_Olds, I b_First, I b_Last] 55]) H rfl)) ?_
  rintro vq w20z ⟨r0, r1, hr21z, hvq, H2_⟩
  subst hr21z
  subst vq
  try dsimp only at hM
  replace H : St w w20z [cBlk b_1 [v_b_Years, v_b_Olds, I b_First, I b_Last] 55] R := H.back H2_ rfl
  clear H2_
  refine t_alloc (cs := [I 0, I 0]) H Al35 rfl ?_
  intro b_2 w22z H
  refine t_st (k := 0) (b := b_2) (off := 0) (cs := [I 0, I 0]) (vs := [I r0, I r1]) (cs' := [I r0, I r1]) (v := .agg #[I r0, I r1]) (L' := [cBlk b_2 [I r0, I r1] 35, cBlk b_1 [v_b_Years, v_b_Olds, I b_First, I b_Last] 55]) H rfl rfl rfl Sz35 rfl rfl rfl rfl rfl rfl ?_
  intro w23z H
  refine s_nil ?_
  refine W.seq ?_
  refine W.region rfl ?_
  refine s_val (x_fa (a := .pointer (some ⟨b_2, 0, none⟩)) (v := .pointer (some ⟨b_2, 0, none⟩)) rfl (fa_blk (o := 0) Fd35_0 Sz3)) ?_
  refine s_val (x_ld (p := .pointer (some ⟨b_2, 0, none⟩)) (v := I r0) rfl (ldb_sc Sc3 (H.blk (k := 0) rfl) rfl)) ?_
  refine s_val (x_fa (a := .pointer (some ⟨b_2, 0, none⟩)) (v := .pointer (some ⟨b_2, 1, none⟩)) rfl (fa_blk (o := 0) Fd35_1 Sz3)) ?_
  refine s_val (x_ld (p := .pointer (some ⟨b_2, 1, none⟩)) (v := I r1) rfl (ldb_sc Sc3 (H.blk (k := 0) rfl) rfl)) ?_
  refine s_val (x_cmp (kd := .i64) (a := r0) (b := r1) (r := decide (r1 < r0)) rfl rfl rfl) ?_
  refine s_nil ?_
  refine W.cond (decide (r1 < r0)) rfl (fun c24z => ?_) (fun c24z => ?_)
  ·replace hM := M.e_t hM c24z
   simp only [decide_eq_true_eq, decide_eq_false_iff_not, beq_iff_eq, bne_iff_ne, beq_eq_false_iff_ne, bne_eq_false_iff_eq, ne_eq, Decidable.not_not] at c24z
   refine W.seq ?_
   refine W.region rfl ?_
   refine s_val (x_mv (v := I year) rfl) ?_
   refine s_val (x_as (v := I year) rfl) ?_
   refine s_val (x_as (v := I 0) rfl) ?_
   refine s_nil ?_
   refine W.ret ?_
   have hX25z := M.e_inr hM hN16z
   subst hX25z
   replace hM := hk9z
   try dsimp only at hM
   have hr_ := M.e_pure hM
   exact ⟨_, resE_tmp2 rfl, ⟨year, 0, hr_, rfl, (H.pick [] (by decide) rfl)⟩⟩
  replace hM := M.e_f hM c24z
  simp only [decide_eq_true_eq, decide_eq_false_iff_not, beq_iff_eq, bne_iff_ne, beq_eq_false_iff_ne, bne_eq_false_iff_eq, ne_eq, Decidable.not_not] at c24z
  refine W.skip ?_
  refine W.region rfl ?_
  refine s_val (x_mv (v := I year) rfl) ?_
  obtain ⟨sd26z, hM⟩ := M.e_grd hM
  simp only [Bool.and_eq_true, decide_eq_true_eq] at sd26z
  refine s_val (x_ari (a := year) (b := 1) (r := year + 1) rfl rfl rfl (by omega)) ?_
  refine s_val (x_as (v := I (year + 1)) rfl) ?_
  refine s_nil ?_
  exact ⟨m13z, lt14z, year + 1, _, upds_of _ _ ⟨rfl, rfl, trivial⟩, M.e_inl hM hN16z, (H.pick [1] (by decide) rfl)⟩
 replace hM := M.e_f hM c17z
 simp only [decide_eq_true_eq, decide_eq_false_iff_not, beq_iff_eq, bne_iff_ne, beq_eq_false_iff_ne, bne_eq_false_iff_eq, ne_eq, Decidable.not_not] at c17z
 refine W.exit ?_
 have hX27z := M.e_inr hM hN16z
 subst hX27z
 replace hM := hk9z
 try dsimp only at hM
 refine W.seq ?_
 refine W.region rfl ?_
 refine s_val (x_as (v := I 0) rfl) ?_
 refine s_val (x_as (v := I 5) rfl) ?_
 refine s_nil ?_
 refine W.ret ?_
 have hr_ := M.e_pure hM
 exact ⟨_, resE_tmp2 rfl, ⟨0, 5, hr_, rfl, (H.pick [] (by decide) rfl)⟩⟩

def zba (a : List Yr) (b : List Yr) : Nat -> M (Nat ⊕ (Unit ⊕ Unit)) := fun i =>
  bif decide ((i : Int) < (a.length : Int)) then (
  M.grd (decide ((i : Int) < (a.length : Int))) <|
  M.grd (decide ((i : Int) < (b.length : Int))) <|
  bif !(decide ((a.getD i default) = (b.getD i default))) then (
  M.pure (.inr (.inl ())))
  else (
  M.pure (.inl (i + 1))))
  else (
  M.pure (.inr (.inr ())))
def zbw (a : List Yr) (b : List Yr) : M Bool :=
  bif (a.length : Int) != (b.length : Int) then (
  M.pure false)
  else (
  M.bind (M.iter (zba a b) 0) fun x_ => match x_ with
  | (.inl (_ : Unit)) => (
  M.pure false)
  | (.inr (_ : Unit)) => (
  M.pure true))
theorem zdc {R : List Chunk} {C_a : Cells} {v_a : Value} {C_b : Cells} {v_b : Value} (a : List Yr) (b : List Yr) (hC_a : Reads R C_a) (hs_a : Sl C_a v_a a) (hC_b : Reads R C_b) (hs_b : Sl C_b v_b b) {r : Bool} (hM : (zbw a b).Ends r) (w : World) (H : St w w [] R) : Ret Try.prog 70 #[v_a, v_b] w fun v w' => ∃ (y0 : Bool), y0 = r /\ v = B y0 /\ St w w' [] R := by
 refine ret_of_W Try.func70 rfl rfl rfl ?_
 refine W.seq ?_
 refine W.region rfl ?_
 refine s_val (x_as (v := B false) rfl) ?_
 refine s_nil ?_
 refine W.seq ?_
 refine W.seq ?_
 refine W.region rfl ?_
 refine s_val (x_mv (v := v_a) rfl) ?_
 have hl1z := (hs_a).len_le
 refine s_val (x_lenS T23.und rfl hs_a) ?_
 refine s_val (x_mv (v := v_b) rfl) ?_
 have hl2z := (hs_b).len_le
 refine s_val (x_lenS T23.und rfl hs_b) ?_
 refine s_val (x_cmp (kd := .i64) (a := (a.length : Int)) (b := (b.length : Int)) (r := (a.length : Int) != (b.length : Int)) rfl rfl rfl) ?_
 refine s_nil ?_
 refine W.cond ((a.length : Int) != (b.length : Int)) rfl (fun c3z => ?_) (fun c3z => ?_)
 ·replace hM := M.e_t hM c3z
  simp only [decide_eq_true_eq, decide_eq_false_iff_not, beq_iff_eq, bne_iff_ne, beq_eq_false_iff_ne, bne_eq_false_iff_eq, ne_eq, Decidable.not_not] at c3z
  refine W.seq ?_
  refine W.region rfl ?_
  refine s_val (x_as (v := B false) rfl) ?_
  refine s_nil ?_
  refine W.ret ?_
  have hr_ := M.e_pure hM
  exact ⟨_, resE_tmp rfl, ⟨false, hr_, rfl, H⟩⟩
 replace hM := M.e_f hM c3z
 simp only [decide_eq_true_eq, decide_eq_false_iff_not, beq_iff_eq, bne_iff_ne, beq_eq_false_iff_ne, bne_eq_false_iff_eq, ne_eq, Decidable.not_not] at c3z
 refine W.skip ?_
 refine W.seq ?_
 refine W.seq ?_
 refine W.region rfl ?_
 refine s_val (x_as (v := I 0) rfl) ?_
 refine s_nil ?_
 refine W.block ?_
 obtain ⟨ex4z, hi5z, hk6z⟩ := M.e_bind hM
 obtain ⟨m0_, hi5z⟩ := M.e_iter hi5z
 refine W.loop (fun m σ W => ∃ (i : Nat) (ρ : Env), σ = upds ρ [(0, v_a), (1, v_b), (5, I (i : Int))] /\ M.iterN (zba a b) m i = some ex4z /\ St w W [] R) ?_ ?_
 ·exact ⟨_, 0, _, upds_of _ _ ⟨rfl, rfl, rfl, trivial⟩, hi5z, H⟩
 rintro m9z σ w7z ⟨i, ρ, rfl, hI8z, H⟩
 obtain ⟨m10z, lt11z, x12z, hM, hN13z⟩ := M.e_iterN hI8z
 simp only [zba] at hM
 clear hI8z
 refine W.seq ?_
 refine W.seq ?_
 refine W.region rfl ?_
 refine s_val (x_mv (v := I (i : Int)) rfl) ?_
 refine s_val (x_mv (v := v_a) rfl) ?_
 have hl14z := (hs_a).len_le
 refine s_val (x_lenS T23.und rfl hs_a) ?_
 refine s_val (x_cmp (kd := .i64) (a := (i : Int)) (b := (a.length : Int)) (r := decide ((i : Int) < (a.length : Int))) rfl rfl rfl) ?_
 refine s_nil ?_
 refine W.cond (decide ((i : Int) < (a.length : Int))) rfl (fun c15z => ?_) (fun c15z => ?_)
 ·replace hM := M.e_t hM c15z
  simp only [decide_eq_true_eq, decide_eq_false_iff_not, beq_iff_eq, bne_iff_ne, beq_eq_false_iff_ne, bne_eq_false_iff_eq, ne_eq, Decidable.not_not] at c15z
  refine W.skip ?_
  refine W.seq ?_
  refine W.block ?_
  refine W.seq ?_
  refine W.draw (fun W => St w W [] R) [(0, true), (1, true), (2, true), (3, true), (4, true), (5, true), (6, true), (7, true), (8, true)] mixed (by decide +kernel) rfl ?_
  intro w16z hx_
  replace H : St w w16z [] R := H.ext hx_
  clear hx_
  refine ⟨(H.pick [] (by decide) rfl), ?_⟩
  refine d_q rfl (fun w' H => x_mv (v := v_a) rfl) ?_
  refine d_q rfl (fun w' H => x_mv (v := I (i : Int)) rfl) ?_
  obtain ⟨sd17z, hM⟩ := M.e_grd hM
  simp only [Bool.and_eq_true, decide_eq_true_eq] at sd17z
  refine d_q rfl (fun w' H => x_ix (a := v_a) (b := I (i : Int)) (v := vat v_a 3 (Int.toNat (i : Int))) rfl rfl (Sl.ix (α := Yr) T23.und T23.size hs_a (by omega) (by omega))) ?_
  refine d_q rfl (fun w' H => x_ld (p := vat v_a 3 (Int.toNat (i : Int))) (v := .agg #[I ((a.getD i default).year), I ((a.getD i default).lo), I ((a.getD i default).hi)]) rfl (ld_ag Ag41 Sz41 (At.mono (Yr_atA hs_a (i := (i : Int)) (by omega) (by omega)) (hC_a.at H)))) ?_
  refine d_q rfl (fun w' H => x_mv (v := v_b) rfl) ?_
  refine d_q rfl (fun w' H => x_mv (v := I (i : Int)) rfl) ?_
  obtain ⟨sd18z, hM⟩ := M.e_grd hM
  simp only [Bool.and_eq_true, decide_eq_true_eq] at sd18z
  refine d_q rfl (fun w' H => x_ix (a := v_b) (b := I (i : Int)) (v := vat v_b 3 (Int.toNat (i : Int))) rfl rfl (Sl.ix (α := Yr) T23.und T23.size hs_b (by omega) (by omega))) ?_
  refine d_q rfl (fun w' H => x_ld (p := vat v_b 3 (Int.toNat (i : Int))) (v := .agg #[I ((b.getD i default).year), I ((b.getD i default).lo), I ((b.getD i default).hi)]) rfl (ld_ag Ag41 Sz41 (At.mono (Yr_atA hs_b (i := (i : Int)) (by omega) (by omega)) (hC_b.at H)))) ?_
  refine d_q rfl (fun w' H => x_neS (eqT41 (a.getD i default) (b.getD i default) _) gdT41 rfl rfl) ?_
  refine d_nil ?_
  refine W.cond (!(decide ((a.getD i default) = (b.getD i default)))) rfl (fun c19z => ?_) (fun c19z => ?_)
  ·replace hM := M.e_t hM c19z
   refine W.seq ?_
   refine W.region rfl ?_
   refine s_val (x_as (v := B false) rfl) ?_
   refine s_nil ?_
   refine W.ret ?_
   have hX20z := M.e_inr hM hN13z
   subst hX20z
   replace hM := hk6z
   try dsimp only at hM
   have hr_ := M.e_pure hM
   exact ⟨_, resE_tmp rfl, ⟨false, hr_, rfl, H⟩⟩
  replace hM := M.e_f hM c19z
  refine W.skip ?_
  refine W.region rfl ?_
  refine s_val (x_mv (v := I (i : Int)) rfl) ?_
  refine s_val (x_ari (a := (i : Int)) (b := 1) (r := (i : Int) + 1) rfl rfl rfl (by omega)) ?_
  refine s_val (x_as (v := I ((i : Int) + 1)) rfl) ?_
  refine s_nil ?_
  exact ⟨m10z, lt11z, i + 1, _, upds_of _ _ ⟨rfl, rfl, rfl, trivial⟩, M.e_inl hM hN13z, H⟩
 replace hM := M.e_f hM c15z
 simp only [decide_eq_true_eq, decide_eq_false_iff_not, beq_iff_eq, bne_iff_ne, beq_eq_false_iff_ne, bne_eq_false_iff_eq, ne_eq, Decidable.not_not] at c15z
 refine W.exit ?_
 have hX21z := M.e_inr hM hN13z
 subst hX21z
 replace hM := hk6z
 try dsimp only at hM
 refine W.seq ?_
 refine W.region rfl ?_
 refine s_val (x_as (v := B true) rfl) ?_
 refine s_nil ?_
 refine W.ret ?_
 have hr_ := M.e_pure hM
 exact ⟨_, resE_tmp rfl, ⟨true, hr_, rfl, H⟩⟩

def zbl (a_Olds : List Old10) (b_Olds : List Old10) : Nat -> M (Nat ⊕ (Unit ⊕ Unit)) := fun i =>
  bif decide ((i : Int) < (a_Olds.length : Int)) then (
  M.grd (decide ((i : Int) < (a_Olds.length : Int))) <|
  M.grd (decide ((i : Int) < (b_Olds.length : Int))) <|
  M.bind (M.opt (!(((((a_Olds.getD i default).src) != ((b_Olds.getD i default).src)) || (((a_Olds.getD i default).dst) != ((b_Olds.getD i default).dst))) || (((a_Olds.getD i default).stage) != ((b_Olds.getD i default).stage)))) (zbn ((a_Olds.getD i default).passed) ((b_Olds.getD i default).passed)) false) fun r3 =>
  bif ((((((a_Olds.getD i default).src) != ((b_Olds.getD i default).src)) || (((a_Olds.getD i default).dst) != ((b_Olds.getD i default).dst))) || (((a_Olds.getD i default).stage) != ((b_Olds.getD i default).stage))) || (!r3)) then (
  M.pure (.inr (.inl ())))
  else (
  M.pure (.inl (i + 1))))
  else (
  M.pure (.inr (.inr ())))
def zbr (a_Years : List Yr) (a_Olds : List Old10) (a_First : Int) (a_Last : Int) (b_Years : List Yr) (b_Olds : List Old10) (b_First : Int) (b_Last : Int) : M Bool :=
  M.bind (M.opt (!((a_First != b_First) || (a_Last != b_Last))) (zbw a_Years b_Years) false) fun r2 =>
  bif ((((a_First != b_First) || (a_Last != b_Last)) || (!r2)) || ((a_Olds.length : Int) != (b_Olds.length : Int))) then (
  M.pure false)
  else (
  M.bind (M.iter (zbl a_Olds b_Olds) 0) fun x_ => match x_ with
  | (.inl (_ : Unit)) => (
  M.pure false)
  | (.inr (_ : Unit)) => (
  M.pure true))
theorem zcV {R : List Chunk} {C_a_Years : Cells} {v_a_Years : Value} {C_a_Olds : Cells} {v_a_Olds : Value} {C_b_Years : Cells} {v_b_Years : Value} {C_b_Olds : Cells} {v_b_Olds : Value} (a_Years : List Yr) (a_Olds : List Old10) (a_First : Int) (a_Last : Int) (b_Years : List Yr) (b_Olds : List Old10) (b_First : Int) (b_Last : Int) (hC_a_Years : Reads R C_a_Years) (hs_a_Years : Sl C_a_Years v_a_Years a_Years) (hC_a_Olds : Reads R C_a_Olds) (hs_a_Olds : Sl C_a_Olds v_a_Olds a_Olds) (hC_b_Years : Reads R C_b_Years) (hs_b_Years : Sl C_b_Years v_b_Years b_Years) (hC_b_Olds : Reads R C_b_Olds) (hs_b_Olds : Sl C_b_Olds v_b_Olds b_Olds) {r : Bool} (hM : (zbr a_Years a_Olds a_First a_Last b_Years b_Olds b_First b_Last).Ends r) (w : World) (H : St w w [] R) : Ret Try.prog 29 #[.agg #[v_a_Years, v_a_Olds, I a_First, I a_Last], .agg #[v_b_Years, v_b_Olds, I b_First, I b_Last]] w fun v w' => ∃ (y0 : Bool), y0 = r /\ v = B y0 /\ St w w' [] R := by
 refine ret_of_W Try.func29 rfl rfl rfl ?_
 refine W.seq ?_
 refine W.region rfl ?_
 refine t_box (v := .agg #[v_a_Years, v_a_Olds, I a_First, I a_Last]) (cs := [v_a_Years, v_a_Olds, I a_First, I a_Last]) H rfl rfl ?_
 intro b_1 w1z H
 refine t_box (v := .agg #[v_b_Years, v_b_Olds, I b_First, I b_Last]) (cs := [v_b_Years, v_b_Olds, I b_First, I b_Last]) H rfl rfl ?_
 intro b_2 w2z H
 refine s_val (x_as (v := B false) rfl) ?_
 refine s_nil ?_
 refine W.seq ?_
 refine W.seq ?_
 refine W.region rfl ?_
 refine s_val (x_fa (a := .pointer (some ⟨b_1, 0, none⟩)) (v := .pointer (some ⟨b_1, 2, none⟩)) rfl (fa_blk (o := 0) Fd26_2 Sz3)) ?_
 refine s_val (x_ld (p := .pointer (some ⟨b_1, 2, none⟩)) (v := I a_First) rfl (ldb_sc Sc3 (H.blk (k := 1) rfl) rfl)) ?_
 refine s_val (x_fa (a := .pointer (some ⟨b_2, 0, none⟩)) (v := .pointer (some ⟨b_2, 2, none⟩)) rfl (fa_blk (o := 0) Fd26_2 Sz3)) ?_
 refine s_val (x_ld (p := .pointer (some ⟨b_2, 2, none⟩)) (v := I b_First) rfl (ldb_sc Sc3 (H.blk (k := 0) rfl) rfl)) ?_
 refine s_val (x_cmp (kd := .i64) (a := a_First) (b := b_First) (r := a_First != b_First) rfl rfl rfl) ?_
 refine s_val (x_mv (v := B (a_First != b_First)) rfl) ?_
 refine g_val (!(a_First != b_First)) (gy_f rfl) (fun hg => x_fa (a := .pointer (some ⟨b_1, 0, none⟩)) (v := .pointer (some ⟨b_1, 3, none⟩)) rfl (fa_blk (o := 0) Fd26_3 Sz3)) ?_
 refine g_val (!(a_First != b_First)) (gy_f rfl) (fun hg => x_ld (p := .pointer (some ⟨b_1, 3, none⟩)) (v := I a_Last) (gd_of (c := !(a_First != b_First)) hg (.pointer (some ⟨b_1, 3, none⟩))) (ldb_sc Sc3 (H.blk (k := 1) rfl) rfl)) ?_
 refine g_val (!(a_First != b_First)) (gy_f rfl) (fun hg => x_fa (a := .pointer (some ⟨b_2, 0, none⟩)) (v := .pointer (some ⟨b_2, 3, none⟩)) rfl (fa_blk (o := 0) Fd26_3 Sz3)) ?_
 refine g_val (!(a_First != b_First)) (gy_f rfl) (fun hg => x_ld (p := .pointer (some ⟨b_2, 3, none⟩)) (v := I b_Last) (gd_of (c := !(a_First != b_First)) hg (.pointer (some ⟨b_2, 3, none⟩))) (ldb_sc Sc3 (H.blk (k := 0) rfl) rfl)) ?_
 refine g_val (!(a_First != b_First)) (gy_f rfl) (fun hg => x_cmp (kd := .i64) (a := a_Last) (b := b_Last) (r := a_Last != b_Last) (gd_of (c := !(a_First != b_First)) hg (I a_Last)) (gd_of (c := !(a_First != b_First)) hg (I b_Last)) rfl) ?_
 refine s_val (x_por (b := a_First != b_First) (r := a_Last != b_Last) rfl rfl (fun hb => gd_of (c := !(a_First != b_First)) (by first | exact hb | (rw [hb]; rfl) | simp_all) (B (a_Last != b_Last)))) ?_
 refine s_val (x_mv (v := B ((a_First != b_First) || (a_Last != b_Last))) rfl) ?_
 refine g_val (!((a_First != b_First) || (a_Last != b_Last))) (gy_f rfl) (fun hg => x_fa (a := .pointer (some ⟨b_1, 0, none⟩)) (v := .pointer (some ⟨b_1, 0, none⟩)) rfl (fa_blk (o := 0) Fd26_0 Sz23)) ?_
 refine g_val (!((a_First != b_First) || (a_Last != b_Last))) (gy_f rfl) (fun hg => x_ld (p := .pointer (some ⟨b_1, 0, none⟩)) (v := v_a_Years) (gd_of (c := !((a_First != b_First) || (a_Last != b_Last))) hg (.pointer (some ⟨b_1, 0, none⟩))) (ldb_sc Sc23 (H.blk (k := 1) rfl) rfl)) ?_
 refine g_val (!((a_First != b_First) || (a_Last != b_Last))) (gy_f rfl) (fun hg => x_fa (a := .pointer (some ⟨b_2, 0, none⟩)) (v := .pointer (some ⟨b_2, 0, none⟩)) rfl (fa_blk (o := 0) Fd26_0 Sz23)) ?_
 refine g_val (!((a_First != b_First) || (a_Last != b_Last))) (gy_f rfl) (fun hg => x_ld (p := .pointer (some ⟨b_2, 0, none⟩)) (v := v_b_Years) (gd_of (c := !((a_First != b_First) || (a_Last != b_Last))) hg (.pointer (some ⟨b_2, 0, none⟩))) (ldb_sc Sc23 (H.blk (k := 0) rfl) rfl)) ?_
 obtain ⟨r2, hx3z, hM⟩ := M.e_bind hM
 refine t_gcall (!((a_First != b_First) || (a_Last != b_Last))) (gy_f rfl) cf70 (B r2) (fun _ => [v_a_Years, v_b_Years]) (fun hg => lst2 (gd_of (c := !((a_First != b_First) || (a_Last != b_Last))) hg (v_a_Years)) (gd_of (c := !((a_First != b_First) || (a_Last != b_Last))) hg (v_b_Years))) H (fun hg => (zdc a_Years b_Years (hC_a_Years.app _) hs_a_Years (hC_b_Years.app _) hs_b_Years (M.e_opt hx3z hg) _ (H.give (A := []) rfl)).mono fun v_ w_ ⟨y_, hr_, hv_, H_⟩ => by subst hr_; exact ⟨hv_, H.via H_⟩) ?_
 intro w4z H
 refine g_val (!((a_First != b_First) || (a_Last != b_Last))) (gy_f rfl) (fun hg => x_not (b := r2) (gd_of (c := !((a_First != b_First) || (a_Last != b_Last))) hg (B r2))) ?_
 refine s_val (x_por (b := ((a_First != b_First) || (a_Last != b_Last))) (r := !r2) rfl rfl (fun hb => gd_of (c := !((a_First != b_First) || (a_Last != b_Last))) (by first | exact hb | (rw [hb]; rfl) | simp_all) (B (!r2)))) ?_
 refine s_val (x_mv (v := B (((a_First != b_First) || (a_Last != b_Last)) || (!r2))) rfl) ?_
 refine g_val (!(((a_First != b_First) || (a_Last != b_Last)) || (!r2))) (gy_f rfl) (fun hg => x_fa (a := .pointer (some ⟨b_1, 0, none⟩)) (v := .pointer (some ⟨b_1, 1, none⟩)) rfl (fa_blk (o := 0) Fd26_1 Sz24)) ?_
 refine g_val (!(((a_First != b_First) || (a_Last != b_Last)) || (!r2))) (gy_f rfl) (fun hg => x_ld (p := .pointer (some ⟨b_1, 1, none⟩)) (v := v_a_Olds) (gd_of (c := !(((a_First != b_First) || (a_Last != b_Last)) || (!r2))) hg (.pointer (some ⟨b_1, 1, none⟩))) (ldb_sc Sc24 (H.blk (k := 1) rfl) rfl)) ?_
 refine g_val (!(((a_First != b_First) || (a_Last != b_Last)) || (!r2))) (gy_f rfl) (fun hg => x_lenS T24.und (gd_of (c := !(((a_First != b_First) || (a_Last != b_Last)) || (!r2))) hg (v_a_Olds)) hs_a_Olds) ?_
 refine g_val (!(((a_First != b_First) || (a_Last != b_Last)) || (!r2))) (gy_f rfl) (fun hg => x_fa (a := .pointer (some ⟨b_2, 0, none⟩)) (v := .pointer (some ⟨b_2, 1, none⟩)) rfl (fa_blk (o := 0) Fd26_1 Sz24)) ?_
 refine g_val (!(((a_First != b_First) || (a_Last != b_Last)) || (!r2))) (gy_f rfl) (fun hg => x_ld (p := .pointer (some ⟨b_2, 1, none⟩)) (v := v_b_Olds) (gd_of (c := !(((a_First != b_First) || (a_Last != b_Last)) || (!r2))) hg (.pointer (some ⟨b_2, 1, none⟩))) (ldb_sc Sc24 (H.blk (k := 0) rfl) rfl)) ?_
 refine g_val (!(((a_First != b_First) || (a_Last != b_Last)) || (!r2))) (gy_f rfl) (fun hg => x_lenS T24.und (gd_of (c := !(((a_First != b_First) || (a_Last != b_Last)) || (!r2))) hg (v_b_Olds)) hs_b_Olds) ?_
 refine g_val (!(((a_First != b_First) || (a_Last != b_Last)) || (!r2))) (gy_f rfl) (fun hg => x_cmp (kd := .i64) (a := (a_Olds.length : Int)) (b := (b_Olds.length : Int)) (r := (a_Olds.length : Int) != (b_Olds.length : Int)) (gd_of (c := !(((a_First != b_First) || (a_Last != b_Last)) || (!r2))) hg (I (a_Olds.length : Int))) (gd_of (c := !(((a_First != b_First) || (a_Last != b_Last)) || (!r2))) hg (I (b_Olds.length : Int))) rfl) ?_
 refine s_val (x_por (b := (((a_First != b_First) || (a_Last != b_Last)) || (!r2))) (r := (a_Olds.length : Int) != (b_Olds.length : Int)) rfl rfl (fun hb => gd_of (c := !(((a_First != b_First) || (a_Last != b_Last)) || (!r2))) (by first | exact hb | (rw [hb]; rfl) | simp_all) (B ((a_Olds.length : Int) != (b_Olds.length : Int))))) ?_
 refine s_nil ?_
 refine W.cond ((((a_First != b_First) || (a_Last != b_Last)) || (!r2)) || ((a_Olds.length : Int) != (b_Olds.length : Int))) rfl (fun c7z => ?_) (fun c7z => ?_)
 ·replace hM := M.e_t hM c7z
  refine W.seq ?_
  refine W.region rfl ?_
  refine s_val (x_as (v := B false) rfl) ?_
  refine s_nil ?_
  refine W.ret ?_
  have hr_ := M.e_pure hM
  exact ⟨_, resE_tmp rfl, ⟨false, hr_, rfl, (H.pick [] (by decide) rfl)⟩⟩
 replace hM := M.e_f hM c7z
 refine W.skip ?_
 refine W.seq ?_
 refine W.seq ?_
 refine W.region rfl ?_
 refine s_val (x_as (v := I 0) rfl) ?_
 refine s_nil ?_
 refine W.block ?_
 obtain ⟨ex8z, hi9z, hk10z⟩ := M.e_bind hM
 obtain ⟨m0_, hi9z⟩ := M.e_iter hi9z
 refine W.loop (fun m σ W => ∃ (i : Nat) (ρ : Env), σ = upds ρ [(2, .pointer (some ⟨b_1, 0, none⟩)), (3, .pointer (some ⟨b_2, 0, none⟩)), (5, I (i : Int))] /\ M.iterN (zbl a_Olds b_Olds) m i = some ex8z /\ St w W [cBlk b_2 [v_b_Years, v_b_Olds, I b_First, I b_Last] 26, cBlk b_1 [v_a_Years, v_a_Olds, I a_First, I a_Last] 26] R) ?_ ?_
 ·exact ⟨_, 0, _, upds_of _ _ ⟨rfl, rfl, rfl, trivial⟩, hi9z, H⟩
 rintro m13z σ w11z ⟨i, ρ, rfl, hI12z, H⟩
 obtain ⟨m14z, lt15z, x16z, hM, hN17z⟩ := M.e_iterN hI12z
 simp only [zbl] at hM
 clear hI12z
 refine W.seq ?_
 refine W.seq ?_
 refine W.region rfl ?_
 refine s_val (x_mv (v := I (i : Int)) rfl) ?_
 refine s_val (x_fa (a := .pointer (some ⟨b_1, 0, none⟩)) (v := .pointer (some ⟨b_1, 1, none⟩)) rfl (fa_blk (o := 0) Fd26_1 Sz24)) ?_
 refine s_val (x_ld (p := .pointer (some ⟨b_1, 1, none⟩)) (v := v_a_Olds) rfl (ldb_sc Sc24 (H.blk (k := 1) rfl) rfl)) ?_
 have hl18z := (hs_a_Olds).len_le
 refine s_val (x_lenS T24.und rfl hs_a_Olds) ?_
 refine s_val (x_cmp (kd := .i64) (a := (i : Int)) (b := (a_Olds.length : Int)) (r := decide ((i : Int) < (a_Olds.length : Int))) rfl rfl rfl) ?_
 refine s_nil ?_
 refine W.cond (decide ((i : Int) < (a_Olds.length : Int))) rfl (fun c19z => ?_) (fun c19z => ?_)
 ·replace hM := M.e_t hM c19z
  simp only [decide_eq_true_eq, decide_eq_false_iff_not, beq_iff_eq, bne_iff_ne, beq_eq_false_iff_ne, bne_eq_false_iff_eq, ne_eq, Decidable.not_not] at c19z
  refine W.skip ?_
  refine W.seq ?_
  refine W.block ?_
  refine W.seq ?_
  refine W.drawT (fun W => St w W [cBlk b_2 [v_b_Years, v_b_Olds, I b_First, I b_Last] 26, cBlk b_1 [v_a_Years, v_a_Olds, I a_First, I a_Last] 26] R) (.q 0 (.q 1 (.q 2 (.q 3 (.q 4 (.q 5 (.q 6 (.q 7 (.q 8 (.q 9 (.l2 10 (.l 11 (.l 12 (.l 13 .nil))) 11 (.l 10 (.l 12 (.l 13 .nil)))))))))))))) mixed (by decide +kernel) rfl ?_
  intro w20z hx_
  replace H : St w w20z [cBlk b_2 [v_b_Years, v_b_Olds, I b_First, I b_Last] 26, cBlk b_1 [v_a_Years, v_a_Olds, I a_First, I a_Last] 26] R := H.ext hx_
  clear hx_
  refine ⟨(H.pick [0, 1] (by decide) rfl), ?_⟩
  refine t_q rfl (fun w' H => x_fa (a := .pointer (some ⟨b_1, 0, none⟩)) (v := .pointer (some ⟨b_1, 1, none⟩)) rfl (fa_blk (o := 0) Fd26_1 Sz24)) ?_
  refine t_q rfl (fun w' H => x_ld (p := .pointer (some ⟨b_1, 1, none⟩)) (v := v_a_Olds) rfl (ldb_sc Sc24 (H.blk (k := 1) rfl) rfl)) ?_
  refine t_q rfl (fun w' H => x_mv (v := I (i : Int)) rfl) ?_
  obtain ⟨sd21z, hM⟩ := M.e_grd hM
  simp only [Bool.and_eq_true, decide_eq_true_eq] at sd21z
  refine t_q rfl (fun w' H => x_ix (a := v_a_Olds) (b := I (i : Int)) (v := vat v_a_Olds 4 (Int.toNat (i : Int))) rfl rfl (Sl.ix (α := Old10) T24.und T24.size hs_a_Olds (by omega) (by omega))) ?_
  obtain ⟨u22z, ha24z, hs23z⟩ := Old10_atA hs_a_Olds (i := (i : Int)) (by omega) (by omega)
  replace hs23z : Sl _ u22z (a_Olds.getD i default).passed := hs23z
  have hl_hs23z := hs23z.len_le
  refine t_q rfl (fun w' H => x_ld (p := vat v_a_Olds 4 (Int.toNat (i : Int))) (v := .agg #[I ((a_Olds.getD i default).src), I ((a_Olds.getD i default).dst), I ((a_Olds.getD i default).stage), u22z]) rfl (ld_ag Ag43 Sz43 (At.mono ha24z (hC_a_Olds.at H)))) ?_
  refine t_q rfl (fun w' H => x_fa (a := .pointer (some ⟨b_2, 0, none⟩)) (v := .pointer (some ⟨b_2, 1, none⟩)) rfl (fa_blk (o := 0) Fd26_1 Sz24)) ?_
  refine t_q rfl (fun w' H => x_ld (p := .pointer (some ⟨b_2, 1, none⟩)) (v := v_b_Olds) rfl (ldb_sc Sc24 (H.blk (k := 0) rfl) rfl)) ?_
  refine t_q rfl (fun w' H => x_mv (v := I (i : Int)) rfl) ?_
  obtain ⟨sd25z, hM⟩ := M.e_grd hM
  simp only [Bool.and_eq_true, decide_eq_true_eq] at sd25z
  refine t_q rfl (fun w' H => x_ix (a := v_b_Olds) (b := I (i : Int)) (v := vat v_b_Olds 4 (Int.toNat (i : Int))) rfl rfl (Sl.ix (α := Old10) T24.und T24.size hs_b_Olds (by omega) (by omega))) ?_
  obtain ⟨u26z, ha28z, hs27z⟩ := Old10_atA hs_b_Olds (i := (i : Int)) (by omega) (by omega)
  replace hs27z : Sl _ u26z (b_Olds.getD i default).passed := hs27z
  have hl_hs27z := hs27z.len_le
  refine t_q rfl (fun w' H => x_ld (p := vat v_b_Olds 4 (Int.toNat (i : Int))) (v := .agg #[I ((b_Olds.getD i default).src), I ((b_Olds.getD i default).dst), I ((b_Olds.getD i default).stage), u26z]) rfl (ld_ag Ag43 Sz43 (At.mono ha28z (hC_b_Olds.at H)))) ?_
  refine t_l2 rfl rfl ?_ ?_
  ·skip
   refine t_alloc (cs := [I 0, I 0, I 0, .slice none 0 0]) H Al43 rfl ?_
   intro b_3 w33z H
   refine s_nil ⟨(H.pick [1, 2] (by decide) rfl), ?_⟩
   refine t_l rfl ?_
   refine t_alloc (cs := [I 0, I 0, I 0, .slice none 0 0]) H Al43 rfl ?_
   intro b_4 w34z H
   refine s_nil ⟨(H.pick [2, 3] (by decide) rfl), ?_⟩
   refine t_l rfl ?_
   refine t_st (k := 1) (b := b_3) (off := 0) (cs := [I 0, I 0, I 0, .slice none 0 0]) (vs := [I ((a_Olds.getD i default).src), I ((a_Olds.getD i default).dst), I ((a_Olds.getD i default).stage), u22z]) (cs' := [I ((a_Olds.getD i default).src), I ((a_Olds.getD i default).dst), I ((a_Olds.getD i default).stage), u22z]) (v := .agg #[I ((a_Olds.getD i default).src), I ((a_Olds.getD i default).dst), I ((a_Olds.getD i default).stage), u22z]) (L' := [cBlk b_4 [I 0, I 0, I 0, .slice none 0 0] 43, cBlk b_3 [I ((a_Olds.getD i default).src), I ((a_Olds.getD i default).dst), I ((a_Olds.getD i default).stage), u22z] 43, cBlk b_2 [v_b_Years, v_b_Olds, I b_First, I b_Last] 26, cBlk b_1 [v_a_Years, v_a_Olds, I a_First, I a_Last] 26]) H rfl rfl rfl Sz43 rfl rfl rfl (by simp only [List.all_cons, List.all_nil, Bool.true_and, Bool.and_true, Sl.oc hs23z]; try rfl) rfl rfl ?_
   intro w35z H
   refine s_nil ⟨(H.pick [2, 3] (by decide) rfl), ?_⟩
   refine t_l rfl ?_
   refine t_st (k := 0) (b := b_4) (off := 0) (cs := [I 0, I 0, I 0, .slice none 0 0]) (vs := [I ((b_Olds.getD i default).src), I ((b_Olds.getD i default).dst), I ((b_Olds.getD i default).stage), u26z]) (cs' := [I ((b_Olds.getD i default).src), I ((b_Olds.getD i default).dst), I ((b_Olds.getD i default).stage), u26z]) (v := .agg #[I ((b_Olds.getD i default).src), I ((b_Olds.getD i default).dst), I ((b_Olds.getD i default).stage), u26z]) (L' := [cBlk b_4 [I ((b_Olds.getD i default).src), I ((b_Olds.getD i default).dst), I ((b_Olds.getD i default).stage), u26z] 43, cBlk b_3 [I ((a_Olds.getD i default).src), I ((a_Olds.getD i default).dst), I ((a_Olds.getD i default).stage), u22z] 43, cBlk b_2 [v_b_Years, v_b_Olds, I b_First, I b_Last] 26, cBlk b_1 [v_a_Years, v_a_Olds, I a_First, I a_Last] 26]) H rfl rfl rfl Sz43 rfl rfl rfl (by simp only [List.all_cons, List.all_nil, Bool.true_and, Bool.and_true, Sl.oc hs27z]; try rfl) rfl rfl ?_
   intro w36z H
   refine s_nil ⟨(H.pick [2, 3] (by decide) rfl), ?_⟩
   refine t_nil ?_
   refine W.seq ?_
   refine W.region rfl ?_
   refine s_val (x_fa (a := .pointer (some ⟨b_3, 0, none⟩)) (v := .pointer (some ⟨b_3, 0, none⟩)) rfl (fa_blk (o := 0) Fd43_0 Sz3)) ?_
   refine s_val (x_ld (p := .pointer (some ⟨b_3, 0, none⟩)) (v := I ((a_Olds.getD i default).src)) rfl (ldb_sc Sc3 (H.blk (k := 1) rfl) rfl)) ?_
   refine s_val (x_fa (a := .pointer (some ⟨b_4, 0, none⟩)) (v := .pointer (some ⟨b_4, 0, none⟩)) rfl (fa_blk (o := 0) Fd43_0 Sz3)) ?_
   refine s_val (x_ld (p := .pointer (some ⟨b_4, 0, none⟩)) (v := I ((b_Olds.getD i default).src)) rfl (ldb_sc Sc3 (H.blk (k := 0) rfl) rfl)) ?_
   refine s_val (x_cmp (kd := .i64) (a := (a_Olds.getD i default).src) (b := (b_Olds.getD i default).src) (r := ((a_Olds.getD i default).src) != ((b_Olds.getD i default).src)) rfl rfl rfl) ?_
   refine s_val (x_mv (v := B (((a_Olds.getD i default).src) != ((b_Olds.getD i default).src))) rfl) ?_
   refine g_val (!(((a_Olds.getD i default).src) != ((b_Olds.getD i default).src))) (gy_f rfl) (fun hg => x_fa (a := .pointer (some ⟨b_3, 0, none⟩)) (v := .pointer (some ⟨b_3, 1, none⟩)) rfl (fa_blk (o := 0) Fd43_1 Sz3)) ?_
   refine g_val (!(((a_Olds.getD i default).src) != ((b_Olds.getD i default).src))) (gy_f rfl) (fun hg => x_ld (p := .pointer (some ⟨b_3, 1, none⟩)) (v := I ((a_Olds.getD i default).dst)) (gd_of (c := !(((a_Olds.getD i default).src) != ((b_Olds.getD i default).src))) hg (.pointer (some ⟨b_3, 1, none⟩))) (ldb_sc Sc3 (H.blk (k := 1) rfl) rfl)) ?_
   refine g_val (!(((a_Olds.getD i default).src) != ((b_Olds.getD i default).src))) (gy_f rfl) (fun hg => x_fa (a := .pointer (some ⟨b_4, 0, none⟩)) (v := .pointer (some ⟨b_4, 1, none⟩)) rfl (fa_blk (o := 0) Fd43_1 Sz3)) ?_
   refine g_val (!(((a_Olds.getD i default).src) != ((b_Olds.getD i default).src))) (gy_f rfl) (fun hg => x_ld (p := .pointer (some ⟨b_4, 1, none⟩)) (v := I ((b_Olds.getD i default).dst)) (gd_of (c := !(((a_Olds.getD i default).src) != ((b_Olds.getD i default).src))) hg (.pointer (some ⟨b_4, 1, none⟩))) (ldb_sc Sc3 (H.blk (k := 0) rfl) rfl)) ?_
   refine g_val (!(((a_Olds.getD i default).src) != ((b_Olds.getD i default).src))) (gy_f rfl) (fun hg => x_cmp (kd := .i64) (a := (a_Olds.getD i default).dst) (b := (b_Olds.getD i default).dst) (r := ((a_Olds.getD i default).dst) != ((b_Olds.getD i default).dst)) (gd_of (c := !(((a_Olds.getD i default).src) != ((b_Olds.getD i default).src))) hg (I ((a_Olds.getD i default).dst))) (gd_of (c := !(((a_Olds.getD i default).src) != ((b_Olds.getD i default).src))) hg (I ((b_Olds.getD i default).dst))) rfl) ?_
   refine s_val (x_por (b := ((a_Olds.getD i default).src) != ((b_Olds.getD i default).src)) (r := ((a_Olds.getD i default).dst) != ((b_Olds.getD i default).dst)) rfl rfl (fun hb => gd_of (c := !(((a_Olds.getD i default).src) != ((b_Olds.getD i default).src))) (by first | exact hb | (rw [hb]; rfl) | simp_all) (B (((a_Olds.getD i default).dst) != ((b_Olds.getD i default).dst))))) ?_
   refine s_val (x_mv (v := B ((((a_Olds.getD i default).src) != ((b_Olds.getD i default).src)) || (((a_Olds.getD i default).dst) != ((b_Olds.getD i default).dst)))) rfl) ?_
   refine g_val (!((((a_Olds.getD i default).src) != ((b_Olds.getD i default).src)) || (((a_Olds.getD i default).dst) != ((b_Olds.getD i default).dst)))) (gy_f rfl) (fun hg => x_fa (a := .pointer (some ⟨b_3, 0, none⟩)) (v := .pointer (some ⟨b_3, 2, none⟩)) rfl (fa_blk (o := 0) Fd43_2 Sz3)) ?_
   refine g_val (!((((a_Olds.getD i default).src) != ((b_Olds.getD i default).src)) || (((a_Olds.getD i default).dst) != ((b_Olds.getD i default).dst)))) (gy_f rfl) (fun hg => x_ld (p := .pointer (some ⟨b_3, 2, none⟩)) (v := I ((a_Olds.getD i default).stage)) (gd_of (c := !((((a_Olds.getD i default).src) != ((b_Olds.getD i default).src)) || (((a_Olds.getD i default).dst) != ((b_Olds.getD i default).dst)))) hg (.pointer (some ⟨b_3, 2, none⟩))) (ldb_sc Sc3 (H.blk (k := 1) rfl) rfl)) ?_
   refine g_val (!((((a_Olds.getD i default).src) != ((b_Olds.getD i default).src)) || (((a_Olds.getD i default).dst) != ((b_Olds.getD i default).dst)))) (gy_f rfl) (fun hg => x_fa (a := .pointer (some ⟨b_4, 0, none⟩)) (v := .pointer (some ⟨b_4, 2, none⟩)) rfl (fa_blk (o := 0) Fd43_2 Sz3)) ?_
   refine g_val (!((((a_Olds.getD i default).src) != ((b_Olds.getD i default).src)) || (((a_Olds.getD i default).dst) != ((b_Olds.getD i default).dst)))) (gy_f rfl) (fun hg => x_ld (p := .pointer (some ⟨b_4, 2, none⟩)) (v := I ((b_Olds.getD i default).stage)) (gd_of (c := !((((a_Olds.getD i default).src) != ((b_Olds.getD i default).src)) || (((a_Olds.getD i default).dst) != ((b_Olds.getD i default).dst)))) hg (.pointer (some ⟨b_4, 2, none⟩))) (ldb_sc Sc3 (H.blk (k := 0) rfl) rfl)) ?_
   refine g_val (!((((a_Olds.getD i default).src) != ((b_Olds.getD i default).src)) || (((a_Olds.getD i default).dst) != ((b_Olds.getD i default).dst)))) (gy_f rfl) (fun hg => x_cmp (kd := .i64) (a := (a_Olds.getD i default).stage) (b := (b_Olds.getD i default).stage) (r := ((a_Olds.getD i default).stage) != ((b_Olds.getD i default).stage)) (gd_of (c := !((((a_Olds.getD i default).src) != ((b_Olds.getD i default).src)) || (((a_Olds.getD i default).dst) != ((b_Olds.getD i default).dst)))) hg (I ((a_Olds.getD i default).stage))) (gd_of (c := !((((a_Olds.getD i default).src) != ((b_Olds.getD i default).src)) || (((a_Olds.getD i default).dst) != ((b_Olds.getD i default).dst)))) hg (I ((b_Olds.getD i default).stage))) rfl) ?_
   refine s_val (x_por (b := ((((a_Olds.getD i default).src) != ((b_Olds.getD i default).src)) || (((a_Olds.getD i default).dst) != ((b_Olds.getD i default).dst)))) (r := ((a_Olds.getD i default).stage) != ((b_Olds.getD i default).stage)) rfl rfl (fun hb => gd_of (c := !((((a_Olds.getD i default).src) != ((b_Olds.getD i default).src)) || (((a_Olds.getD i default).dst) != ((b_Olds.getD i default).dst)))) (by first | exact hb | (rw [hb]; rfl) | simp_all) (B (((a_Olds.getD i default).stage) != ((b_Olds.getD i default).stage))))) ?_
   refine s_val (x_mv (v := B (((((a_Olds.getD i default).src) != ((b_Olds.getD i default).src)) || (((a_Olds.getD i default).dst) != ((b_Olds.getD i default).dst))) || (((a_Olds.getD i default).stage) != ((b_Olds.getD i default).stage)))) rfl) ?_
   refine g_val (!(((((a_Olds.getD i default).src) != ((b_Olds.getD i default).src)) || (((a_Olds.getD i default).dst) != ((b_Olds.getD i default).dst))) || (((a_Olds.getD i default).stage) != ((b_Olds.getD i default).stage)))) (gy_f rfl) (fun hg => x_fa (a := .pointer (some ⟨b_3, 0, none⟩)) (v := .pointer (some ⟨b_3, 3, none⟩)) rfl (fa_blk (o := 0) Fd43_3 Sz27)) ?_
   refine g_val (!(((((a_Olds.getD i default).src) != ((b_Olds.getD i default).src)) || (((a_Olds.getD i default).dst) != ((b_Olds.getD i default).dst))) || (((a_Olds.getD i default).stage) != ((b_Olds.getD i default).stage)))) (gy_f rfl) (fun hg => x_ld (p := .pointer (some ⟨b_3, 3, none⟩)) (v := u22z) (gd_of (c := !(((((a_Olds.getD i default).src) != ((b_Olds.getD i default).src)) || (((a_Olds.getD i default).dst) != ((b_Olds.getD i default).dst))) || (((a_Olds.getD i default).stage) != ((b_Olds.getD i default).stage)))) hg (.pointer (some ⟨b_3, 3, none⟩))) (ldb_sc Sc27 (H.blk (k := 1) rfl) rfl)) ?_
   refine g_val (!(((((a_Olds.getD i default).src) != ((b_Olds.getD i default).src)) || (((a_Olds.getD i default).dst) != ((b_Olds.getD i default).dst))) || (((a_Olds.getD i default).stage) != ((b_Olds.getD i default).stage)))) (gy_f rfl) (fun hg => x_fa (a := .pointer (some ⟨b_4, 0, none⟩)) (v := .pointer (some ⟨b_4, 3, none⟩)) rfl (fa_blk (o := 0) Fd43_3 Sz27)) ?_
   refine g_val (!(((((a_Olds.getD i default).src) != ((b_Olds.getD i default).src)) || (((a_Olds.getD i default).dst) != ((b_Olds.getD i default).dst))) || (((a_Olds.getD i default).stage) != ((b_Olds.getD i default).stage)))) (gy_f rfl) (fun hg => x_ld (p := .pointer (some ⟨b_4, 3, none⟩)) (v := u26z) (gd_of (c := !(((((a_Olds.getD i default).src) != ((b_Olds.getD i default).src)) || (((a_Olds.getD i default).dst) != ((b_Olds.getD i default).dst))) || (((a_Olds.getD i default).stage) != ((b_Olds.getD i default).stage)))) hg (.pointer (some ⟨b_4, 3, none⟩))) (ldb_sc Sc27 (H.blk (k := 0) rfl) rfl)) ?_
   obtain ⟨r3, hx37z, hM⟩ := M.e_bind hM
   refine t_gcall (!(((((a_Olds.getD i default).src) != ((b_Olds.getD i default).src)) || (((a_Olds.getD i default).dst) != ((b_Olds.getD i default).dst))) || (((a_Olds.getD i default).stage) != ((b_Olds.getD i default).stage)))) (gy_f rfl) cf43 (B r3) (fun _ => [u22z, u26z]) (fun hg => lst2 (gd_of (c := !(((((a_Olds.getD i default).src) != ((b_Olds.getD i default).src)) || (((a_Olds.getD i default).dst) != ((b_Olds.getD i default).dst))) || (((a_Olds.getD i default).stage) != ((b_Olds.getD i default).stage)))) hg (u22z)) (gd_of (c := !(((((a_Olds.getD i default).src) != ((b_Olds.getD i default).src)) || (((a_Olds.getD i default).dst) != ((b_Olds.getD i default).dst))) || (((a_Olds.getD i default).stage) != ((b_Olds.getD i default).stage)))) hg (u26z))) H (fun hg => (zb0 ((a_Olds.getD i default).passed) ((b_Olds.getD i default).passed) (hC_a_Olds.app _) hs23z (hC_b_Olds.app _) hs27z (M.e_opt hx37z hg) _ (H.give (A := []) rfl)).mono fun v_ w_ ⟨y_, hr_, hv_, H_⟩ => by subst hr_; exact ⟨hv_, H.via H_⟩) ?_
   intro w38z H
   refine g_val (!(((((a_Olds.getD i default).src) != ((b_Olds.getD i default).src)) || (((a_Olds.getD i default).dst) != ((b_Olds.getD i default).dst))) || (((a_Olds.getD i default).stage) != ((b_Olds.getD i default).stage)))) (gy_f rfl) (fun hg => x_not (b := r3) (gd_of (c := !(((((a_Olds.getD i default).src) != ((b_Olds.getD i default).src)) || (((a_Olds.getD i default).dst) != ((b_Olds.getD i default).dst))) || (((a_Olds.getD i default).stage) != ((b_Olds.getD i default).stage)))) hg (B r3))) ?_
   refine s_val (x_por (b := (((((a_Olds.getD i default).src) != ((b_Olds.getD i default).src)) || (((a_Olds.getD i default).dst) != ((b_Olds.getD i default).dst))) || (((a_Olds.getD i default).stage) != ((b_Olds.getD i default).stage)))) (r := !r3) rfl rfl (fun hb => gd_of (c := !(((((a_Olds.getD i default).src) != ((b_Olds.getD i default).src)) || (((a_Olds.getD i default).dst) != ((b_Olds.getD i default).dst))) || (((a_Olds.getD i default).stage) != ((b_Olds.getD i default).stage)))) (by first | exact hb | (rw [hb]; rfl) | simp_all) (B (!r3)))) ?_
   refine s_nil ?_
   refine W.cond ((((((a_Olds.getD i default).src) != ((b_Olds.getD i default).src)) || (((a_Olds.getD i default).dst) != ((b_Olds.getD i default).dst))) || (((a_Olds.getD i default).stage) != ((b_Olds.getD i default).stage))) || (!r3)) rfl (fun c39z => ?_) (fun c39z => ?_)
   ·replace hM := M.e_t hM c39z
    refine W.seq ?_
    refine W.region rfl ?_
    refine s_val (x_as (v := B false) rfl) ?_
    refine s_nil ?_
    refine W.ret ?_
    have hX40z := M.e_inr hM hN17z
    subst hX40z
    replace hM := hk10z
    try dsimp only at hM
    have hr_ := M.e_pure hM
    exact ⟨_, resE_tmp rfl, ⟨false, hr_, rfl, (H.pick [] (by decide) rfl)⟩⟩
   replace hM := M.e_f hM c39z
   refine W.skip ?_
   refine W.region rfl ?_
   refine s_val (x_mv (v := I (i : Int)) rfl) ?_
   refine s_val (x_ari (a := (i : Int)) (b := 1) (r := (i : Int) + 1) rfl rfl rfl (by omega)) ?_
   refine s_val (x_as (v := I ((i : Int) + 1)) rfl) ?_
   refine s_nil ?_
   exact ⟨m14z, lt15z, i + 1, _, upds_of _ _ ⟨rfl, rfl, rfl, trivial⟩, M.e_inl hM hN17z, (H.pick [2, 3] (by decide) rfl)⟩
  skip
  refine t_alloc (cs := [I 0, I 0, I 0, .slice none 0 0]) H Al43 rfl ?_
  intro b_4 w41z H
  refine s_nil ⟨(H.pick [1, 2] (by decide) rfl), ?_⟩
  refine t_l rfl ?_
  refine t_alloc (cs := [I 0, I 0, I 0, .slice none 0 0]) H Al43 rfl ?_
  intro b_3 w42z H
  refine s_nil ⟨(H.pick [2, 3] (by decide) rfl), ?_⟩
  refine t_l rfl ?_
  refine t_st (k := 0) (b := b_3) (off := 0) (cs := [I 0, I 0, I 0, .slice none 0 0]) (vs := [I ((a_Olds.getD i default).src), I ((a_Olds.getD i default).dst), I ((a_Olds.getD i default).stage), u22z]) (cs' := [I ((a_Olds.getD i default).src), I ((a_Olds.getD i default).dst), I ((a_Olds.getD i default).stage), u22z]) (v := .agg #[I ((a_Olds.getD i default).src), I ((a_Olds.getD i default).dst), I ((a_Olds.getD i default).stage), u22z]) (L' := [cBlk b_3 [I ((a_Olds.getD i default).src), I ((a_Olds.getD i default).dst), I ((a_Olds.getD i default).stage), u22z] 43, cBlk b_4 [I 0, I 0, I 0, .slice none 0 0] 43, cBlk b_2 [v_b_Years, v_b_Olds, I b_First, I b_Last] 26, cBlk b_1 [v_a_Years, v_a_Olds, I a_First, I a_Last] 26]) H rfl rfl rfl Sz43 rfl rfl rfl (by simp only [List.all_cons, List.all_nil, Bool.true_and, Bool.and_true, Sl.oc hs23z]; try rfl) rfl rfl ?_
  intro w43z H
  refine s_nil ⟨(H.pick [2, 3] (by decide) rfl), ?_⟩
  refine t_l rfl ?_
  refine t_st (k := 1) (b := b_4) (off := 0) (cs := [I 0, I 0, I 0, .slice none 0 0]) (vs := [I ((b_Olds.getD i default).src), I ((b_Olds.getD i default).dst), I ((b_Olds.getD i default).stage), u26z]) (cs' := [I ((b_Olds.getD i default).src), I ((b_Olds.getD i default).dst), I ((b_Olds.getD i default).stage), u26z]) (v := .agg #[I ((b_Olds.getD i default).src), I ((b_Olds.getD i default).dst), I ((b_Olds.getD i default).stage), u26z]) (L' := [cBlk b_3 [I ((a_Olds.getD i default).src), I ((a_Olds.getD i default).dst), I ((a_Olds.getD i default).stage), u22z] 43, cBlk b_4 [I ((b_Olds.getD i default).src), I ((b_Olds.getD i default).dst), I ((b_Olds.getD i default).stage), u26z] 43, cBlk b_2 [v_b_Years, v_b_Olds, I b_First, I b_Last] 26, cBlk b_1 [v_a_Years, v_a_Olds, I a_First, I a_Last] 26]) H rfl rfl rfl Sz43 rfl rfl rfl (by simp only [List.all_cons, List.all_nil, Bool.true_and, Bool.and_true, Sl.oc hs27z]; try rfl) rfl rfl ?_
  intro w44z H
  refine s_nil ⟨(H.pick [2, 3] (by decide) rfl), ?_⟩
  refine t_nil ?_
  refine W.seq ?_
  refine W.region rfl ?_
  refine s_val (x_fa (a := .pointer (some ⟨b_3, 0, none⟩)) (v := .pointer (some ⟨b_3, 0, none⟩)) rfl (fa_blk (o := 0) Fd43_0 Sz3)) ?_
  refine s_val (x_ld (p := .pointer (some ⟨b_3, 0, none⟩)) (v := I ((a_Olds.getD i default).src)) rfl (ldb_sc Sc3 (H.blk (k := 0) rfl) rfl)) ?_
  refine s_val (x_fa (a := .pointer (some ⟨b_4, 0, none⟩)) (v := .pointer (some ⟨b_4, 0, none⟩)) rfl (fa_blk (o := 0) Fd43_0 Sz3)) ?_
  refine s_val (x_ld (p := .pointer (some ⟨b_4, 0, none⟩)) (v := I ((b_Olds.getD i default).src)) rfl (ldb_sc Sc3 (H.blk (k := 1) rfl) rfl)) ?_
  refine s_val (x_cmp (kd := .i64) (a := (a_Olds.getD i default).src) (b := (b_Olds.getD i default).src) (r := ((a_Olds.getD i default).src) != ((b_Olds.getD i default).src)) rfl rfl rfl) ?_
  refine s_val (x_mv (v := B (((a_Olds.getD i default).src) != ((b_Olds.getD i default).src))) rfl) ?_
  refine g_val (!(((a_Olds.getD i default).src) != ((b_Olds.getD i default).src))) (gy_f rfl) (fun hg => x_fa (a := .pointer (some ⟨b_3, 0, none⟩)) (v := .pointer (some ⟨b_3, 1, none⟩)) rfl (fa_blk (o := 0) Fd43_1 Sz3)) ?_
  refine g_val (!(((a_Olds.getD i default).src) != ((b_Olds.getD i default).src))) (gy_f rfl) (fun hg => x_ld (p := .pointer (some ⟨b_3, 1, none⟩)) (v := I ((a_Olds.getD i default).dst)) (gd_of (c := !(((a_Olds.getD i default).src) != ((b_Olds.getD i default).src))) hg (.pointer (some ⟨b_3, 1, none⟩))) (ldb_sc Sc3 (H.blk (k := 0) rfl) rfl)) ?_
  refine g_val (!(((a_Olds.getD i default).src) != ((b_Olds.getD i default).src))) (gy_f rfl) (fun hg => x_fa (a := .pointer (some ⟨b_4, 0, none⟩)) (v := .pointer (some ⟨b_4, 1, none⟩)) rfl (fa_blk (o := 0) Fd43_1 Sz3)) ?_
  refine g_val (!(((a_Olds.getD i default).src) != ((b_Olds.getD i default).src))) (gy_f rfl) (fun hg => x_ld (p := .pointer (some ⟨b_4, 1, none⟩)) (v := I ((b_Olds.getD i default).dst)) (gd_of (c := !(((a_Olds.getD i default).src) != ((b_Olds.getD i default).src))) hg (.pointer (some ⟨b_4, 1, none⟩))) (ldb_sc Sc3 (H.blk (k := 1) rfl) rfl)) ?_
  refine g_val (!(((a_Olds.getD i default).src) != ((b_Olds.getD i default).src))) (gy_f rfl) (fun hg => x_cmp (kd := .i64) (a := (a_Olds.getD i default).dst) (b := (b_Olds.getD i default).dst) (r := ((a_Olds.getD i default).dst) != ((b_Olds.getD i default).dst)) (gd_of (c := !(((a_Olds.getD i default).src) != ((b_Olds.getD i default).src))) hg (I ((a_Olds.getD i default).dst))) (gd_of (c := !(((a_Olds.getD i default).src) != ((b_Olds.getD i default).src))) hg (I ((b_Olds.getD i default).dst))) rfl) ?_
  refine s_val (x_por (b := ((a_Olds.getD i default).src) != ((b_Olds.getD i default).src)) (r := ((a_Olds.getD i default).dst) != ((b_Olds.getD i default).dst)) rfl rfl (fun hb => gd_of (c := !(((a_Olds.getD i default).src) != ((b_Olds.getD i default).src))) (by first | exact hb | (rw [hb]; rfl) | simp_all) (B (((a_Olds.getD i default).dst) != ((b_Olds.getD i default).dst))))) ?_
  refine s_val (x_mv (v := B ((((a_Olds.getD i default).src) != ((b_Olds.getD i default).src)) || (((a_Olds.getD i default).dst) != ((b_Olds.getD i default).dst)))) rfl) ?_
  refine g_val (!((((a_Olds.getD i default).src) != ((b_Olds.getD i default).src)) || (((a_Olds.getD i default).dst) != ((b_Olds.getD i default).dst)))) (gy_f rfl) (fun hg => x_fa (a := .pointer (some ⟨b_3, 0, none⟩)) (v := .pointer (some ⟨b_3, 2, none⟩)) rfl (fa_blk (o := 0) Fd43_2 Sz3)) ?_
  refine g_val (!((((a_Olds.getD i default).src) != ((b_Olds.getD i default).src)) || (((a_Olds.getD i default).dst) != ((b_Olds.getD i default).dst)))) (gy_f rfl) (fun hg => x_ld (p := .pointer (some ⟨b_3, 2, none⟩)) (v := I ((a_Olds.getD i default).stage)) (gd_of (c := !((((a_Olds.getD i default).src) != ((b_Olds.getD i default).src)) || (((a_Olds.getD i default).dst) != ((b_Olds.getD i default).dst)))) hg (.pointer (some ⟨b_3, 2, none⟩))) (ldb_sc Sc3 (H.blk (k := 0) rfl) rfl)) ?_
  refine g_val (!((((a_Olds.getD i default).src) != ((b_Olds.getD i default).src)) || (((a_Olds.getD i default).dst) != ((b_Olds.getD i default).dst)))) (gy_f rfl) (fun hg => x_fa (a := .pointer (some ⟨b_4, 0, none⟩)) (v := .pointer (some ⟨b_4, 2, none⟩)) rfl (fa_blk (o := 0) Fd43_2 Sz3)) ?_
  refine g_val (!((((a_Olds.getD i default).src) != ((b_Olds.getD i default).src)) || (((a_Olds.getD i default).dst) != ((b_Olds.getD i default).dst)))) (gy_f rfl) (fun hg => x_ld (p := .pointer (some ⟨b_4, 2, none⟩)) (v := I ((b_Olds.getD i default).stage)) (gd_of (c := !((((a_Olds.getD i default).src) != ((b_Olds.getD i default).src)) || (((a_Olds.getD i default).dst) != ((b_Olds.getD i default).dst)))) hg (.pointer (some ⟨b_4, 2, none⟩))) (ldb_sc Sc3 (H.blk (k := 1) rfl) rfl)) ?_
  refine g_val (!((((a_Olds.getD i default).src) != ((b_Olds.getD i default).src)) || (((a_Olds.getD i default).dst) != ((b_Olds.getD i default).dst)))) (gy_f rfl) (fun hg => x_cmp (kd := .i64) (a := (a_Olds.getD i default).stage) (b := (b_Olds.getD i default).stage) (r := ((a_Olds.getD i default).stage) != ((b_Olds.getD i default).stage)) (gd_of (c := !((((a_Olds.getD i default).src) != ((b_Olds.getD i default).src)) || (((a_Olds.getD i default).dst) != ((b_Olds.getD i default).dst)))) hg (I ((a_Olds.getD i default).stage))) (gd_of (c := !((((a_Olds.getD i default).src) != ((b_Olds.getD i default).src)) || (((a_Olds.getD i default).dst) != ((b_Olds.getD i default).dst)))) hg (I ((b_Olds.getD i default).stage))) rfl) ?_
  refine s_val (x_por (b := ((((a_Olds.getD i default).src) != ((b_Olds.getD i default).src)) || (((a_Olds.getD i default).dst) != ((b_Olds.getD i default).dst)))) (r := ((a_Olds.getD i default).stage) != ((b_Olds.getD i default).stage)) rfl rfl (fun hb => gd_of (c := !((((a_Olds.getD i default).src) != ((b_Olds.getD i default).src)) || (((a_Olds.getD i default).dst) != ((b_Olds.getD i default).dst)))) (by first | exact hb | (rw [hb]; rfl) | simp_all) (B (((a_Olds.getD i default).stage) != ((b_Olds.getD i default).stage))))) ?_
  refine s_val (x_mv (v := B (((((a_Olds.getD i default).src) != ((b_Olds.getD i default).src)) || (((a_Olds.getD i default).dst) != ((b_Olds.getD i default).dst))) || (((a_Olds.getD i default).stage) != ((b_Olds.getD i default).stage)))) rfl) ?_
  refine g_val (!(((((a_Olds.getD i default).src) != ((b_Olds.getD i default).src)) || (((a_Olds.getD i default).dst) != ((b_Olds.getD i default).dst))) || (((a_Olds.getD i default).stage) != ((b_Olds.getD i default).stage)))) (gy_f rfl) (fun hg => x_fa (a := .pointer (some ⟨b_3, 0, none⟩)) (v := .pointer (some ⟨b_3, 3, none⟩)) rfl (fa_blk (o := 0) Fd43_3 Sz27)) ?_
  refine g_val (!(((((a_Olds.getD i default).src) != ((b_Olds.getD i default).src)) || (((a_Olds.getD i default).dst) != ((b_Olds.getD i default).dst))) || (((a_Olds.getD i default).stage) != ((b_Olds.getD i default).stage)))) (gy_f rfl) (fun hg => x_ld (p := .pointer (some ⟨b_3, 3, none⟩)) (v := u22z) (gd_of (c := !(((((a_Olds.getD i default).src) != ((b_Olds.getD i default).src)) || (((a_Olds.getD i default).dst) != ((b_Olds.getD i default).dst))) || (((a_Olds.getD i default).stage) != ((b_Olds.getD i default).stage)))) hg (.pointer (some ⟨b_3, 3, none⟩))) (ldb_sc Sc27 (H.blk (k := 0) rfl) rfl)) ?_
  refine g_val (!(((((a_Olds.getD i default).src) != ((b_Olds.getD i default).src)) || (((a_Olds.getD i default).dst) != ((b_Olds.getD i default).dst))) || (((a_Olds.getD i default).stage) != ((b_Olds.getD i default).stage)))) (gy_f rfl) (fun hg => x_fa (a := .pointer (some ⟨b_4, 0, none⟩)) (v := .pointer (some ⟨b_4, 3, none⟩)) rfl (fa_blk (o := 0) Fd43_3 Sz27)) ?_
  refine g_val (!(((((a_Olds.getD i default).src) != ((b_Olds.getD i default).src)) || (((a_Olds.getD i default).dst) != ((b_Olds.getD i default).dst))) || (((a_Olds.getD i default).stage) != ((b_Olds.getD i default).stage)))) (gy_f rfl) (fun hg => x_ld (p := .pointer (some ⟨b_4, 3, none⟩)) (v := u26z) (gd_of (c := !(((((a_Olds.getD i default).src) != ((b_Olds.getD i default).src)) || (((a_Olds.getD i default).dst) != ((b_Olds.getD i default).dst))) || (((a_Olds.getD i default).stage) != ((b_Olds.getD i default).stage)))) hg (.pointer (some ⟨b_4, 3, none⟩))) (ldb_sc Sc27 (H.blk (k := 1) rfl) rfl)) ?_
  obtain ⟨r3, hx45z, hM⟩ := M.e_bind hM
  refine t_gcall (!(((((a_Olds.getD i default).src) != ((b_Olds.getD i default).src)) || (((a_Olds.getD i default).dst) != ((b_Olds.getD i default).dst))) || (((a_Olds.getD i default).stage) != ((b_Olds.getD i default).stage)))) (gy_f rfl) cf43 (B r3) (fun _ => [u22z, u26z]) (fun hg => lst2 (gd_of (c := !(((((a_Olds.getD i default).src) != ((b_Olds.getD i default).src)) || (((a_Olds.getD i default).dst) != ((b_Olds.getD i default).dst))) || (((a_Olds.getD i default).stage) != ((b_Olds.getD i default).stage)))) hg (u22z)) (gd_of (c := !(((((a_Olds.getD i default).src) != ((b_Olds.getD i default).src)) || (((a_Olds.getD i default).dst) != ((b_Olds.getD i default).dst))) || (((a_Olds.getD i default).stage) != ((b_Olds.getD i default).stage)))) hg (u26z))) H (fun hg => (zb0 ((a_Olds.getD i default).passed) ((b_Olds.getD i default).passed) (hC_a_Olds.app _) hs23z (hC_b_Olds.app _) hs27z (M.e_opt hx45z hg) _ (H.give (A := []) rfl)).mono fun v_ w_ ⟨y_, hr_, hv_, H_⟩ => by subst hr_; exact ⟨hv_, H.via H_⟩) ?_
  intro w46z H
  refine g_val (!(((((a_Olds.getD i default).src) != ((b_Olds.getD i default).src)) || (((a_Olds.getD i default).dst) != ((b_Olds.getD i default).dst))) || (((a_Olds.getD i default).stage) != ((b_Olds.getD i default).stage)))) (gy_f rfl) (fun hg => x_not (b := r3) (gd_of (c := !(((((a_Olds.getD i default).src) != ((b_Olds.getD i default).src)) || (((a_Olds.getD i default).dst) != ((b_Olds.getD i default).dst))) || (((a_Olds.getD i default).stage) != ((b_Olds.getD i default).stage)))) hg (B r3))) ?_
  refine s_val (x_por (b := (((((a_Olds.getD i default).src) != ((b_Olds.getD i default).src)) || (((a_Olds.getD i default).dst) != ((b_Olds.getD i default).dst))) || (((a_Olds.getD i default).stage) != ((b_Olds.getD i default).stage)))) (r := !r3) rfl rfl (fun hb => gd_of (c := !(((((a_Olds.getD i default).src) != ((b_Olds.getD i default).src)) || (((a_Olds.getD i default).dst) != ((b_Olds.getD i default).dst))) || (((a_Olds.getD i default).stage) != ((b_Olds.getD i default).stage)))) (by first | exact hb | (rw [hb]; rfl) | simp_all) (B (!r3)))) ?_
  refine s_nil ?_
  refine W.cond ((((((a_Olds.getD i default).src) != ((b_Olds.getD i default).src)) || (((a_Olds.getD i default).dst) != ((b_Olds.getD i default).dst))) || (((a_Olds.getD i default).stage) != ((b_Olds.getD i default).stage))) || (!r3)) rfl (fun c47z => ?_) (fun c47z => ?_)
  ·replace hM := M.e_t hM c47z
   refine W.seq ?_
   refine W.region rfl ?_
   refine s_val (x_as (v := B false) rfl) ?_
   refine s_nil ?_
   refine W.ret ?_
   have hX48z := M.e_inr hM hN17z
   subst hX48z
   replace hM := hk10z
   try dsimp only at hM
   have hr_ := M.e_pure hM
   exact ⟨_, resE_tmp rfl, ⟨false, hr_, rfl, (H.pick [] (by decide) rfl)⟩⟩
  replace hM := M.e_f hM c47z
  refine W.skip ?_
  refine W.region rfl ?_
  refine s_val (x_mv (v := I (i : Int)) rfl) ?_
  refine s_val (x_ari (a := (i : Int)) (b := 1) (r := (i : Int) + 1) rfl rfl rfl (by omega)) ?_
  refine s_val (x_as (v := I ((i : Int) + 1)) rfl) ?_
  refine s_nil ?_
  exact ⟨m14z, lt15z, i + 1, _, upds_of _ _ ⟨rfl, rfl, rfl, trivial⟩, M.e_inl hM hN17z, (H.pick [2, 3] (by decide) rfl)⟩
 replace hM := M.e_f hM c19z
 simp only [decide_eq_true_eq, decide_eq_false_iff_not, beq_iff_eq, bne_iff_ne, beq_eq_false_iff_ne, bne_eq_false_iff_eq, ne_eq, Decidable.not_not] at c19z
 refine W.exit ?_
 have hX49z := M.e_inr hM hN17z
 subst hX49z
 replace hM := hk10z
 try dsimp only at hM
 refine W.seq ?_
 refine W.region rfl ?_
 refine s_val (x_as (v := B true) rfl) ?_
 refine s_nil ?_
 refine W.ret ?_
 have hr_ := M.e_pure hM
 exact ⟨_, resE_tmp rfl, ⟨true, hr_, rfl, (H.pick [] (by decide) rfl)⟩⟩

end Go.Proofs.Ytcgalcbkkijkhaa
end
section
set_option maxRecDepth 100000
set_option maxHeartbeats 16000000
namespace Go.Proofs.Ytcgalcbkkijkhaa
open Go Go.Nm
end Go.Proofs.Ytcgalcbkkijkhaa
end
namespace Go.Nm
namespace M
variable {α β σ ρ : Type}
def Out (m : M α) (Q : α -> Prop) : Prop := ∃ r, m.Ends r /\ Q r
theorem o_of {m : M α} {a : α} {Q : α -> Prop} (h : m.Ends a) (q : Q a) : m.Out Q := ⟨a, h, q⟩
theorem o_pure {a : α} {Q : α -> Prop} (h : Q a) : (pure a).Out Q := ⟨a, i_pure, h⟩
theorem o_mono {m : M α} {P Q : α -> Prop} (h : m.Out P) (k : ∀ a, P a -> Q a) : m.Out Q := by
  obtain ⟨a, h1, h2⟩ := h
  exact ⟨a, h1, k a h2⟩
theorem o_bind {m : M α} {k : α -> M β} {P : α -> Prop} {Q : β -> Prop} (h : m.Out P) (h' : ∀ a, P a -> (k a).Out Q) : (bind m k).Out Q := by
  obtain ⟨a, h1, h2⟩ := h
  obtain ⟨b, h3, h4⟩ := h' a h2
  exact ⟨b, i_bind h1 h3, h4⟩
theorem o_bindE {m : M α} {k : α -> M β} {a : α} {Q : β -> Prop} (h : m.Ends a) (h' : (k a).Out Q) : (bind m k).Out Q := o_bind (o_of (Q := fun x => x = a) h rfl) (fun _ e => by subst e; exact h')
theorem o_grd {b : Bool} {k : M α} {Q : α -> Prop} (hb : b = true) (h : k.Out Q) : (grd b k).Out Q := by subst hb; exact h
theorem o_grdD {p : Prop} [Decidable p] {k : M α} {Q : α -> Prop} (hp : p) (h : k.Out Q) : (grd (decide p) k).Out Q := o_grd (decide_eq_true hp) h
theorem o_if {b : Bool} {x y : M α} {Q : α -> Prop} (h : b = true -> x.Out Q) (h' : b = false -> y.Out Q) : (bif b then x else y).Out Q := by
  cases b with
  | true => exact h rfl
  | false => exact h' rfl
theorem o_t {b : Bool} {x y : M α} {Q : α -> Prop} (hb : b = true) (h : x.Out Q) : (bif b then x else y).Out Q := by subst hb; exact h
theorem o_f {b : Bool} {x y : M α} {Q : α -> Prop} (hb : b = false) (h : y.Out Q) : (bif b then x else y).Out Q := by subst hb; exact h
/-- What a round leaves. -/
def Rd (J : Nat -> σ -> Prop) (Q : ρ -> Prop) (m : Nat) : σ ⊕ ρ -> Prop
  | .inl s => ∃ m', m' < m /\ J m' s
  | .inr r => Q r
theorem o_iter {body : σ -> M (σ ⊕ ρ)} {Q : ρ -> Prop} (J : Nat -> σ -> Prop) (round : ∀ m s, J m s -> (body s).Out (Rd J Q m)) : ∀ (m : Nat) (s : σ), J m s -> (iter body s).Out Q := by
  intro m
  induction m using Nat.strongRecOn with
  | _ m ih =>
    intro s hs
    obtain ⟨x, h1, h2⟩ := round m s hs
    cases x with
    | inl s' =>
      obtain ⟨m', hlt, hj⟩ := h2
      obtain ⟨r, h3, h4⟩ := ih m' hlt s' hj
      exact ⟨r, i_next h1 h3, h4⟩
    | inr r => exact ⟨r, i_stop h1, h2⟩
/-- A loop that counts from 0 to n. -/
theorem o_for {body : σ -> M (σ ⊕ ρ)} {Q : ρ -> Prop} (n : Nat) (J : Nat -> σ -> Prop) (round : ∀ i s, i < n -> J i s -> (body s).Out (fun x => match x with | .inl s' => J (i + 1) s' | .inr r => Q r))
    (last : ∀ s, J n s -> (body s).Out (fun x => match x with | .inl _ => False | .inr r => Q r)) {s : σ} (h : J 0 s) : (iter body s).Out Q := by
  refine o_iter (fun m s => ∃ i, i <= n /\ m = n - i /\ J i s) ?_ n s ⟨0, Nat.zero_le _, rfl, h⟩
  rintro m s ⟨i, hi, rfl, hj⟩
  by_cases e : i < n
  · refine o_mono (round i s e hj) ?_
    intro x hx
    cases x with
    | inl s' => exact ⟨n - (i + 1), by omega, i + 1, e, rfl, hx⟩
    | inr r => exact hx
  · obtain rfl : i = n := by omega
    refine o_mono (last s hj) ?_
    intro x hx
    cases x with
    | inl s' => exact hx.elim
    | inr r => exact hx
end M
theorem M.i_f {α : Type} {b : Bool} {x y : M α} {r : α} (hb : b = false) (h : y.Ends r) : (bif b then x else y).Ends r := by subst hb; exact h
theorem M.i_for {σ ρ : Type} {body : σ -> M (σ ⊕ ρ)} {r : ρ} (st : Nat -> σ) (n : Nat) (step : ∀ i, i < n -> (body (st i)).Ends (.inl (st (i + 1)))) (fin : (body (st n)).Ends (.inr r)) : (M.iter body (st 0)).Ends r := by
  refine M.i_loop (r := r) (fun m s => ∃ i, i <= n /\ m = n - i /\ s = st i) ?_ n (st 0) ⟨0, Nat.zero_le _, rfl, rfl⟩
  rintro m s ⟨i, hi, rfl, rfl⟩
  by_cases h : i < n
  · exact .inl ⟨_, n - (i + 1), by omega, step i h, i + 1, h, rfl, rfl⟩
  · obtain rfl : i = n := by omega
    exact .inr fin
theorem M.i_t {α : Type} {b : Bool} {x y : M α} {r : α} (hb : b = true) (h : x.Ends r) : (bif b then x else y).Ends r := by subst hb; exact h
theorem take_succ_D {α : Type} (l : List α) (i : Nat) (h : i < l.length) (d : α) : l.take i ++ [l.getD i d] = l.take (i + 1) := by
  rw [List.take_succ_eq_append_getElem h]
  simp [List.getD, h]
theorem gA2 {p q : Prop} [Decidable p] [Decidable q] (hp : p) (hq : q) : (decide p && decide q) = true := by rw [decide_eq_true hp, decide_eq_true hq]; rfl
theorem gA3 {p q r : Prop} [Decidable p] [Decidable q] [Decidable r] (hp : p) (hq : q) (hr : r) : (decide p && decide q && decide r) = true := by rw [decide_eq_true hp, decide_eq_true hq, decide_eq_true hr]; rfl
end Go.Nm
namespace Go.Nm
namespace Pk
/-- The first peak behind the flood of each one, and how many floods are over when a peak comes. -/
structure Fl (n : Nat) (nx kk : Nat -> Nat) : Prop where
  lt : ∀ i, i < n -> i < nx i
  le : ∀ i, i < n -> nx i <= n
  kle : ∀ m, kk m <= m
  iff : ∀ i m, i < n -> m <= n -> (i < kk m ↔ nx i <= m)
namespace Fl
variable {n : Nat} {nx kk : Nat -> Nat}
theorem kmono (F : Fl n nx kk) {a b : Nat} (h : a <= b) (hb : b <= n) : kk a <= kk b := by
  rcases Nat.lt_or_ge (kk b) (kk a) with hlt | hge
  · have h1 := F.kle a
    have h2 := (F.iff (kk b) a (by omega) (by omega)).1 hlt
    have h3 := (F.iff (kk b) b (by omega) (by omega)).2 (by omega)
    omega
  · exact hge
end Fl
/-- The greatest worth of the peaks ahead of one. -/
structure IsS (n : Nat) (v : Nat -> Int) (kk : Nat -> Nat) (S : Nat -> Int) : Prop where
  z : S 0 = 0
  s : ∀ i, i < n -> S (i + 1) = max (S i) (S (kk i) + v i)
/-- The greatest worth from a peak on. -/
structure IsB (n : Nat) (v : Nat -> Int) (nx : Nat -> Nat) (B : Nat -> Int) : Prop where
  z : B n = 0
  s : ∀ i, i < n -> B i = max (max 0 (B (i + 1))) (v i + B (nx i))
variable {n : Nat} {nx kk : Nat -> Nat} {v S B : Nat -> Int}
theorem IsS.mono (h : IsS n v kk S) : ∀ {a b : Nat}, a <= b -> b <= n -> S a <= S b := by
  intro a b hab
  induction hab with
  | refl => intro _; exact Int.le_refl _
  | @step m k ih =>
    intro hb
    have := ih (by omega)
    have e := h.s m (by omega)
    rw [Nat.succ_eq_add_one]
    omega
theorem IsB.anti (h : IsB n v nx B) : ∀ {a b : Nat}, a <= b -> b <= n -> B b <= B a := by
  intro a b hab
  induction hab with
  | refl => intro _; exact Int.le_refl _
  | @step m k ih =>
    intro hb
    have := ih (by omega)
    have e := h.s m (by omega)
    rw [Nat.succ_eq_add_one]
    omega
theorem IsB.pos (h : IsB n v nx B) {i : Nat} (hi : i <= n) : 0 <= B i := by
  have := h.anti hi (Nat.le_refl _)
  rw [h.z] at this
  exact this
/-- The sum of a function's values from a to b. -/
def sm (d : Nat -> Int) (a : Nat) : Nat -> Int
  | 0 => 0
  | k + 1 => sm d a k + d (a + k)
theorem sm_add (d : Nat -> Int) (a j k : Nat) : sm d a (j + k) = sm d a j + sm d (a + j) k := by
  induction k with
  | zero => simp [sm]
  | succ k ih => rw [← Nat.add_assoc]; simp only [sm]; rw [ih, Nat.add_assoc]; omega
end Pk
end Go.Nm
namespace Go.Nm
namespace Pk
def dayAt (l : List Pk) (i : Nat) : Int := (l.getD i default).day
def stAt (l : List Pk) (i : Nat) : Int := (l.getD i default).stage
/-- Days that rise. -/
def Up (l : List Pk) : Prop := ∀ i j, i < j -> j < l.length -> dayAt l i < dayAt l j
theorem Up.le {l : List Pk} (h : Up l) {i j : Nat} (hij : i <= j) (hj : j < l.length) : dayAt l i <= dayAt l j := by
  rcases Nat.lt_or_eq_of_le hij with e | e
  · have := h i j e hj
    omega
  · subst e; exact Int.le_refl _
theorem tw_lt {l : List Pk} {p : Pk -> Bool} : ∀ {j : Nat}, j < (l.takeWhile p).length ↔ j < l.length /\ ∀ k, k <= j -> p (l.getD k default) = true := by
  induction l with
  | nil => intro j; simp
  | cons a l ih =>
    intro j
    rw [List.takeWhile_cons]
    by_cases e : p a = true
    · rw [if_pos e]
      cases j with
      | zero => simp [e]
      | succ j =>
        simp only [List.length_cons, Nat.succ_lt_succ_iff, ih]
        refine and_congr_right fun _ => ⟨fun h k hk => ?_, fun h k hk => ?_⟩
        · cases k with
          | zero => simpa using e
          | succ k => simpa using h k (by omega)
        · simpa using h (k + 1) (by omega)
    · rw [if_neg e]
      simp only [List.length_nil, Nat.not_lt_zero, false_iff]
      intro h
      exact e (by simpa using h.2 0 (Nat.zero_le _))
theorem tw_le (l : List Pk) (p : Pk -> Bool) : (l.takeWhile p).length <= l.length := by
  induction l with
  | nil => simp
  | cons a l ih =>
    rw [List.takeWhile_cons]
    split
    · simpa using ih
    · simp
/-- The first peak whose day is not ahead of a day. -/
def fst (l : List Pk) (t : Int) : Nat := (l.takeWhile fun p => decide (p.day < t)).length
theorem fst_le (l : List Pk) (t : Int) : fst l t <= l.length := tw_le l _
theorem fst_lt {l : List Pk} (h : Up l) {t : Int} {j : Nat} (hj : j < l.length) : j < fst l t ↔ dayAt l j < t := by
  unfold fst
  rw [tw_lt]
  constructor
  · rintro ⟨_, k⟩
    simpa [dayAt] using k j (Nat.le_refl _)
  · intro e
    refine ⟨hj, fun k hk => ?_⟩
    have := h.le hk hj
    show decide (dayAt l k < t) = true
    exact decide_eq_true (by omega)
def nx (l : List Pk) (A : Int) (i : Nat) : Nat := fst l (dayAt l i + A)
def kk (l : List Pk) (A : Int) (m : Nat) : Nat := if m < l.length then fst l (dayAt l m - A + 1) else l.length
theorem fl {l : List Pk} (h : Up l) {A : Int} (hA : 1 <= A) : Fl l.length (nx l A) (kk l A) where
  lt i hi := (fst_lt h hi).2 (by omega)
  le i _ := fst_le _ _
  kle m := by
    unfold kk
    split
    · rename_i hm
      rcases Nat.lt_or_ge m (fst l (dayAt l m - A + 1)) with e | e
      · have := (fst_lt h hm).1 e
        omega
      · exact e
    · omega
  iff i m hi hm := by
    unfold kk nx
    split
    · rename_i hm
      rw [fst_lt h hi]
      have := fst_lt h (t := dayAt l i + A) hm
      omega
    · have := fst_le l (dayAt l i + A)
      omega
end Pk
end Go.Nm
namespace Go.Nm
namespace Pk
/-- The greatest worth of the peaks ahead of one. -/
def Sf (kk : Nat -> Nat) (v : Nat -> Int) : Nat -> Int
  | 0 => 0
  | i + 1 => max (Sf kk v i) (Sf kk v (min (kk i) i) + v i)
termination_by i => i
decreasing_by all_goals omega
theorem IsS.uniq {n : Nat} {nx kk : Nat -> Nat} {v S S' : Nat -> Int} (F : Fl n nx kk) (h : IsS n v kk S) (h' : IsS n v kk S') : ∀ i, i <= n -> S i = S' i := by
  intro i
  induction i using Nat.strongRecOn with
  | _ i ih =>
    intro hi
    cases i with
    | zero => rw [h.z, h'.z]
    | succ i =>
      have := F.kle i
      rw [h.s i (by omega), h'.s i (by omega), ih i (by omega) (by omega), ih (kk i) (by omega) (by omega)]
variable {n : Nat} {nx kk : Nat -> Nat} {v S : Nat -> Int}
/-- Dues behind so many peaks. -/
def Du (n : Nat) (kk : Nat -> Nat) (S : Nat -> Int) (i : Nat) (out : Nat -> Int) : Prop := ∀ m, m <= n -> sm out 0 m = S (min i (kk m))
theorem sm_range (d : Nat -> Int) {a b : Nat} (h : a <= b) : sm d a (b - a) = sm d 0 b - sm d 0 a := by
  have := sm_add d 0 a (b - a)
  rw [show a + (b - a) = b by omega, Nat.zero_add] at this
  omega
theorem sm_set (d : Nat -> Int) (p : Nat) (x : Int) (m : Nat) : sm (fun k => if k = p then d k + x else d k) 0 m = sm d 0 m + (if p < m then x else 0) := by
  induction m with
  | zero => simp [sm]
  | succ m ih =>
    simp only [sm, ih, Nat.zero_add]
    by_cases e : m = p
    · subst e; simp; omega
    · by_cases e' : p < m
      · rw [if_neg e, if_pos e', if_pos (by omega)]; omega
      · rw [if_neg e, if_neg e', if_neg (by omega)]; omega
theorem sm_zero (a m : Nat) : sm (fun _ => 0) a m = 0 := by
  induction m with
  | zero => rfl
  | succ m ih => simp [sm, ih]
theorem Du.z (hS : IsS n v kk S) : Du n kk S 0 (fun _ => 0) := by
  intro m _
  rw [Nat.zero_min, hS.z]
  exact sm_zero 0 m
/-- What a peak's days have when its turn comes. -/
theorem Du.has (F : Fl n nx kk) {i : Nat} {out : Nat -> Int} (h : Du n kk S i out) (hi : i < n) : sm out i (nx i - i) = S i - S (kk i) := by
  have l1 := F.lt i hi
  have l2 := F.le i hi
  have k1 := (F.iff i (nx i) hi l2).2 (Nat.le_refl _)
  have k2 := F.kle i
  rw [sm_range out (Nat.le_of_lt l1), h (nx i) l2, h i (by omega), Nat.min_eq_left (Nat.le_of_lt k1), Nat.min_eq_right k2]
theorem Du.step (F : Fl n nx kk) (hS : IsS n v kk S) {i : Nat} {out : Nat -> Int} (h : Du n kk S i out) (hi : i < n) {p : Nat} (hp : p + 1 = nx i) {x : Int} (hx : x = max 0 (v i - sm out i (nx i - i))) : Du n kk S (i + 1) (fun k => if k = p then out k + x else out k) := by
  intro m hm
  rw [sm_set, h m hm]
  rw [h.has F hi] at hx
  have e := hS.s i hi
  have q := F.iff i m hi hm
  by_cases c : i < kk m
  · have := q.1 c
    rw [if_pos (by omega), Nat.min_eq_left (by omega), Nat.min_eq_left (by omega)]
    omega
  · rw [if_neg (by omega), Nat.min_eq_right (by omega), Nat.min_eq_right (by omega)]
    omega
theorem kk_n (F : Fl n nx kk) : kk n = n := by
  have h1 := F.kle n
  rcases Nat.lt_or_ge (kk n) n with e | e
  · have := (F.iff (kk n) n e (Nat.le_refl _)).2 (F.le _ e)
    omega
  · omega
section
variable (F : Fl n nx kk) (hS : IsS n v kk S) {out : Nat -> Int} (h : Du n kk S n out)
include F h in
theorem Du.pre {m : Nat} (hm : m <= n) : sm out 0 m = S (kk m) := by
  rw [h m hm, Nat.min_eq_right (Nat.le_trans (F.kle m) hm)]
include F hS h
omit hS in theorem Du.sum : sm out 0 n = S n := by rw [h.pre F (Nat.le_refl _), kk_n F]
omit hS in theorem Du.at {p : Nat} (hp : p < n) : out p = S (kk (p + 1)) - S (kk p) := by
  have h1 := h.pre F (show p + 1 <= n from hp)
  have h2 := h.pre F (Nat.le_of_lt hp)
  simp only [sm, Nat.zero_add] at h1
  omega
theorem Du.most {c : Int} (hc : 0 <= c) (hv : ∀ i, i < n -> v i <= c) {p : Nat} (hp : p < n) : out p <= c := by
  rw [h.at F hp]
  have k : ∀ j, kk p <= j -> j <= kk (p + 1) -> S j <= S (kk p) + c := by
    intro j hj
    induction hj with
    | refl => intro _; omega
    | @step j hj ih =>
      intro hj2
      have := ih (by omega)
      have hb := F.kle (p + 1)
      have e := hS.s j (by omega)
      have q := (F.iff j (p + 1) (by omega) hp).1 (by omega)
      have := F.lt j (by omega)
      have m1 := hS.mono (F.kmono (show j <= p by omega) (by omega)) (Nat.le_trans (F.kle p) (by omega))
      have := hv j (by omega)
      rw [Nat.succ_eq_add_one]
      omega
  have := k (kk (p + 1)) (F.kmono (Nat.le_succ p) hp) (Nat.le_refl _)
  omega
end
end Pk
end Go.Nm
namespace Go.Nm
namespace Pk
/-- The first that is not 0. -/
def fe (f : Nat -> Int) : Nat -> Int
  | 0 => 0
  | n + 1 => if fe f n ≠ 0 then fe f n else f n
theorem fe_all {f : Nat -> Int} : ∀ {n : Nat}, fe f n = 0 ↔ ∀ i, i < n -> f i = 0
  | 0 => by simp [fe]
  | n + 1 => by
    have ih := fe_all (f := f) (n := n)
    unfold fe
    constructor
    · intro h i hi
      split at h
      · rename_i h1; exact absurd h h1
      · rename_i h1
        rcases Nat.lt_or_eq_of_le (Nat.le_of_lt_succ hi) with e | e
        · exact ih.1 (Classical.not_not.1 h1) i e
        · rw [e]; exact h
    · intro h
      have h1 := ih.2 fun i hi => h i (by omega)
      rw [if_neg (by rw [h1]; simp)]
      exact h n (by omega)
theorem fe_stop {f : Nat -> Int} {i : Nat} (h0 : fe f i = 0) (h : f i ≠ 0) : ∀ {n : Nat}, i < n -> fe f n = f i
  | 0, hn => by omega
  | n + 1, hn => by
    unfold fe
    rcases Nat.lt_or_eq_of_le (Nat.le_of_lt_succ hn) with e | e
    · have ih := fe_stop h0 h e
      rw [if_pos (by rw [ih]; exact h), ih]
    · subst e
      rw [if_neg (by rw [h0]; simp)]
def pkB (p : Pk) : Bool := (decide (0 <= p.day) && decide (p.day <= 4000)) && (decide (0 <= p.stage) && decide (p.stage <= 2000))
def errP (l : List Pk) (i : Nat) : Int := if pkB (l.getD i default) = false then 110 else if 0 < i /\ (l.getD i default).day <= (l.getD (i - 1) default).day then 9 else 0
def chkP (l : List Pk) : Int := if 40 < l.length then 3 else fe (errP l) l.length
/-- Peaks that are right. -/
structure Ok (l : List Pk) : Prop where
  few : l.length <= 40
  day : ∀ i, i < l.length -> 0 <= dayAt l i /\ dayAt l i <= 4000
  st : ∀ i, i < l.length -> 0 <= stAt l i /\ stAt l i <= 2000
  up : Up l
theorem chk_ok {l : List Pk} (h : chkP l = 0) : Ok l := by
  unfold chkP at h
  split at h
  · cases h
  · rename_i h40
    have k := fe_all.1 h
    have k1 : ∀ i, i < l.length -> pkB (l.getD i default) = true /\ (0 < i -> dayAt l (i - 1) < dayAt l i) := by
      intro i hi
      have := k i hi
      unfold errP at this
      split at this
      · cases this
      · rename_i h1
        split at this
        · cases this
        · rename_i h2
          refine ⟨by simpa using h1, fun h0 => ?_⟩
          unfold dayAt
          omega
    have k2 : ∀ i, i < l.length -> (0 <= dayAt l i /\ dayAt l i <= 4000) /\ (0 <= stAt l i /\ stAt l i <= 2000) := by
      intro i hi
      have := (k1 i hi).1
      simpa [pkB, dayAt, stAt] using this
    refine ⟨by omega, fun i hi => (k2 i hi).1, fun i hi => (k2 i hi).2, ?_⟩
    intro i j hij hj
    induction j with
    | zero => omega
    | succ j ih =>
      have h1 := (k1 (j + 1) hj).2 (by omega)
      simp only [Nat.add_sub_cancel] at h1
      rcases Nat.lt_or_eq_of_le (Nat.le_of_lt_succ hij) with e | e
      · have := ih e (by omega)
        omega
      · subst e; exact h1
def askP (l : List Pk) (A T : Int) : Int := if chkP l ≠ 0 then chkP l else if (1 <= A /\ A <= 60) /\ (0 <= T /\ T <= 2000) then 0 else 4
structure Asked (l : List Pk) (A T : Int) : Prop where
  ok : Ok l
  ap : 1 <= A /\ A <= 60
  th : 0 <= T /\ T <= 2000
end Pk
end Go.Nm
namespace Go.Proofs.Ytcgalcbkkijkhaa
open Go Go.Nm
theorem in_ends (x a b : Int) : (zaa x a b).Ends (decide (a <= x) && decide (x <= b)) := M.i_pure
theorem out_ends (x a b : Int) : (zac x a b).Ends (!(decide (a <= x) && decide (x <= b))) := by
  have e : (decide (x < a) || decide (b < x)) = !(decide (a <= x) && decide (x <= b)) := by
    by_cases h1 : a <= x <;> by_cases h2 : x <= b <;> simp [h1, h2] <;> omega
  unfold zac
  rw [e]
  exact M.i_pure
theorem gI2 {c : Bool} {p q : Prop} [Decidable p] [Decidable q] (h : c = true -> p /\ q) : (!c || (decide p && decide q)) = true := by
  cases c with
  | true => exact gA2 (h rfl).1 (h rfl).2
  | false => rfl
end Go.Proofs.Ytcgalcbkkijkhaa
namespace Go.Nm
namespace Pk
end Pk
end Go.Nm
namespace Go.Proofs.Ytcgalcbkkijkhaa
open Go Go.Nm
variable {l : List Pk} {A T : Int}
/-- What a peak has above the threshold. -/
def vP (l : List Pk) (T : Int) (i : Nat) : Int := Pk.stAt l i - T
end Go.Proofs.Ytcgalcbkkijkhaa
namespace Go.Nm
namespace Pk
def cA (c : List Int) (k : Nat) : Nat := Int.toNat (c.getD k 0)
/-- A choice: a strictly increasing list of peaks. -/
def Ris (n : Nat) (c : List Int) : Prop := ∀ k, k < c.length -> 0 <= c.getD k 0 /\ c.getD k 0 < n /\ (0 < k -> c.getD (k - 1) 0 < c.getD k 0)
/-- Of floods of their own, each above the threshold. -/
def Good (l : List Pk) (A T : Int) (c : List Int) : Prop := ∀ k, k < c.length -> T < stAt l (cA c k) /\ (0 < k -> A <= dayAt l (cA c k) - dayAt l (cA c (k - 1)))
def wS (l : List Pk) (T : Int) (c : List Int) : Nat -> Int
  | 0 => 0
  | k + 1 => wS l T c k + (stAt l (cA c k) - T)
theorem Ris.low {n : Nat} {c : List Int} (h : Ris n c) : ∀ k : Nat, k < c.length -> (k : Int) <= c.getD k 0
  | 0, hk => by have := (h 0 hk).1; omega
  | k + 1, hk => by
    have ih := h.low k (by omega)
    have := (h (k + 1) hk).2.2 (by omega)
    rw [Nat.add_sub_cancel] at this
    omega
theorem Ris.few {n : Nat} {c : List Int} (h : Ris n c) : c.length <= n := by
  rcases Nat.eq_zero_or_pos c.length with e | e
  · omega
  · have h1 := h.low (c.length - 1) (by omega)
    have h2 := h (c.length - 1) (by omega)
    omega
theorem Ris.mono {n : Nat} {c : List Int} (h : Ris n c) {j k : Nat} (hjk : j < k) (hk : k < c.length) : c.getD j 0 < c.getD k 0 := by
  induction k with
  | zero => omega
  | succ k ih =>
    have h1 := (h (k + 1) hk).2.2 (by omega)
    rw [Nat.add_sub_cancel] at h1
    rcases Nat.lt_or_eq_of_le (Nat.le_of_lt_succ hjk) with e | e
    · have := ih e (by omega)
      omega
    · rw [e]; exact h1
theorem Ris.at_ {n : Nat} {c : List Int} (h : Ris n c) {k : Nat} (hk : k < c.length) : cA c k < n := by
  have := h k hk
  unfold cA
  omega
/-- What is said of a worth. -/
structure WoE (l : List Pk) (A T : Int) (c : List Int) (y : Int × Int) : Prop where
  ask : askP l A T ≠ 0 -> y = (0, askP l A T)
  arg : askP l A T = 0 -> ¬ Ris l.length c -> y = (0, 2)
  bad : askP l A T = 0 -> Ris l.length c -> ¬ Good l A T c -> y = (0, 7)
  ok : askP l A T = 0 -> Ris l.length c -> Good l A T c -> y = (wS l T c c.length, 0)
theorem WoE.uniq {l : List Pk} {A T : Int} {c : List Int} {y y' : Int × Int} (h : WoE l A T c y) (h' : WoE l A T c y') : y = y' := by
  by_cases h0 : askP l A T = 0
  · by_cases h1 : Ris l.length c
    · by_cases h2 : Good l A T c
      · rw [h.ok h0 h1 h2, h'.ok h0 h1 h2]
      · rw [h.bad h0 h1 h2, h'.bad h0 h1 h2]
    · rw [h.arg h0 h1, h'.arg h0 h1]
  · rw [h.ask h0, h'.ask h0]
end Pk
end Go.Nm
namespace Go.Proofs.Ytcgalcbkkijkhaa
open Go Go.Nm
variable {l : List Pk} {A T : Int}
end Go.Proofs.Ytcgalcbkkijkhaa
