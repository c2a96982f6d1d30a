/- Part 6 of the texts on which the proof rests. Conditions: none. -/
import Derived.KernelRfl
import Derived.Test.YtcgalcbkkijkhaaZB5
set_option linter.unusedVariables false
set_option linter.unusedSimpArgs false
set_option linter.unusedSectionVars false
namespace Go.Proofs.Ytcgalcbkkijkhaa
open Go Go.Nm
def m_often_Holds_b0 (b_First : Int) (stages : List Int) : Unit -> (Int × Span) -> M (Unit ⊕ Unit) := fun (_ : Unit) (x, x2) =>
  M.grd (decide ((-9223372036854775808 : Int) <= (x - b_First)) && decide ((x - b_First) <= (9223372036854775807 : Int))) <|
  M.grd (decide ((0 : Int) <= (x - b_First)) && decide ((x - b_First) < (stages.length : Int))) <|
  M.bind (m_often_in (stages.getD (Int.toNat (x - b_First)) 0) x2.lo x2.hi) fun r3 =>
  bif !r3 then (
  M.pure (.inr ()))
  else (
  M.pure (.inl ()))
def m_often_Holds (b_Years : List Yr) (b_Olds : List Old10) (b_First : Int) (b_Last : Int) (stages : List Int) : M (Bool × Int) :=
  M.bind (m_often_opened b_Years b_Olds b_First b_Last) fun x_ => match x_ with
  | (.inl r1) => (
  bif r1 != 0 then (
  M.pure (false, r1))
  else (
  M.fail))
  | (.inr (r02, r03, r04, r12)) => (
  bif r12 != 0 then (
  M.fail)
  else (
  M.grd (decide ((-9223372036854775808 : Int) <= (b_Last - b_First)) && decide ((b_Last - b_First) <= (9223372036854775807 : Int))) <|
  M.grd (decide ((-9223372036854775808 : Int) <= ((b_Last - b_First) + 1)) && decide (((b_Last - b_First) + 1) <= (9223372036854775807 : Int))) <|
  bif (stages.length : Int) != ((b_Last - b_First) + 1) then (
  M.pure (false, 2))
  else (
  M.bind (m_often_every_int stages (fun xqz => m_often_Holds_1 xqz)) fun r2 =>
  bif !r2 then (
  M.pure (false, 4))
  else (
  M.bind (m_often_shelf_years b_Years b_Olds r02 r03 r04 b_First b_Last) fun (r00, r10) =>
  M.bind (m_often_shelf_years_1 (M.yl (m_often_Holds_b0 b_First stages)) (.inl ()) r00 r10 b_Years b_Olds r02 r03 r04) fun x_ => match x_ with
  | .inl _ => (
  M.pure (true, 0))
  | .inr _ => (
  M.pure (false, 0))))))
set_option maxRecDepth 100000 in
set_option maxHeartbeats 16000000 in
theorem often_Holds_ok {R : List Chunk} {C_b_Years : Cells} {v_b_Years : Value} {C_b_Olds : Cells} {v_b_Olds : Value} {C_stages : Cells} {v_stages : Value} (b_Years : List Yr) (b_Olds : List Old10) (b_First : Int) (b_Last : Int) (stages : List Int) (hC_b_Years : Reads R C_b_Years) (hs_b_Years : Sl C_b_Years v_b_Years b_Years) (hC_b_Olds : Reads R C_b_Olds) (hs_b_Olds : Sl C_b_Olds v_b_Olds b_Olds) (hC_stages : Reads R C_stages) (hs_stages : Sl C_stages v_stages stages) {r : (Bool × Int)} (hM : (m_often_Holds b_Years b_Olds b_First b_Last stages).Ends r) (w : World) (H : St w w [] R) : Ret Try.prog 45 #[.agg #[v_b_Years, v_b_Olds, I b_First, I b_Last], v_stages] w fun v w' => ∃ (y0 : Bool) (y1 : Int), (y0, y1) = r /\ v = .tuple #[B y0, I y1] /\ St w w' [] R := by
 refine ret_of_WD Try.func45 rfl rfl rfl ?_
 replace H : St w w [cMk ([])] R := H.mk0
 have hl_b_Years := hs_b_Years.len_le
 have hl_b_Olds := hs_b_Olds.len_le
 have hl_stages := hs_stages.len_le
 unfold m_often_Holds at hM
 refine WD.seq ?_
 refine WD.of ?_
 refine W.region rfl ?_
 refine t_box (v := .agg #[v_b_Years, v_b_Olds, I b_First, I b_Last]) (cs := [v_b_Years, v_b_Olds, I b_First, I b_Last]) H rfl rfl ?_
 intro b_1 w1z H
 refine t_box (v := v_stages) (cs := [v_stages]) H rfl (Sl.cells hs_stages) ?_
 intro b_2 w2z H
 refine t_alloc (cs := [B false]) H Al4 rfl ?_
 intro b_3 w3z H
 refine t_alloc (cs := [I 0]) H Al36 rfl ?_
 intro b_4 w4z H
 refine s_nil ?_
 refine WD.seq ?_
 refine WD.of ?_
 refine W.region rfl ?_
 refine s_val (x_ld (p := .pointer (some ⟨b_1, 0, none⟩)) (v := .agg #[v_b_Years, v_b_Olds, I b_First, I b_Last]) rfl (ldb_ag (ds := [v_b_Years, v_b_Olds, I b_First, I b_Last]) Ag26 Sz26 (H.blk (k := 3) rfl) rfl rfl)) ?_
 obtain ⟨r6z, hx5z, hM⟩ := M.e_bind hM
 refine s_call cf62 [.agg #[v_b_Years, v_b_Olds, I b_First, I b_Last]] rfl (often_opened_ok b_Years b_Olds b_First b_Last (hC_b_Years.app _) hs_b_Years (hC_b_Olds.app _) hs_b_Olds hx5z _ (St.give (T := [cBlk b_4 [I 0] 36, cBlk b_3 [B false] 4, cBlk b_2 [v_stages] 27, cBlk b_1 [v_b_Years, v_b_Olds, I b_First, I b_Last] 26, cMk ([])]) H rfl)) ?_
 rintro vq w7z (⟨r1, hr8z, hvq, H2_⟩ | ⟨r02, r03, r04, r12, nb0_5, nb1_6, hr9z, hvq, H2_⟩)
 ·subst hr8z
  subst vq
  try dsimp only at hM
  replace H : St w w7z [cBlk b_4 [I 0] 36, cBlk b_3 [B false] 4, cBlk b_2 [v_stages] 27, cBlk b_1 [v_b_Years, v_b_Olds, I b_First, I b_Last] 26, cMk ([])] R := H.back H2_ rfl
  clear H2_
  refine s_val (x_mv (v := .tuple #[.pointer none, I r1]) rfl) ?_
  refine s_val (x_ext (vs := [.pointer none, I r1]) (v := .pointer none) rfl rfl) ?_
  refine s_val (x_ext (vs := [.pointer none, I r1]) (v := I r1) rfl rfl) ?_
  refine s_val (x_as (v := .pointer none) rfl) ?_
  refine s_val (x_as (v := I r1) rfl) ?_
  refine s_nil ?_
  refine WD.seq ?_
  refine WD.block ?_
  refine WD.seq ?_
  refine WD.of ?_
  refine W.region rfl ?_
  refine s_val (x_mv (v := I r1) rfl) ?_
  refine s_val (x_cmp (kd := .i64) (a := r1) (b := 0) (r := r1 != 0) rfl rfl rfl) ?_
  refine s_val (x_as (v := B (r1 != 0)) rfl) ?_
  refine s_nil ?_
  refine WD.cond (r1 != 0) rfl (fun c10z => ?_) (fun c10z => ?_)
  ·replace hM := M.e_t hM c10z
   simp only [decide_eq_true_eq, decide_eq_false_iff_not, beq_iff_eq, bne_iff_ne, beq_eq_false_iff_ne, bne_eq_false_iff_eq, ne_eq, Decidable.not_not] at c10z
   refine WD.seq ?_
   refine WD.of ?_
   refine W.region rfl ?_
   refine s_val (x_mv (v := I r1) rfl) ?_
   refine t_st (k := 1) (b := b_3) (off := 0) (cs := [B false]) (vs := [B false]) (cs' := [B false]) (v := B false) (L' := [cBlk b_4 [I 0] 36, cBlk b_3 [B false] 4, cBlk b_2 [v_stages] 27, cBlk b_1 [v_b_Years, v_b_Olds, I b_First, I b_Last] 26, cMk ([])]) H rfl rfl rfl Sz4 rfl rfl rfl rfl rfl rfl ?_
   intro w11z H
   refine t_st (k := 0) (b := b_4) (off := 0) (cs := [I 0]) (vs := [I r1]) (cs' := [I r1]) (v := I r1) (L' := [cBlk b_4 [I r1] 36, cBlk b_3 [B false] 4, cBlk b_2 [v_stages] 27, cBlk b_1 [v_b_Years, v_b_Olds, I b_First, I b_Last] 26, cMk ([])]) H rfl rfl rfl Sz36 rfl rfl rfl rfl rfl rfl ?_
   intro w12z H
   refine s_nil ?_
   refine WD.of ?_
   refine W.ret ?_
   refine bodyD_r (H.pick [4, 0, 1, 2, 3] (by decide) rfl) ?_
   intro w13z H
   replace H : St w w13z [cBlk b_4 [I r1] 36, cBlk b_3 [B false] 4, cBlk b_2 [v_stages] 27, cBlk b_1 [v_b_Years, v_b_Olds, I b_First, I b_Last] 26] R := H
   have hb14z := (H.blk (k := 1) rfl)
   have hb15z := (H.blk (k := 0) rfl)
   have hr_ := M.e_pure hM
   exact ⟨_, (resE_ofn (vs := [B false, I r1]) rfl rfl (.cell (v := B false) rfl (run_loadVar_sc Sc4 hb14z rfl) <| .cell (v := I r1) rfl (run_loadVar_sc Sc36 hb15z rfl) <| .nil)), ⟨false, r1, hr_, rfl, (H.pick [] (by decide) rfl)⟩⟩
  ·replace hM := M.e_f hM c10z
   exact (M.e_fail hM).elim
 ·subst hr9z
  subst vq
  try dsimp only at hM
  replace H : St w w7z [cBlk nb0_5 [v_b_Years, v_b_Olds, I r02, I r03, .map (some nb1_6)] 126, cMl I encSp nb1_6 r04, cBlk b_4 [I 0] 36, cBlk b_3 [B false] 4, cBlk b_2 [v_stages] 27, cBlk b_1 [v_b_Years, v_b_Olds, I b_First, I b_Last] 26, cMk ([])] R := H.back H2_ rfl
  clear H2_
  refine s_val (x_mv (v := .tuple #[.pointer (some ⟨nb0_5, 0, none⟩), I r12]) rfl) ?_
  refine s_val (x_ext (vs := [.pointer (some ⟨nb0_5, 0, none⟩), I r12]) (v := .pointer (some ⟨nb0_5, 0, none⟩)) rfl rfl) ?_
  refine s_val (x_ext (vs := [.pointer (some ⟨nb0_5, 0, none⟩), I r12]) (v := I r12) rfl rfl) ?_
  refine s_val (x_as (v := .pointer (some ⟨nb0_5, 0, none⟩)) rfl) ?_
  refine s_val (x_as (v := I r12) rfl) ?_
  refine s_nil ?_
  refine WD.seq ?_
  refine WD.block ?_
  refine WD.seq ?_
  refine WD.of ?_
  refine W.region rfl ?_
  refine s_val (x_mv (v := I r12) rfl) ?_
  refine s_val (x_cmp (kd := .i64) (a := r12) (b := 0) (r := r12 != 0) rfl rfl rfl) ?_
  refine s_val (x_as (v := B (r12 != 0)) rfl) ?_
  refine s_nil ?_
  refine WD.cond (r12 != 0) rfl (fun c16z => ?_) (fun c16z => ?_)
  ·replace hM := M.e_t hM c16z
   exact (M.e_fail hM).elim
  ·replace hM := M.e_f hM c16z
   simp only [decide_eq_true_eq, decide_eq_false_iff_not, beq_iff_eq, bne_iff_ne, beq_eq_false_iff_ne, bne_eq_false_iff_eq, ne_eq, Decidable.not_not] at c16z
   refine WD.seq ?_
   refine WD.of ?_
   refine W.region rfl ?_
   refine s_val (x_ld (p := .pointer (some ⟨b_2, 0, none⟩)) (v := v_stages) rfl (ldb_sc Sc27 (H.blk (k := 4) rfl) rfl)) ?_
   have hl17z := (hs_stages).len_le
   refine s_val (x_lenS T27.und rfl hs_stages) ?_
   refine s_val (x_fa (a := .pointer (some ⟨b_1, 0, none⟩)) (v := .pointer (some ⟨b_1, 3, none⟩)) rfl (fa_blk (o := 0) Fd26_3 Sz3)) ?_
   refine s_val (x_ld (p := .pointer (some ⟨b_1, 3, none⟩)) (v := I b_Last) rfl (ldb_sc Sc3 (H.blk (k := 5) rfl) rfl)) ?_
   refine s_val (x_fa (a := .pointer (some ⟨b_1, 0, none⟩)) (v := .pointer (some ⟨b_1, 2, none⟩)) rfl (fa_blk (o := 0) Fd26_2 Sz3)) ?_
   refine s_val (x_ld (p := .pointer (some ⟨b_1, 2, none⟩)) (v := I b_First) rfl (ldb_sc Sc3 (H.blk (k := 5) rfl) rfl)) ?_
   obtain ⟨sd18z, hM⟩ := M.e_grd hM
   simp only [Bool.and_eq_true, decide_eq_true_eq] at sd18z
   refine s_val (x_ari (a := b_Last) (b := b_First) (r := b_Last - b_First) rfl rfl rfl (by omega)) ?_
   obtain ⟨sd19z, hM⟩ := M.e_grd hM
   simp only [Bool.and_eq_true, decide_eq_true_eq] at sd19z
   refine s_val (x_ari (a := b_Last - b_First) (b := 1) (r := (b_Last - b_First) + 1) rfl rfl rfl (by omega)) ?_
   refine s_val (x_cmp (kd := .i64) (a := (stages.length : Int)) (b := (b_Last - b_First) + 1) (r := (stages.length : Int) != ((b_Last - b_First) + 1)) rfl rfl rfl) ?_
   refine s_val (x_as (v := B ((stages.length : Int) != ((b_Last - b_First) + 1))) rfl) ?_
   refine s_nil ?_
   refine WD.cond ((stages.length : Int) != ((b_Last - b_First) + 1)) rfl (fun c20z => ?_) (fun c20z => ?_)
   ·replace hM := M.e_t hM c20z
    simp only [decide_eq_true_eq, decide_eq_false_iff_not, beq_iff_eq, bne_iff_ne, beq_eq_false_iff_ne, bne_eq_false_iff_eq, ne_eq, Decidable.not_not] at c20z
    refine WD.seq ?_
    refine WD.of ?_
    refine W.region rfl ?_
    refine t_st (k := 3) (b := b_3) (off := 0) (cs := [B false]) (vs := [B false]) (cs' := [B false]) (v := B false) (L' := [cBlk nb0_5 [v_b_Years, v_b_Olds, I r02, I r03, .map (some nb1_6)] 126, cMl I encSp nb1_6 r04, cBlk b_4 [I 0] 36, cBlk b_3 [B false] 4, cBlk b_2 [v_stages] 27, cBlk b_1 [v_b_Years, v_b_Olds, I b_First, I b_Last] 26, cMk ([])]) H rfl rfl rfl Sz4 rfl rfl rfl rfl rfl rfl ?_
    intro w21z H
    refine t_st (k := 2) (b := b_4) (off := 0) (cs := [I 0]) (vs := [I 2]) (cs' := [I 2]) (v := I 2) (L' := [cBlk nb0_5 [v_b_Years, v_b_Olds, I r02, I r03, .map (some nb1_6)] 126, cMl I encSp nb1_6 r04, cBlk b_4 [I 2] 36, cBlk b_3 [B false] 4, cBlk b_2 [v_stages] 27, cBlk b_1 [v_b_Years, v_b_Olds, I b_First, I b_Last] 26, cMk ([])]) H rfl rfl rfl Sz36 rfl rfl rfl rfl rfl rfl ?_
    intro w22z H
    refine s_nil ?_
    refine WD.of ?_
    refine W.ret ?_
    refine bodyD_r (H.pick [6, 0, 1, 2, 3, 4, 5] (by decide) rfl) ?_
    intro w23z H
    replace H : St w w23z [cBlk nb0_5 [v_b_Years, v_b_Olds, I r02, I r03, .map (some nb1_6)] 126, cMl I encSp nb1_6 r04, cBlk b_4 [I 2] 36, cBlk b_3 [B false] 4, cBlk b_2 [v_stages] 27, cBlk b_1 [v_b_Years, v_b_Olds, I b_First, I b_Last] 26] R := H
    have hb24z := (H.blk (k := 3) rfl)
    have hb25z := (H.blk (k := 2) rfl)
    have hr_ := M.e_pure hM
    exact ⟨_, (resE_ofn (vs := [B false, I 2]) rfl rfl (.cell (v := B false) rfl (run_loadVar_sc Sc4 hb24z rfl) <| .cell (v := I 2) rfl (run_loadVar_sc Sc36 hb25z rfl) <| .nil)), ⟨false, 2, hr_, rfl, (H.pick [] (by decide) rfl)⟩⟩
   ·replace hM := M.e_f hM c20z
    simp only [decide_eq_true_eq, decide_eq_false_iff_not, beq_iff_eq, bne_iff_ne, beq_eq_false_iff_ne, bne_eq_false_iff_eq, ne_eq, Decidable.not_not] at c20z
    refine WD.seq ?_
    refine WD.of ?_
    refine W.region rfl ?_
    refine s_val (x_ld (p := .pointer (some ⟨b_2, 0, none⟩)) (v := v_stages) rfl (ldb_sc Sc27 (H.blk (k := 4) rfl) rfl)) ?_
    obtain ⟨r27z, hx26z, hM⟩ := M.e_bind hM
    refine s_call cf83 [v_stages, .func (.func 85) #[] #[]] rfl (often_every_int_ok stages (fun xqz => m_often_Holds_1 xqz) (hC_stages.app _) hs_stages ⟨85, [], rfl, cf85, fun wqz Lqz Cqz vqz xqz bqz hsqz hCqz hAqz hpqz => by obtain rfl := Arg.int hAqz; exact (often_Holds_1_ok xqz hpqz wqz (St.refl hsqz)).mono fun vqz wqz ⟨yqz, hrqz, hvqz, Hqz⟩ => by subst hrqz; exact ⟨hvqz, Hqz⟩⟩ hx26z _ (St.give (T := [cBlk nb0_5 [v_b_Years, v_b_Olds, I r02, I r03, .map (some nb1_6)] 126, cMl I encSp nb1_6 r04, cBlk b_4 [I 0] 36, cBlk b_3 [B false] 4, cBlk b_2 [v_stages] 27, cBlk b_1 [v_b_Years, v_b_Olds, I b_First, I b_Last] 26, cMk ([])]) H rfl)) ?_
    rintro vq w28z ⟨r2, hr29z, hvq, H2_⟩
    subst hr29z
    subst vq
    try dsimp only at hM
    replace H : St w w28z [cBlk nb0_5 [v_b_Years, v_b_Olds, I r02, I r03, .map (some nb1_6)] 126, cMl I encSp nb1_6 r04, cBlk b_4 [I 0] 36, cBlk b_3 [B false] 4, cBlk b_2 [v_stages] 27, cBlk b_1 [v_b_Years, v_b_Olds, I b_First, I b_Last] 26, cMk ([])] R := H.back H2_ rfl
    clear H2_
    refine s_val (x_not (b := r2) rfl) ?_
    refine s_val (x_as (v := B (!r2)) rfl) ?_
    refine s_nil ?_
    refine WD.cond (!r2) rfl (fun c30z => ?_) (fun c30z => ?_)
    ·replace hM := M.e_t hM c30z
     refine WD.seq ?_
     refine WD.of ?_
     refine W.region rfl ?_
     refine t_st (k := 3) (b := b_3) (off := 0) (cs := [B false]) (vs := [B false]) (cs' := [B false]) (v := B false) (L' := [cBlk nb0_5 [v_b_Years, v_b_Olds, I r02, I r03, .map (some nb1_6)] 126, cMl I encSp nb1_6 r04, cBlk b_4 [I 0] 36, cBlk b_3 [B false] 4, cBlk b_2 [v_stages] 27, cBlk b_1 [v_b_Years, v_b_Olds, I b_First, I b_Last] 26, cMk ([])]) H rfl rfl rfl Sz4 rfl rfl rfl rfl rfl rfl ?_
     intro w31z H
     refine t_st (k := 2) (b := b_4) (off := 0) (cs := [I 0]) (vs := [I 4]) (cs' := [I 4]) (v := I 4) (L' := [cBlk nb0_5 [v_b_Years, v_b_Olds, I r02, I r03, .map (some nb1_6)] 126, cMl I encSp nb1_6 r04, cBlk b_4 [I 4] 36, cBlk b_3 [B false] 4, cBlk b_2 [v_stages] 27, cBlk b_1 [v_b_Years, v_b_Olds, I b_First, I b_Last] 26, cMk ([])]) H rfl rfl rfl Sz36 rfl rfl rfl rfl rfl rfl ?_
     intro w32z H
     refine s_nil ?_
     refine WD.of ?_
     refine W.ret ?_
     refine bodyD_r (H.pick [6, 0, 1, 2, 3, 4, 5] (by decide) rfl) ?_
     intro w33z H
     replace H : St w w33z [cBlk nb0_5 [v_b_Years, v_b_Olds, I r02, I r03, .map (some nb1_6)] 126, cMl I encSp nb1_6 r04, cBlk b_4 [I 4] 36, cBlk b_3 [B false] 4, cBlk b_2 [v_stages] 27, cBlk b_1 [v_b_Years, v_b_Olds, I b_First, I b_Last] 26] R := H
     have hb34z := (H.blk (k := 3) rfl)
     have hb35z := (H.blk (k := 2) rfl)
     have hr_ := M.e_pure hM
     exact ⟨_, (resE_ofn (vs := [B false, I 4]) rfl rfl (.cell (v := B false) rfl (run_loadVar_sc Sc4 hb34z rfl) <| .cell (v := I 4) rfl (run_loadVar_sc Sc36 hb35z rfl) <| .nil)), ⟨false, 4, hr_, rfl, (H.pick [] (by decide) rfl)⟩⟩
    ·replace hM := M.e_f hM c30z
     refine WD.of ?_
     refine W.skip ?_
     refine WD.seq ?_
     refine WD.seq ?_
     refine WD.of ?_
     refine W.region rfl ?_
     refine s_val (x_mv (v := .pointer (some ⟨nb0_5, 0, none⟩)) rfl) ?_
     refine s_val (x_fa (a := .pointer (some ⟨b_1, 0, none⟩)) (v := .pointer (some ⟨b_1, 2, none⟩)) rfl (fa_blk (o := 0) Fd26_2 Sz3)) ?_
     refine s_val (x_ld (p := .pointer (some ⟨b_1, 2, none⟩)) (v := I b_First) rfl (ldb_sc Sc3 (H.blk (k := 5) rfl) rfl)) ?_
     refine s_val (x_fa (a := .pointer (some ⟨b_1, 0, none⟩)) (v := .pointer (some ⟨b_1, 3, none⟩)) rfl (fa_blk (o := 0) Fd26_3 Sz3)) ?_
     refine s_val (x_ld (p := .pointer (some ⟨b_1, 3, none⟩)) (v := I b_Last) rfl (ldb_sc Sc3 (H.blk (k := 5) rfl) rfl)) ?_
     obtain ⟨r37z, hx36z, hM⟩ := M.e_bind hM
     refine s_call cf54 [.pointer (some ⟨nb0_5, 0, none⟩), I b_First, I b_Last] rfl (often_shelf_years_ok b_Years b_Olds r02 r03 r04 b_First b_Last (hC_b_Years.app _) hs_b_Years (hC_b_Olds.app _) hs_b_Olds (Has.here (k := 1) rfl) (Has.here (k := 0) rfl) hx36z _ (St.give (T := [cBlk nb0_5 [v_b_Years, v_b_Olds, I r02, I r03, .map (some nb1_6)] 126, cMl I encSp nb1_6 r04, cBlk b_4 [I 0] 36, cBlk b_3 [B false] 4, cBlk b_2 [v_stages] 27, cBlk b_1 [v_b_Years, v_b_Olds, I b_First, I b_Last] 26, cMk ([])]) H rfl)) ?_
     rintro vq w38z ⟨r00, r10, nb0_7, nb1_8, nb2_9, hr39z, hvq, H2_⟩
     subst hr39z
     subst vq
     try dsimp only at hM
     replace H : St w w38z [cBlk nb0_7 [I r00] 3, cBlk nb1_8 [I r10] 3, cBlk nb2_9 [.pointer (some ⟨nb0_5, 0, none⟩)] 102, cBlk nb0_5 [v_b_Years, v_b_Olds, I r02, I r03, .map (some nb1_6)] 126, cMl I encSp nb1_6 r04, cBlk b_4 [I 0] 36, cBlk b_3 [B false] 4, cBlk b_2 [v_stages] 27, cBlk b_1 [v_b_Years, v_b_Olds, I b_First, I b_Last] 26, cMk ([])] R := H.back H2_ rfl
     clear H2_
     refine s_nil ?_
     refine WD.block ?_
     obtain ⟨t40z, hx41z, hM⟩ := M.e_bind hM
     refine WD.range (L := [cBlk b_4 [I 0] 36, cBlk b_3 [B false] 4, cBlk nb0_7 [I r00] 3, cBlk nb1_8 [I r10] 3, cBlk nb2_9 [.pointer (some ⟨nb0_5, 0, none⟩)] 102, cBlk nb0_5 [v_b_Years, v_b_Olds, I r02, I r03, .map (some nb1_6)] 126, cMl I encSp nb1_6 r04, cBlk b_2 [v_stages] 27, cBlk b_1 [v_b_Years, v_b_Olds, I b_First, I b_Last] 26]) [.pointer (some ⟨nb0_7, 0, none⟩), .pointer (some ⟨nb1_8, 0, none⟩), .pointer (some ⟨nb2_9, 0, none⟩)] (H.pick [9, 5, 6, 0, 1, 2, 3, 4, 7, 8] (by decide) rfl) rfl cf90 ?_
     intro l42z D43z r44z w45z hr46z H
     have hYC : YieldC Try.prog ([cMk (D43z :: ([])), cBlk nb0_7 [I r00] 3, cBlk nb1_8 [I r10] 3, cBlk nb2_9 [.pointer (some ⟨nb0_5, 0, none⟩)] 102, cBlk nb0_5 [v_b_Years, v_b_Olds, I r02, I r03, .map (some nb1_6)] 126, cMl I encSp nb1_6 r04, cBlk b_2 [v_stages] 27, cBlk b_1 [v_b_Years, v_b_Olds, I b_First, I b_Last] 26] ++ R) arISpan (yJ l42z r44z (fun _ Ls_ => Ls_ = [cBlk b_4 [I 0] 36, cBlk b_3 [B false] 4]) (fun _ Ls_ => Ls_ = [cBlk b_4 [I 0] 36, cBlk b_3 [B false] 4]) (fun _ => .ret)) (.func (.yield l42z) #[] #[]) (M.yl (m_often_Holds_b0 b_First stages)) := by
      refine YieldC.mk2 hr46z (fun _ Ls_ => Ls_ = [cBlk b_4 [I 0] 36, cBlk b_3 [B false] 4]) (fun _ Ls_ => Ls_ = [cBlk b_4 [I 0] 36, cBlk b_3 [B false] 4]) (fun _ => .ret) (m_often_Holds_b0 b_First stages) (by rintro _ _ h_; obtain ⟨rfl⟩ := h_; rfl) (by rintro _ _ h_; (obtain ⟨rfl⟩ := h_; rfl)) rfl (arISpan_len rfl) ?_
      intro C_ vs_ x_ hA_
      obtain ⟨x, x2⟩ := x_
      obtain rfl := hA_
      intro w R hR_ Ls_ s_ r hY_ hM H
      skip
      obtain ⟨rfl⟩ := hY_
      replace H : St w w [cBlk b_4 [I 0] 36, cBlk b_3 [B false] 4, cMk (D43z :: ([])), cBlk nb0_7 [I r00] 3, cBlk nb1_8 [I r10] 3, cBlk nb2_9 [.pointer (some ⟨nb0_5, 0, none⟩)] 102, cBlk nb0_5 [v_b_Years, v_b_Olds, I r02, I r03, .map (some nb1_6)] 126, cMl I encSp nb1_6 r04, cBlk b_2 [v_stages] 27, cBlk b_1 [v_b_Years, v_b_Olds, I b_First, I b_Last] 26] R := H
      refine W.seq ?_
      refine W.region rfl ?_
      refine s_val (x_as (v := I x) rfl) ?_
      refine s_nil ?_
      refine W.region rfl ?_
      refine t_alloc (cs := [I 0, I 0]) H Al35 rfl ?_
      intro b_10 w47z H
      refine t_st (k := 0) (b := b_10) (off := 0) (cs := [I 0, I 0]) (vs := [I x2.lo, I x2.hi]) (cs' := [I x2.lo, I x2.hi]) (v := .agg #[I x2.lo, I x2.hi]) (L' := [cBlk b_10 [I x2.lo, I x2.hi] 35, cBlk b_4 [I 0] 36, cBlk b_3 [B false] 4, cMk (D43z :: ([])), cBlk nb0_7 [I r00] 3, cBlk nb1_8 [I r10] 3, cBlk nb2_9 [.pointer (some ⟨nb0_5, 0, none⟩)] 102, cBlk nb0_5 [v_b_Years, v_b_Olds, I r02, I r03, .map (some nb1_6)] 126, cMl I encSp nb1_6 r04, cBlk b_2 [v_stages] 27, cBlk b_1 [v_b_Years, v_b_Olds, I b_First, I b_Last] 26]) H rfl rfl rfl Sz35 rfl rfl rfl rfl rfl rfl ?_
      intro w48z H
      refine s_nil ?_
      refine ⟨rfl, [cBlk b_10 [I x2.lo, I x2.hi] 35], H.pick [0, 1, 2, 3, 4, 5, 6, 7, 8, 9, 10] (by decide) rfl, ?_⟩
      clear H hR_
      intro w R hR_ H
      replace hC_b_Years := hC_b_Years.sub hR_
      replace hC_b_Olds := hC_b_Olds.sub hR_
      replace hC_stages := hC_stages.sub hR_
      replace hM : (m_often_Holds_b0 b_First stages () (x, x2)).Ends r := hM
      simp only [m_often_Holds_b0] at hM
      replace H : St w w [cBlk b_10 [I x2.lo, I x2.hi] 35, cBlk b_4 [I 0] 36, cBlk b_3 [B false] 4, cMk (D43z :: ([])), cBlk nb0_7 [I r00] 3, cBlk nb1_8 [I r10] 3, cBlk nb2_9 [.pointer (some ⟨nb0_5, 0, none⟩)] 102, cBlk nb0_5 [v_b_Years, v_b_Olds, I r02, I r03, .map (some nb1_6)] 126, cMl I encSp nb1_6 r04, cBlk b_2 [v_stages] 27, cBlk b_1 [v_b_Years, v_b_Olds, I b_First, I b_Last] 26] R := H
      refine W.block ?_
      refine W.seq ?_
      refine W.draw (fun W => St w W [cBlk b_10 [I x2.lo, I x2.hi] 35, cBlk b_4 [I 0] 36, cBlk b_3 [B false] 4, cMk (D43z :: ([])), cBlk nb0_7 [I r00] 3, cBlk nb1_8 [I r10] 3, cBlk nb2_9 [.pointer (some ⟨nb0_5, 0, none⟩)] 102, cBlk nb0_5 [v_b_Years, v_b_Olds, I r02, I r03, .map (some nb1_6)] 126, cMl I encSp nb1_6 r04, cBlk b_2 [v_stages] 27, cBlk b_1 [v_b_Years, v_b_Olds, I b_First, I b_Last] 26] R) [(0, true), (1, true), (2, true), (3, true), (4, true), (5, true), (6, true), (7, true), (8, true), (9, true), (10, true), (11, false), (12, true)] mixed (by decide +kernel) rfl ?_
      intro w49z hx_
      replace H : St w w49z [cBlk b_10 [I x2.lo, I x2.hi] 35, cBlk b_4 [I 0] 36, cBlk b_3 [B false] 4, cMk (D43z :: ([])), cBlk nb0_7 [I r00] 3, cBlk nb1_8 [I r10] 3, cBlk nb2_9 [.pointer (some ⟨nb0_5, 0, none⟩)] 102, cBlk nb0_5 [v_b_Years, v_b_Olds, I r02, I r03, .map (some nb1_6)] 126, cMl I encSp nb1_6 r04, cBlk b_2 [v_stages] 27, cBlk b_1 [v_b_Years, v_b_Olds, I b_First, I b_Last] 26] R := H.ext hx_
      clear hx_
      refine ⟨(H.pick [0, 1, 2, 3, 4, 5, 6, 7, 8, 9, 10] (by decide) rfl), ?_⟩
      refine d_q rfl (fun w' H => x_ld (p := .pointer (some ⟨b_2, 0, none⟩)) (v := v_stages) rfl (ldb_sc Sc27 (H.blk (k := 9) rfl) rfl)) ?_
      refine d_q rfl (fun w' H => x_mv (v := I x) rfl) ?_
      refine d_q rfl (fun w' H => x_fa (a := .pointer (some ⟨b_1, 0, none⟩)) (v := .pointer (some ⟨b_1, 2, none⟩)) rfl (fa_blk (o := 0) Fd26_2 Sz3)) ?_
      refine d_q rfl (fun w' H => x_ld (p := .pointer (some ⟨b_1, 2, none⟩)) (v := I b_First) rfl (ldb_sc Sc3 (H.blk (k := 10) rfl) rfl)) ?_
      obtain ⟨sd50z, hM⟩ := M.e_grd hM
      simp only [Bool.and_eq_true, decide_eq_true_eq] at sd50z
      refine d_q rfl (fun w' H => x_ari (a := x) (b := b_First) (r := x - b_First) rfl rfl rfl (by omega)) ?_
      obtain ⟨sd51z, hM⟩ := M.e_grd hM
      simp only [Bool.and_eq_true, decide_eq_true_eq] at sd51z
      refine d_q rfl (fun w' H => x_ix (a := v_stages) (b := I (x - b_First)) (v := vat v_stages 1 (Int.toNat (x - b_First))) rfl rfl (Sl.ix (α := Int) T27.und T27.size hs_stages (by omega) (by omega))) ?_
      refine d_q rfl (fun w' H => x_ld (p := vat v_stages 1 (Int.toNat (x - b_First))) (v := I (stages.getD (Int.toNat (x - b_First)) 0)) rfl (ld_sc Sc3 (At.mono (Int_at hs_stages (i := x - b_First) (by omega) (by omega)) (hC_stages.at H)))) ?_
      refine d_q rfl (fun w' H => x_fa (a := .pointer (some ⟨b_10, 0, none⟩)) (v := .pointer (some ⟨b_10, 0, none⟩)) rfl (fa_blk (o := 0) Fd35_0 Sz3)) ?_
      refine d_q rfl (fun w' H => x_ld (p := .pointer (some ⟨b_10, 0, none⟩)) (v := I x2.lo) rfl (ldb_sc Sc3 (H.blk (k := 0) rfl) rfl)) ?_
      refine d_q rfl (fun w' H => x_fa (a := .pointer (some ⟨b_10, 0, none⟩)) (v := .pointer (some ⟨b_10, 1, none⟩)) rfl (fa_blk (o := 0) Fd35_1 Sz3)) ?_
      refine d_q rfl (fun w' H => x_ld (p := .pointer (some ⟨b_10, 1, none⟩)) (v := I x2.hi) rfl (ldb_sc Sc3 (H.blk (k := 0) rfl) rfl)) ?_
      refine d_l rfl ?_
      obtain ⟨r53z, hx52z, hM⟩ := M.e_bind hM
      refine s_call cf63 [I (stages.getD (Int.toNat (x - b_First)) 0), I x2.lo, I x2.hi] rfl (often_in_ok (stages.getD (Int.toNat (x - b_First)) 0) x2.lo x2.hi hx52z _ (St.give (T := [cBlk b_10 [I x2.lo, I x2.hi] 35, cBlk b_4 [I 0] 36, cBlk b_3 [B false] 4, cMk (D43z :: ([])), cBlk nb0_7 [I r00] 3, cBlk nb1_8 [I r10] 3, cBlk nb2_9 [.pointer (some ⟨nb0_5, 0, none⟩)] 102, cBlk nb0_5 [v_b_Years, v_b_Olds, I r02, I r03, .map (some nb1_6)] 126, cMl I encSp nb1_6 r04, cBlk b_2 [v_stages] 27, cBlk b_1 [v_b_Years, v_b_Olds, I b_First, I b_Last] 26]) H rfl)) ?_
      rintro vq w54z ⟨r3, hr55z, hvq, H2_⟩
      subst hr55z
      subst vq
      try dsimp only at hM
      replace H : St w w54z [cBlk b_10 [I x2.lo, I x2.hi] 35, cBlk b_4 [I 0] 36, cBlk b_3 [B false] 4, cMk (D43z :: ([])), cBlk nb0_7 [I r00] 3, cBlk nb1_8 [I r10] 3, cBlk nb2_9 [.pointer (some ⟨nb0_5, 0, none⟩)] 102, cBlk nb0_5 [v_b_Years, v_b_Olds, I r02, I r03, .map (some nb1_6)] 126, cMl I encSp nb1_6 r04, cBlk b_2 [v_stages] 27, cBlk b_1 [v_b_Years, v_b_Olds, I b_First, I b_Last] 26] R := H.back H2_ rfl
      clear H2_
      refine s_nil ⟨(H.pick [0, 1, 2, 3, 4, 5, 6, 7, 8, 9, 10] (by decide) rfl), ?_⟩
      refine d_q rfl (fun w' H => x_not (b := r3) rfl) ?_
      refine d_nil ?_
      refine W.cond (!r3) rfl (fun c56z => ?_) (fun c56z => ?_)
      ·replace hM := M.e_t hM c56z
       refine W.seq ?_
       refine W.region rfl ?_
       refine t_st (k := 2) (b := b_3) (off := 0) (cs := [B false]) (vs := [B false]) (cs' := [B false]) (v := B false) (L' := [cBlk b_10 [I x2.lo, I x2.hi] 35, cBlk b_4 [I 0] 36, cBlk b_3 [B false] 4, cMk (D43z :: ([])), cBlk nb0_7 [I r00] 3, cBlk nb1_8 [I r10] 3, cBlk nb2_9 [.pointer (some ⟨nb0_5, 0, none⟩)] 102, cBlk nb0_5 [v_b_Years, v_b_Olds, I r02, I r03, .map (some nb1_6)] 126, cMl I encSp nb1_6 r04, cBlk b_2 [v_stages] 27, cBlk b_1 [v_b_Years, v_b_Olds, I b_First, I b_Last] 26]) H rfl rfl rfl Sz4 rfl rfl rfl rfl rfl rfl ?_
       intro w57z H
       refine t_st (k := 1) (b := b_4) (off := 0) (cs := [I 0]) (vs := [I 0]) (cs' := [I 0]) (v := I 0) (L' := [cBlk b_10 [I x2.lo, I x2.hi] 35, cBlk b_4 [I 0] 36, cBlk b_3 [B false] 4, cMk (D43z :: ([])), cBlk nb0_7 [I r00] 3, cBlk nb1_8 [I r10] 3, cBlk nb2_9 [.pointer (some ⟨nb0_5, 0, none⟩)] 102, cBlk nb0_5 [v_b_Years, v_b_Olds, I r02, I r03, .map (some nb1_6)] 126, cMl I encSp nb1_6 r04, cBlk b_2 [v_stages] 27, cBlk b_1 [v_b_Years, v_b_Olds, I b_First, I b_Last] 26]) H rfl rfl rfl Sz36 rfl rfl rfl rfl rfl rfl ?_
       intro w58z H
       refine s_nil ?_
       refine W.ret ?_
       exact ⟨(), [cBlk b_4 [I 0] 36, cBlk b_3 [B false] 4], (M.e_pure hM).symm, rfl, H.pick [1, 2, 3, 4, 5, 6, 7, 8, 9, 10] (by decide) rfl, rfl⟩
      ·replace hM := M.e_f hM c56z
       refine W.skip ?_
       exact ⟨(), [cBlk b_4 [I 0] 36, cBlk b_3 [B false] 4], (M.e_pure hM).symm, rfl, H.pick [1, 2, 3, 4, 5, 6, 7, 8, 9, 10] (by decide) rfl⟩
     replace H : St w w45z (cAll (cObj l42z (.loop r44z) :: [cBlk b_4 [I 0] 36, cBlk b_3 [B false] 4]) :: [cMk (D43z :: ([])), cBlk nb0_7 [I r00] 3, cBlk nb1_8 [I r10] 3, cBlk nb2_9 [.pointer (some ⟨nb0_5, 0, none⟩)] 102, cBlk nb0_5 [v_b_Years, v_b_Olds, I r02, I r03, .map (some nb1_6)] 126, cMl I encSp nb1_6 r04, cBlk b_2 [v_stages] 27, cBlk b_1 [v_b_Years, v_b_Olds, I b_First, I b_Last] 26]) R := St.bundleB (A := cObj l42z (.loop r44z) :: [cBlk b_4 [I 0] 36, cBlk b_3 [B false] 4]) (T := [cMk (D43z :: ([])), cBlk nb0_7 [I r00] 3, cBlk nb1_8 [I r10] 3, cBlk nb2_9 [.pointer (some ⟨nb0_5, 0, none⟩)] 102, cBlk nb0_5 [v_b_Years, v_b_Olds, I r02, I r03, .map (some nb1_6)] 126, cMl I encSp nb1_6 r04, cBlk b_2 [v_stages] 27, cBlk b_1 [v_b_Years, v_b_Olds, I b_First, I b_Last] 26]) rfl (H.pick [0, 2, 3, 1, 4, 5, 6, 7, 8, 9, 10] (by decide) rfl)
     refine (often_shelf_years_1_ok (M.yl (m_often_Holds_b0 b_First stages)) (.inl ()) r00 r10 b_Years b_Olds r02 r03 r04 hYC ⟨_, rfl, rfl⟩ (Has.here (k := 1) rfl) (Has.here (k := 2) rfl) (hC_b_Years.app _) hs_b_Years (hC_b_Olds.app _) hs_b_Olds (Has.here (k := 5) rfl) (Has.here (k := 4) rfl) (Has.here (k := 3) rfl) hx41z _ (St.give (A := [cAll (cObj l42z (.loop r44z) :: [cBlk b_4 [I 0] 36, cBlk b_3 [B false] 4])]) (T := [cMk (D43z :: ([])), cBlk nb0_7 [I r00] 3, cBlk nb1_8 [I r10] 3, cBlk nb2_9 [.pointer (some ⟨nb0_5, 0, none⟩)] 102, cBlk nb0_5 [v_b_Years, v_b_Olds, I r02, I r03, .map (some nb1_6)] 126, cMl I encSp nb1_6 r04, cBlk b_2 [v_stages] 27, cBlk b_1 [v_b_Years, v_b_Olds, I b_First, I b_Last] 26]) H rfl)).mono ?_
     rintro vq w59z ⟨t63z, Ls61z, hq64z, hvq, H2_, hY62z⟩
     subst hq64z
     replace H := H.back H2_ rfl
     clear H2_ hYC
     rcases t63z with _ | _
     ·try dsimp only at hM
      obtain ⟨_, rfl, rfl⟩ := hY62z
      refine ⟨_, [cBlk b_4 [I 0] 36, cBlk b_3 [B false] 4, cBlk nb0_7 [I r00] 3, cBlk nb1_8 [I r10] 3, cBlk nb2_9 [.pointer (some ⟨nb0_5, 0, none⟩)] 102, cBlk nb0_5 [v_b_Years, v_b_Olds, I r02, I r03, .map (some nb1_6)] 126, cMl I encSp nb1_6 r04, cBlk b_2 [v_stages] 27, cBlk b_1 [v_b_Years, v_b_Olds, I b_First, I b_Last] 26], H.unbundle.pick [0, 3, 1, 2, 4, 5, 6, 7, 8, 9, 10] (by decide) rfl, hr46z.nb, ?_⟩
      intro w60z H
      rw [hr46z.pd]
      replace H : St w w60z [cMk (D43z :: ([])), cBlk b_4 [I 0] 36, cBlk b_3 [B false] 4, cBlk nb0_7 [I r00] 3, cBlk nb1_8 [I r10] 3, cBlk nb2_9 [.pointer (some ⟨nb0_5, 0, none⟩)] 102, cBlk nb0_5 [v_b_Years, v_b_Olds, I r02, I r03, .map (some nb1_6)] 126, cMl I encSp nb1_6 r04, cBlk b_2 [v_stages] 27, cBlk b_1 [v_b_Years, v_b_Olds, I b_First, I b_Last] 26] R := H
      try simp only []
      refine WD.seq ?_
      refine WD.of ?_
      refine W.region rfl ?_
      refine t_st (k := 2) (b := b_3) (off := 0) (cs := [B false]) (vs := [B true]) (cs' := [B true]) (v := B true) (L' := [cMk (D43z :: ([])), cBlk b_4 [I 0] 36, cBlk b_3 [B true] 4, cBlk nb0_7 [I r00] 3, cBlk nb1_8 [I r10] 3, cBlk nb2_9 [.pointer (some ⟨nb0_5, 0, none⟩)] 102, cBlk nb0_5 [v_b_Years, v_b_Olds, I r02, I r03, .map (some nb1_6)] 126, cMl I encSp nb1_6 r04, cBlk b_2 [v_stages] 27, cBlk b_1 [v_b_Years, v_b_Olds, I b_First, I b_Last] 26]) H rfl rfl rfl Sz4 rfl rfl rfl rfl rfl rfl ?_
      intro w65z H
      refine t_st (k := 1) (b := b_4) (off := 0) (cs := [I 0]) (vs := [I 0]) (cs' := [I 0]) (v := I 0) (L' := [cMk (D43z :: ([])), cBlk b_4 [I 0] 36, cBlk b_3 [B true] 4, cBlk nb0_7 [I r00] 3, cBlk nb1_8 [I r10] 3, cBlk nb2_9 [.pointer (some ⟨nb0_5, 0, none⟩)] 102, cBlk nb0_5 [v_b_Years, v_b_Olds, I r02, I r03, .map (some nb1_6)] 126, cMl I encSp nb1_6 r04, cBlk b_2 [v_stages] 27, cBlk b_1 [v_b_Years, v_b_Olds, I b_First, I b_Last] 26]) H rfl rfl rfl Sz36 rfl rfl rfl rfl rfl rfl ?_
      intro w66z H
      refine s_nil ?_
      refine WD.of ?_
      refine W.ret ?_
      refine bodyD_r (H.pick [0, 1, 2, 3, 4, 5, 6, 7, 8, 9] (by decide) rfl) ?_
      intro w67z H
      replace H : St w w67z [cBlk b_4 [I 0] 36, cBlk b_3 [B true] 4, cBlk nb0_7 [I r00] 3, cBlk nb1_8 [I r10] 3, cBlk nb2_9 [.pointer (some ⟨nb0_5, 0, none⟩)] 102, cBlk nb0_5 [v_b_Years, v_b_Olds, I r02, I r03, .map (some nb1_6)] 126, cMl I encSp nb1_6 r04, cBlk b_2 [v_stages] 27, cBlk b_1 [v_b_Years, v_b_Olds, I b_First, I b_Last] 26] R := H
      have hb68z := (H.blk (k := 1) rfl)
      have hb69z := (H.blk (k := 0) rfl)
      have hr_ := M.e_pure hM
      exact ⟨_, (resE_ofn (vs := [B true, I 0]) rfl rfl (.cell (v := B true) rfl (run_loadVar_sc Sc4 hb68z rfl) <| .cell (v := I 0) rfl (run_loadVar_sc Sc36 hb69z rfl) <| .nil)), ⟨true, 0, hr_, rfl, (H.pick [] (by decide) rfl)⟩⟩
     ·try dsimp only at hM
      obtain ⟨_, rfl, rfl⟩ := hY62z
      refine ⟨_, [cBlk b_4 [I 0] 36, cBlk b_3 [B false] 4, cBlk nb0_7 [I r00] 3, cBlk nb1_8 [I r10] 3, cBlk nb2_9 [.pointer (some ⟨nb0_5, 0, none⟩)] 102, cBlk nb0_5 [v_b_Years, v_b_Olds, I r02, I r03, .map (some nb1_6)] 126, cMl I encSp nb1_6 r04, cBlk b_2 [v_stages] 27, cBlk b_1 [v_b_Years, v_b_Olds, I b_First, I b_Last] 26], H.unbundle.pick [0, 3, 1, 2, 4, 5, 6, 7, 8, 9, 10] (by decide) rfl, nofun, ?_⟩
      intro w60z H
      show WD _ _ _ (.ret) _ _ _
      refine WD.of ?_
      refine W.ret ?_
      replace H : St w w60z [cMk (D43z :: ([])), cBlk b_4 [I 0] 36, cBlk b_3 [B false] 4, cBlk nb0_7 [I r00] 3, cBlk nb1_8 [I r10] 3, cBlk nb2_9 [.pointer (some ⟨nb0_5, 0, none⟩)] 102, cBlk nb0_5 [v_b_Years, v_b_Olds, I r02, I r03, .map (some nb1_6)] 126, cMl I encSp nb1_6 r04, cBlk b_2 [v_stages] 27, cBlk b_1 [v_b_Years, v_b_Olds, I b_First, I b_Last] 26] R := H
      refine bodyD_r (H.pick [0, 1, 2, 3, 4, 5, 6, 7, 8, 9] (by decide) rfl) ?_
      intro w70z H
      replace H : St w w70z [cBlk b_4 [I 0] 36, cBlk b_3 [B false] 4, cBlk nb0_7 [I r00] 3, cBlk nb1_8 [I r10] 3, cBlk nb2_9 [.pointer (some ⟨nb0_5, 0, none⟩)] 102, cBlk nb0_5 [v_b_Years, v_b_Olds, I r02, I r03, .map (some nb1_6)] 126, cMl I encSp nb1_6 r04, cBlk b_2 [v_stages] 27, cBlk b_1 [v_b_Years, v_b_Olds, I b_First, I b_Last] 26] R := H
      have hb71z := (H.blk (k := 1) rfl)
      have hb72z := (H.blk (k := 0) rfl)
      have hr_ := M.e_pure hM
      exact ⟨_, (resE_ofn (vs := [B false, I 0]) rfl rfl (.cell (v := B false) rfl (run_loadVar_sc Sc4 hb71z rfl) <| .cell (v := I 0) rfl (run_loadVar_sc Sc36 hb72z rfl) <| .nil)), ⟨false, 0, hr_, rfl, (H.pick [] (by decide) rfl)⟩⟩

def m_nilometerref10_can_b0 (b_Years : List Yr) (year : Int) (stage : Int) : Nat -> M (Nat ⊕ (Unit ⊕ Unit)) := fun i =>
  bif decide ((i : Int) < (b_Years.length : Int)) then (
  M.grd (decide ((i : Int) < (b_Years.length : Int))) <|
  M.bind (M.opt (((b_Years.getD i default).year) == year) (m_nilometerref10_outside stage ((b_Years.getD i default).lo) ((b_Years.getD i default).hi)) false) fun r2 =>
  bif ((((b_Years.getD i default).year) == year) && r2) then (
  M.pure (.inr (.inl ())))
  else (
  M.pure (.inl (i + 1))))
  else (
  M.pure (.inr (.inr ())))
def m_nilometerref10_can_b2 (b_Olds : List Old10) (year : Int) (i2 : Nat) : (Bool × Nat) -> M ((Bool × Nat) ⊕ Bool) := fun (said, k) =>
  bif decide ((k : Int) < (((b_Olds.getD i2 default).passed).length : Int)) then (
  M.grd ((!(!said) || (decide ((k : Int) < (((b_Olds.getD i2 default).passed).length : Int))))) <|
  M.pure (.inl ((said || ((((b_Olds.getD i2 default).passed).getD k 0) == year)), k + 1)))
  else (
  M.pure (.inr said))
def m_nilometerref10_can_b3 (b_Olds : List Old10) (year : Int) (stage : Int) : Nat -> M (Nat ⊕ (Unit ⊕ Unit)) := fun i2 =>
  bif decide ((i2 : Int) < (b_Olds.length : Int)) then (
  M.grd (decide ((i2 : Int) < (b_Olds.length : Int))) <|
  M.bind (m_nilometerref10_outside year ((b_Olds.getD i2 default).src) ((b_Olds.getD i2 default).dst)) fun r3 =>
  bif r3 then (
  M.pure (.inl (i2 + 1)))
  else (
  M.bind (M.iter (m_nilometerref10_can_b2 b_Olds year i2) (false, 0)) fun said2 =>
  bif (said2 != (decide (((b_Olds.getD i2 default).stage) <= stage))) then (
  M.pure (.inr (.inl ())))
  else (
  M.pure (.inl (i2 + 1)))))
  else (
  M.pure (.inr (.inr ())))
def m_nilometerref10_can (b_Years : List Yr) (b_Olds : List Old10) (b_First : Int) (b_Last : Int) (year : Int) (stage : Int) : M Bool :=
  M.bind (M.iter (m_nilometerref10_can_b0 b_Years year stage) 0) fun x_ => match x_ with
  | (.inl (_ : Unit)) => (
  M.pure false)
  | (.inr (_ : Unit)) => (
  M.bind (M.iter (m_nilometerref10_can_b3 b_Olds year stage) 0) fun x_ => match x_ with
  | (.inl (_ : Unit)) => (
  M.pure false)
  | (.inr (_ : Unit)) => (
  M.pure true))
set_option maxRecDepth 100000 in
set_option maxHeartbeats 16000000 in
theorem nilometerref10_can_ok {R : List Chunk} {C_b_Years : Cells} {v_b_Years : Value} {C_b_Olds : Cells} {v_b_Olds : Value} (b_Years : List Yr) (b_Olds : List Old10) (b_First : Int) (b_Last : Int) (year : Int) (stage : Int) (hC_b_Years : Reads R C_b_Years) (hs_b_Years : Sl C_b_Years v_b_Years b_Years) (hC_b_Olds : Reads R C_b_Olds) (hs_b_Olds : Sl C_b_Olds v_b_Olds b_Olds) {r : Bool} (hM : (m_nilometerref10_can b_Years b_Olds b_First b_Last year stage).Ends r) (w : World) (H : St w w [] R) : Ret Try.prog 68 #[.agg #[v_b_Years, v_b_Olds, I b_First, I b_Last], I year, I stage] w fun v w' => ∃ (y0 : Bool), y0 = r /\ v = B y0 /\ St w w' [] R := by
 refine ret_of_W Try.func68 rfl rfl rfl ?_
 refine W.seq ?_
 refine W.region rfl ?_
 refine t_box (v := .agg #[v_b_Years, v_b_Olds, I b_First, I b_Last]) (cs := [v_b_Years, v_b_Olds, I b_First, I b_Last]) H rfl rfl ?_
 intro b_1 w1z H
 refine s_val (x_as (v := B false) rfl) ?_
 refine s_nil ?_
 refine W.seq ?_
 refine W.seq ?_
 refine W.region rfl ?_
 refine s_val (x_as (v := I 0) rfl) ?_
 refine s_nil ?_
 refine W.block ?_
 obtain ⟨ex2z, hi3z, hk4z⟩ := M.e_bind hM
 obtain ⟨m0_, hi3z⟩ := M.e_iter hi3z
 refine W.loop (fun m σ W => ∃ (i : Nat) (ρ : Env), σ = upds ρ [(1, I year), (2, I stage), (3, .pointer (some ⟨b_1, 0, none⟩)), (7, I (i : Int))] /\ M.iterN (m_nilometerref10_can_b0 b_Years year stage) m i = some ex2z /\ St w W [cBlk b_1 [v_b_Years, v_b_Olds, I b_First, I b_Last] 55] R) ?_ ?_
 ·exact ⟨_, 0, _, upds_of _ _ ⟨rfl, rfl, rfl, rfl, trivial⟩, hi3z, H⟩
 ·rintro m7z σ w5z ⟨i, ρ, rfl, hI6z, H⟩
  obtain ⟨m8z, lt9z, x10z, hM, hN11z⟩ := M.e_iterN hI6z
  simp only [m_nilometerref10_can_b0] at hM
  clear hI6z
  refine W.seq ?_
  refine W.seq ?_
  refine W.region rfl ?_
  refine s_val (x_mv (v := I (i : Int)) rfl) ?_
  refine s_val (x_fa (a := .pointer (some ⟨b_1, 0, none⟩)) (v := .pointer (some ⟨b_1, 0, none⟩)) rfl (fa_blk (o := 0) Fd55_0 Sz52)) ?_
  refine s_val (x_ld (p := .pointer (some ⟨b_1, 0, none⟩)) (v := v_b_Years) rfl (ldb_sc Sc52 (H.blk (k := 0) rfl) rfl)) ?_
  have hl12z := (hs_b_Years).len_le
  refine s_val (x_lenS T52.und rfl hs_b_Years) ?_
  refine s_val (x_cmp (kd := .i64) (a := (i : Int)) (b := (b_Years.length : Int)) (r := decide ((i : Int) < (b_Years.length : Int))) rfl rfl rfl) ?_
  refine s_nil ?_
  refine W.cond (decide ((i : Int) < (b_Years.length : Int))) rfl (fun c13z => ?_) (fun c13z => ?_)
  ·replace hM := M.e_t hM c13z
   simp only [decide_eq_true_eq, decide_eq_false_iff_not, beq_iff_eq, bne_iff_ne, beq_eq_false_iff_ne, bne_eq_false_iff_eq, ne_eq, Decidable.not_not] at c13z
   refine W.skip ?_
   refine W.seq ?_
   refine W.block ?_
   refine W.seq ?_
   refine W.region rfl ?_
   refine s_val (x_fa (a := .pointer (some ⟨b_1, 0, none⟩)) (v := .pointer (some ⟨b_1, 0, none⟩)) rfl (fa_blk (o := 0) Fd55_0 Sz52)) ?_
   refine s_val (x_ld (p := .pointer (some ⟨b_1, 0, none⟩)) (v := v_b_Years) rfl (ldb_sc Sc52 (H.blk (k := 0) rfl) rfl)) ?_
   refine s_val (x_mv (v := I (i : Int)) rfl) ?_
   obtain ⟨sd14z, hM⟩ := M.e_grd hM
   simp only [Bool.and_eq_true, decide_eq_true_eq] at sd14z
   refine s_val (x_ix (a := v_b_Years) (b := I (i : Int)) (v := vat v_b_Years 3 (Int.toNat (i : Int))) rfl rfl (Sl.ix (α := Yr) T52.und T52.size hs_b_Years (by omega) (by omega))) ?_
   refine s_val (x_ld (p := vat v_b_Years 3 (Int.toNat (i : Int))) (v := .agg #[I ((b_Years.getD i default).year), I ((b_Years.getD i default).lo), I ((b_Years.getD i default).hi)]) rfl (ld_ag Ag127 Sz127 (At.mono (Yr_atA hs_b_Years (i := (i : Int)) (by omega) (by omega)) (hC_b_Years.at H)))) ?_
   refine t_alloc (cs := [I 0, I 0, I 0]) H Al127 rfl ?_
   intro b_2 w15z H
   refine t_st (k := 0) (b := b_2) (off := 0) (cs := [I 0, I 0, I 0]) (vs := [I ((b_Years.getD i default).year), I ((b_Years.getD i default).lo), I ((b_Years.getD i default).hi)]) (cs' := [I ((b_Years.getD i default).year), I ((b_Years.getD i default).lo), I ((b_Years.getD i default).hi)]) (v := .agg #[I ((b_Years.getD i default).year), I ((b_Years.getD i default).lo), I ((b_Years.getD i default).hi)]) (L' := [cBlk b_2 [I ((b_Years.getD i default).year), I ((b_Years.getD i default).lo), I ((b_Years.getD i default).hi)] 127, cBlk b_1 [v_b_Years, v_b_Olds, I b_First, I b_Last] 55]) H rfl rfl rfl Sz127 rfl rfl rfl rfl rfl rfl ?_
   intro w16z H
   refine s_nil ?_
   refine W.seq ?_
   refine W.region rfl ?_
   refine s_val (x_fa (a := .pointer (some ⟨b_2, 0, none⟩)) (v := .pointer (some ⟨b_2, 0, none⟩)) rfl (fa_blk (o := 0) Fd127_0 Sz3)) ?_
   refine s_val (x_ld (p := .pointer (some ⟨b_2, 0, none⟩)) (v := I ((b_Years.getD i default).year)) rfl (ldb_sc Sc3 (H.blk (k := 0) rfl) rfl)) ?_
   refine s_val (x_mv (v := I year) rfl) ?_
   refine s_val (x_cmp (kd := .i64) (a := (b_Years.getD i default).year) (b := year) (r := ((b_Years.getD i default).year) == year) rfl rfl rfl) ?_
   refine s_val (x_mv (v := B (((b_Years.getD i default).year) == year)) rfl) ?_
   refine g_val (((b_Years.getD i default).year) == year) (gy_t rfl) (fun hg => x_mv (v := I stage) rfl) ?_
   refine g_val (((b_Years.getD i default).year) == year) (gy_t rfl) (fun hg => x_fa (a := .pointer (some ⟨b_2, 0, none⟩)) (v := .pointer (some ⟨b_2, 1, none⟩)) rfl (fa_blk (o := 0) Fd127_1 Sz35)) ?_
   refine g_val (((b_Years.getD i default).year) == year) (gy_t rfl) (fun hg => x_fa (a := .pointer (some ⟨b_2, 1, none⟩)) (v := .pointer (some ⟨b_2, 1, none⟩)) (gd_of (c := ((b_Years.getD i default).year) == year) hg (.pointer (some ⟨b_2, 1, none⟩))) (fa_blk (o := 1) Fd35_0 Sz3)) ?_
   refine g_val (((b_Years.getD i default).year) == year) (gy_t rfl) (fun hg => x_ld (p := .pointer (some ⟨b_2, 1, none⟩)) (v := I ((b_Years.getD i default).lo)) (gd_of (c := ((b_Years.getD i default).year) == year) hg (.pointer (some ⟨b_2, 1, none⟩))) (ldb_sc Sc3 (H.blk (k := 0) rfl) rfl)) ?_
   refine g_val (((b_Years.getD i default).year) == year) (gy_t rfl) (fun hg => x_fa (a := .pointer (some ⟨b_2, 0, none⟩)) (v := .pointer (some ⟨b_2, 1, none⟩)) rfl (fa_blk (o := 0) Fd127_1 Sz35)) ?_
   refine g_val (((b_Years.getD i default).year) == year) (gy_t rfl) (fun hg => x_fa (a := .pointer (some ⟨b_2, 1, none⟩)) (v := .pointer (some ⟨b_2, 2, none⟩)) (gd_of (c := ((b_Years.getD i default).year) == year) hg (.pointer (some ⟨b_2, 1, none⟩))) (fa_blk (o := 1) Fd35_1 Sz3)) ?_
   refine g_val (((b_Years.getD i default).year) == year) (gy_t rfl) (fun hg => x_ld (p := .pointer (some ⟨b_2, 2, none⟩)) (v := I ((b_Years.getD i default).hi)) (gd_of (c := ((b_Years.getD i default).year) == year) hg (.pointer (some ⟨b_2, 2, none⟩))) (ldb_sc Sc3 (H.blk (k := 0) rfl) rfl)) ?_
   obtain ⟨r2, hx17z, hM⟩ := M.e_bind hM
   refine t_gcall (((b_Years.getD i default).year) == year) (gy_t rfl) cf67 (B r2) (fun _ => [I stage, I ((b_Years.getD i default).lo), I ((b_Years.getD i default).hi)]) (fun hg => lst3 (gd_of (c := ((b_Years.getD i default).year) == year) hg (I stage)) (gd_of (c := ((b_Years.getD i default).year) == year) hg (I ((b_Years.getD i default).lo))) (gd_of (c := ((b_Years.getD i default).year) == year) hg (I ((b_Years.getD i default).hi)))) H (fun hg => (nilometerref10_outside_ok stage ((b_Years.getD i default).lo) ((b_Years.getD i default).hi) (M.e_opt hx17z hg) _ (H.give (A := []) rfl)).mono fun v_ w_ ⟨y_, hr_, hv_, H_⟩ => by subst hr_; exact ⟨hv_, H.via H_⟩) ?_
   intro w18z H
   refine s_val (x_pand (b := ((b_Years.getD i default).year) == year) (r := r2) rfl (fun hb => gd_of (c := ((b_Years.getD i default).year) == year) (by first | exact hb | (rw [hb]; rfl) | simp_all) (B r2)) rfl) ?_
   refine s_nil ?_
   refine W.cond ((((b_Years.getD i default).year) == year) && r2) rfl (fun c19z => ?_) (fun c19z => ?_)
   ·replace hM := M.e_t hM c19z
    refine W.seq ?_
    refine W.region rfl ?_
    refine s_val (x_as (v := B false) rfl) ?_
    refine s_nil ?_
    refine W.ret ?_
    have hX20z := M.e_inr hM hN11z
    subst hX20z
    replace hM := hk4z
    try dsimp only at hM
    have hr_ := M.e_pure hM
    exact ⟨_, resE_tmp rfl, ⟨false, hr_, rfl, (H.pick [] (by decide) rfl)⟩⟩
   ·replace hM := M.e_f hM c19z
    refine W.skip ?_
    refine W.region rfl ?_
    refine s_val (x_mv (v := I (i : Int)) rfl) ?_
    refine s_val (x_ari (a := (i : Int)) (b := 1) (r := (i : Int) + 1) rfl rfl rfl (by omega)) ?_
    refine s_val (x_as (v := I ((i : Int) + 1)) rfl) ?_
    refine s_nil ?_
    exact ⟨m8z, lt9z, i + 1, _, upds_of _ _ ⟨rfl, rfl, rfl, rfl, trivial⟩, M.e_inl hM hN11z, (H.pick [1] (by decide) rfl)⟩
  ·replace hM := M.e_f hM c13z
   simp only [decide_eq_true_eq, decide_eq_false_iff_not, beq_iff_eq, bne_iff_ne, beq_eq_false_iff_ne, bne_eq_false_iff_eq, ne_eq, Decidable.not_not] at c13z
   refine W.exit ?_
   have hX21z := M.e_inr hM hN11z
   subst hX21z
   replace hM := hk4z
   try dsimp only at hM
   refine W.seq ?_
   refine W.seq ?_
   refine W.region rfl ?_
   refine s_val (x_as (v := I 0) rfl) ?_
   refine s_nil ?_
   refine W.block ?_
   obtain ⟨ex22z, hi23z, hk24z⟩ := M.e_bind hM
   obtain ⟨m0_, hi23z⟩ := M.e_iter hi23z
   refine W.loop (fun m σ W => ∃ (i2 : Nat) (ρ : Env), σ = upds ρ [(1, I year), (2, I stage), (3, .pointer (some ⟨b_1, 0, none⟩)), (9, I (i2 : Int))] /\ M.iterN (m_nilometerref10_can_b3 b_Olds year stage) m i2 = some ex22z /\ St w W [cBlk b_1 [v_b_Years, v_b_Olds, I b_First, I b_Last] 55] R) ?_ ?_
   ·exact ⟨_, 0, _, upds_of _ _ ⟨rfl, rfl, rfl, rfl, trivial⟩, hi23z, H⟩
   ·rintro m27z σ w25z ⟨i2, ρ, rfl, hI26z, H⟩
    obtain ⟨m28z, lt29z, x30z, hM, hN31z⟩ := M.e_iterN hI26z
    simp only [m_nilometerref10_can_b3] at hM
    clear hI26z
    refine W.seq ?_
    refine W.seq ?_
    refine W.region rfl ?_
    refine s_val (x_mv (v := I (i2 : Int)) rfl) ?_
    refine s_val (x_fa (a := .pointer (some ⟨b_1, 0, none⟩)) (v := .pointer (some ⟨b_1, 1, none⟩)) rfl (fa_blk (o := 0) Fd55_1 Sz53)) ?_
    refine s_val (x_ld (p := .pointer (some ⟨b_1, 1, none⟩)) (v := v_b_Olds) rfl (ldb_sc Sc53 (H.blk (k := 0) rfl) rfl)) ?_
    have hl32z := (hs_b_Olds).len_le
    refine s_val (x_lenS T53.und rfl hs_b_Olds) ?_
    refine s_val (x_cmp (kd := .i64) (a := (i2 : Int)) (b := (b_Olds.length : Int)) (r := decide ((i2 : Int) < (b_Olds.length : Int))) rfl rfl rfl) ?_
    refine s_nil ?_
    refine W.cond (decide ((i2 : Int) < (b_Olds.length : Int))) rfl (fun c33z => ?_) (fun c33z => ?_)
    ·replace hM := M.e_t hM c33z
     simp only [decide_eq_true_eq, decide_eq_false_iff_not, beq_iff_eq, bne_iff_ne, beq_eq_false_iff_ne, bne_eq_false_iff_eq, ne_eq, Decidable.not_not] at c33z
     refine W.skip ?_
     refine W.seq ?_
     refine W.block ?_
     refine W.seq ?_
     refine W.region rfl ?_
     refine s_val (x_fa (a := .pointer (some ⟨b_1, 0, none⟩)) (v := .pointer (some ⟨b_1, 1, none⟩)) rfl (fa_blk (o := 0) Fd55_1 Sz53)) ?_
     refine s_val (x_ld (p := .pointer (some ⟨b_1, 1, none⟩)) (v := v_b_Olds) rfl (ldb_sc Sc53 (H.blk (k := 0) rfl) rfl)) ?_
     refine s_val (x_mv (v := I (i2 : Int)) rfl) ?_
     obtain ⟨sd34z, hM⟩ := M.e_grd hM
     simp only [Bool.and_eq_true, decide_eq_true_eq] at sd34z
     refine s_val (x_ix (a := v_b_Olds) (b := I (i2 : Int)) (v := vat v_b_Olds 4 (Int.toNat (i2 : Int))) rfl rfl (Sl.ix (α := Old10) T53.und T53.size hs_b_Olds (by omega) (by omega))) ?_
     obtain ⟨u35z, ha37z, hs36z⟩ := Old10_atA hs_b_Olds (i := (i2 : Int)) (by omega) (by omega)
     replace hs36z : Sl _ u35z (b_Olds.getD i2 default).passed := hs36z
     have hl_hs36z := hs36z.len_le
     refine s_val (x_ld (p := vat v_b_Olds 4 (Int.toNat (i2 : Int))) (v := .agg #[I ((b_Olds.getD i2 default).src), I ((b_Olds.getD i2 default).dst), I ((b_Olds.getD i2 default).stage), u35z]) rfl (ld_ag Ag128 Sz128 (At.mono ha37z (hC_b_Olds.at H)))) ?_
     refine t_alloc (cs := [I 0, I 0, I 0, .slice none 0 0]) H Al128 rfl ?_
     intro b_3 w38z H
     refine t_st (k := 0) (b := b_3) (off := 0) (cs := [I 0, I 0, I 0, .slice none 0 0]) (vs := [I ((b_Olds.getD i2 default).src), I ((b_Olds.getD i2 default).dst), I ((b_Olds.getD i2 default).stage), u35z]) (cs' := [I ((b_Olds.getD i2 default).src), I ((b_Olds.getD i2 default).dst), I ((b_Olds.getD i2 default).stage), u35z]) (v := .agg #[I ((b_Olds.getD i2 default).src), I ((b_Olds.getD i2 default).dst), I ((b_Olds.getD i2 default).stage), u35z]) (L' := [cBlk b_3 [I ((b_Olds.getD i2 default).src), I ((b_Olds.getD i2 default).dst), I ((b_Olds.getD i2 default).stage), u35z] 128, cBlk b_1 [v_b_Years, v_b_Olds, I b_First, I b_Last] 55]) H rfl rfl rfl Sz128 rfl rfl rfl (by simp only [List.all_cons, List.all_nil, Bool.true_and, Bool.and_true, Sl.oc hs36z]; try rfl) rfl rfl ?_
     intro w39z H
     refine s_nil ?_
     refine W.seq ?_
     refine W.seq ?_
     refine W.region rfl ?_
     refine s_val (x_mv (v := I year) rfl) ?_
     refine s_val (x_fa (a := .pointer (some ⟨b_3, 0, none⟩)) (v := .pointer (some ⟨b_3, 0, none⟩)) rfl (fa_blk (o := 0) Fd128_0 Sz3)) ?_
     refine s_val (x_ld (p := .pointer (some ⟨b_3, 0, none⟩)) (v := I ((b_Olds.getD i2 default).src)) rfl (ldb_sc Sc3 (H.blk (k := 0) rfl) rfl)) ?_
     refine s_val (x_fa (a := .pointer (some ⟨b_3, 0, none⟩)) (v := .pointer (some ⟨b_3, 1, none⟩)) rfl (fa_blk (o := 0) Fd128_1 Sz3)) ?_
     refine s_val (x_ld (p := .pointer (some ⟨b_3, 1, none⟩)) (v := I ((b_Olds.getD i2 default).dst)) rfl (ldb_sc Sc3 (H.blk (k := 0) rfl) rfl)) ?_
     obtain ⟨r41z, hx40z, hM⟩ := M.e_bind hM
     refine s_call cf67 [I year, I ((b_Olds.getD i2 default).src), I ((b_Olds.getD i2 default).dst)] rfl (nilometerref10_outside_ok year ((b_Olds.getD i2 default).src) ((b_Olds.getD i2 default).dst) hx40z _ (St.give (T := [cBlk b_3 [I ((b_Olds.getD i2 default).src), I ((b_Olds.getD i2 default).dst), I ((b_Olds.getD i2 default).stage), u35z] 128, cBlk b_1 [v_b_Years, v_b_Olds, I b_First, I b_Last] 55]) H rfl)) ?_
     rintro vq w42z ⟨r3, hr43z, hvq, H2_⟩
     subst hr43z
     subst vq
     try dsimp only at hM
     replace H : St w w42z [cBlk b_3 [I ((b_Olds.getD i2 default).src), I ((b_Olds.getD i2 default).dst), I ((b_Olds.getD i2 default).stage), u35z] 128, cBlk b_1 [v_b_Years, v_b_Olds, I b_First, I b_Last] 55] R := H.back H2_ rfl
     clear H2_
     refine s_nil ?_
     refine W.cond r3 rfl (fun c44z => ?_) (fun c44z => ?_)
     ·replace hM := M.e_t hM c44z
      refine W.exit ?_
      refine W.region rfl ?_
      refine s_val (x_mv (v := I (i2 : Int)) rfl) ?_
      refine s_val (x_ari (a := (i2 : Int)) (b := 1) (r := (i2 : Int) + 1) rfl rfl rfl (by omega)) ?_
      refine s_val (x_as (v := I ((i2 : Int) + 1)) rfl) ?_
      refine s_nil ?_
      exact ⟨m28z, lt29z, i2 + 1, _, upds_of _ _ ⟨rfl, rfl, rfl, rfl, trivial⟩, M.e_inl hM hN31z, (H.pick [1] (by decide) rfl)⟩
     ·replace hM := M.e_f hM c44z
      refine W.skip ?_
      refine W.seq ?_
      refine W.region rfl ?_
      refine s_val (x_as (v := B false) rfl) ?_
      refine s_nil ?_
      refine W.seq ?_
      refine W.seq ?_
      refine W.region rfl ?_
      refine s_val (x_as (v := I 0) rfl) ?_
      refine s_nil ?_
      refine W.block ?_
      obtain ⟨ex45z, hi46z, hk47z⟩ := M.e_bind hM
      obtain ⟨m0_, hi46z⟩ := M.e_iter hi46z
      refine W.loop (fun m σ W => ∃ (said : Bool) (k : Nat) (ρ : Env), σ = upds ρ [(1, I year), (2, I stage), (3, .pointer (some ⟨b_1, 0, none⟩)), (9, I (i2 : Int)), (10, .pointer (some ⟨b_3, 0, none⟩)), (11, B said), (12, I (k : Int))] /\ M.iterN (m_nilometerref10_can_b2 b_Olds year i2) m (said, k) = some ex45z /\ St w W [cBlk b_3 [I ((b_Olds.getD i2 default).src), I ((b_Olds.getD i2 default).dst), I ((b_Olds.getD i2 default).stage), u35z] 128, cBlk b_1 [v_b_Years, v_b_Olds, I b_First, I b_Last] 55] R) ?_ ?_
      ·exact ⟨_, false, 0, _, upds_of _ _ ⟨rfl, rfl, rfl, rfl, rfl, rfl, rfl, trivial⟩, hi46z, H⟩
      ·rintro m50z σ w48z ⟨said, k, ρ, rfl, hI49z, H⟩
       obtain ⟨m51z, lt52z, x53z, hM, hN54z⟩ := M.e_iterN hI49z
       simp only [m_nilometerref10_can_b2] at hM
       clear hI49z
       refine W.seq ?_
       refine W.seq ?_
       refine W.region rfl ?_
       refine s_val (x_mv (v := I (k : Int)) rfl) ?_
       refine s_val (x_fa (a := .pointer (some ⟨b_3, 0, none⟩)) (v := .pointer (some ⟨b_3, 3, none⟩)) rfl (fa_blk (o := 0) Fd128_3 Sz27)) ?_
       refine s_val (x_ld (p := .pointer (some ⟨b_3, 3, none⟩)) (v := u35z) rfl (ldb_sc Sc27 (H.blk (k := 0) rfl) rfl)) ?_
       have hl55z := (hs36z).len_le
       refine s_val (x_lenS T27.und rfl hs36z) ?_
       refine s_val (x_cmp (kd := .i64) (a := (k : Int)) (b := (((b_Olds.getD i2 default).passed).length : Int)) (r := decide ((k : Int) < (((b_Olds.getD i2 default).passed).length : Int))) rfl rfl rfl) ?_
       refine s_nil ?_
       refine W.cond (decide ((k : Int) < (((b_Olds.getD i2 default).passed).length : Int))) rfl (fun c56z => ?_) (fun c56z => ?_)
       ·replace hM := M.e_t hM c56z
        simp only [decide_eq_true_eq, decide_eq_false_iff_not, beq_iff_eq, bne_iff_ne, beq_eq_false_iff_ne, bne_eq_false_iff_eq, ne_eq, Decidable.not_not] at c56z
        refine W.skip ?_
        refine W.seq ?_
        refine W.block ?_
        refine W.region rfl ?_
        refine s_val (x_mv (v := B said) rfl) ?_
        refine s_val (x_mv (v := B said) rfl) ?_
        refine g_val (!said) (gy_f rfl) (fun hg => x_fa (a := .pointer (some ⟨b_3, 0, none⟩)) (v := .pointer (some ⟨b_3, 3, none⟩)) rfl (fa_blk (o := 0) Fd128_3 Sz27)) ?_
        refine g_val (!said) (gy_f rfl) (fun hg => x_ld (p := .pointer (some ⟨b_3, 3, none⟩)) (v := u35z) (gd_of (c := !said) hg (.pointer (some ⟨b_3, 3, none⟩))) (ldb_sc Sc27 (H.blk (k := 0) rfl) rfl)) ?_
        refine g_val (!said) (gy_f rfl) (fun hg => x_mv (v := I (k : Int)) rfl) ?_
        obtain ⟨sd57z, hM⟩ := M.e_grd hM
        replace sd57z := M.imp_of sd57z
        simp only [Bool.and_eq_true, decide_eq_true_eq] at sd57z
        refine g_val (!said) (gy_f rfl) (fun hg => x_ix (a := u35z) (b := I (k : Int)) (v := vat u35z 1 (Int.toNat (k : Int))) (gd_of (c := !said) hg (u35z)) (gd_of (c := !said) hg (I (k : Int))) (Sl.ix (α := Int) T27.und T27.size hs36z (by have h1_ := sd57z.resolve_left (by rw [hg]; decide); first | exact h1_ | exact h1_.1 | exact h1_.2 | omega | (have hx_ := hg; simp at hx_; omega)) (by have h1_ := sd57z.resolve_left (by rw [hg]; decide); first | exact h1_ | exact h1_.1 | exact h1_.2 | omega | (have hx_ := hg; simp at hx_; omega)))) ?_
        refine g_val (!said) (gy_f rfl) (fun hg => x_ld (p := vat u35z 1 (Int.toNat (k : Int))) (v := I (((b_Olds.getD i2 default).passed).getD k 0)) (gd_of (c := !said) hg (vat u35z 1 (Int.toNat (k : Int)))) (ld_sc Sc3 (At.mono (Int_at hs36z (i := (k : Int)) (by have h1_ := sd57z.resolve_left (by rw [hg]; decide); first | exact h1_ | exact h1_.1 | exact h1_.2 | omega | (have hx_ := hg; simp at hx_; omega)) (by have h1_ := sd57z.resolve_left (by rw [hg]; decide); first | exact h1_ | exact h1_.1 | exact h1_.2 | omega | (have hx_ := hg; simp at hx_; omega))) (hC_b_Olds.at H)))) ?_
        refine g_val (!said) (gy_f rfl) (fun hg => x_mv (v := I year) rfl) ?_
        refine g_val (!said) (gy_f rfl) (fun hg => x_cmp (kd := .i64) (a := ((b_Olds.getD i2 default).passed).getD k 0) (b := year) (r := (((b_Olds.getD i2 default).passed).getD k 0) == year) (gd_of (c := !said) hg (I (((b_Olds.getD i2 default).passed).getD k 0))) (gd_of (c := !said) hg (I year)) rfl) ?_
        refine s_val (x_por (b := said) (r := (((b_Olds.getD i2 default).passed).getD k 0) == year) rfl rfl (fun hb => gd_of (c := !said) (by first | exact hb | (rw [hb]; rfl) | simp_all) (B ((((b_Olds.getD i2 default).passed).getD k 0) == year)))) ?_
        refine s_val (x_as (v := B (said || ((((b_Olds.getD i2 default).passed).getD k 0) == year))) rfl) ?_
        refine s_nil ?_
        refine W.region rfl ?_
        refine s_val (x_mv (v := I (k : Int)) rfl) ?_
        refine s_val (x_ari (a := (k : Int)) (b := 1) (r := (k : Int) + 1) rfl rfl rfl (by omega)) ?_
        refine s_val (x_as (v := I ((k : Int) + 1)) rfl) ?_
        refine s_nil ?_
        exact ⟨m51z, lt52z, (said || ((((b_Olds.getD i2 default).passed).getD k 0) == year)), k + 1, _, upds_of _ _ ⟨rfl, rfl, rfl, rfl, rfl, rfl, rfl, trivial⟩, M.e_inl hM hN54z, H⟩
       ·replace hM := M.e_f hM c56z
        simp only [decide_eq_true_eq, decide_eq_false_iff_not, beq_iff_eq, bne_iff_ne, beq_eq_false_iff_ne, bne_eq_false_iff_eq, ne_eq, Decidable.not_not] at c56z
        refine W.exit ?_
        have hX58z := M.e_inr hM hN54z
        subst hX58z
        replace hM := hk47z
        try dsimp only at hM
        refine W.seq ?_
        refine W.region rfl ?_
        refine s_val (x_mv (v := B said) rfl) ?_
        refine s_val (x_mv (v := I stage) rfl) ?_
        refine s_val (x_fa (a := .pointer (some ⟨b_3, 0, none⟩)) (v := .pointer (some ⟨b_3, 2, none⟩)) rfl (fa_blk (o := 0) Fd128_2 Sz3)) ?_
        refine s_val (x_ld (p := .pointer (some ⟨b_3, 2, none⟩)) (v := I ((b_Olds.getD i2 default).stage)) rfl (ldb_sc Sc3 (H.blk (k := 0) rfl) rfl)) ?_
        refine s_val (x_cmp (kd := .i64) (a := stage) (b := (b_Olds.getD i2 default).stage) (r := decide (((b_Olds.getD i2 default).stage) <= stage)) rfl rfl rfl) ?_
        refine s_val (x_eqb (a := said) (b := decide (((b_Olds.getD i2 default).stage) <= stage)) (r := (said != (decide (((b_Olds.getD i2 default).stage) <= stage)))) rfl rfl Try.underlying4 rfl) ?_
        refine s_nil ?_
        refine W.cond (said != (decide (((b_Olds.getD i2 default).stage) <= stage))) rfl (fun c59z => ?_) (fun c59z => ?_)
        ·replace hM := M.e_t hM c59z
         simp only [decide_eq_true_eq, decide_eq_false_iff_not, beq_iff_eq, bne_iff_ne, beq_eq_false_iff_ne, bne_eq_false_iff_eq, ne_eq, Decidable.not_not] at c59z
         refine W.seq ?_
         refine W.region rfl ?_
         refine s_val (x_as (v := B false) rfl) ?_
         refine s_nil ?_
         refine W.ret ?_
         have hX60z := M.e_inr hM hN31z
         subst hX60z
         replace hM := hk24z
         try dsimp only at hM
         have hr_ := M.e_pure hM
         exact ⟨_, resE_tmp rfl, ⟨false, hr_, rfl, (H.pick [] (by decide) rfl)⟩⟩
        ·replace hM := M.e_f hM c59z
         simp only [decide_eq_true_eq, decide_eq_false_iff_not, beq_iff_eq, bne_iff_ne, beq_eq_false_iff_ne, bne_eq_false_iff_eq, ne_eq, Decidable.not_not] at c59z
         refine W.skip ?_
         refine W.region rfl ?_
         refine s_val (x_mv (v := I (i2 : Int)) rfl) ?_
         refine s_val (x_ari (a := (i2 : Int)) (b := 1) (r := (i2 : Int) + 1) rfl rfl rfl (by omega)) ?_
         refine s_val (x_as (v := I ((i2 : Int) + 1)) rfl) ?_
         refine s_nil ?_
         exact ⟨m28z, lt29z, i2 + 1, _, upds_of _ _ ⟨rfl, rfl, rfl, rfl, trivial⟩, M.e_inl hM hN31z, (H.pick [1] (by decide) rfl)⟩
    ·replace hM := M.e_f hM c33z
     simp only [decide_eq_true_eq, decide_eq_false_iff_not, beq_iff_eq, bne_iff_ne, beq_eq_false_iff_ne, bne_eq_false_iff_eq, ne_eq, Decidable.not_not] at c33z
     refine W.exit ?_
     have hX61z := M.e_inr hM hN31z
     subst hX61z
     replace hM := hk24z
     try dsimp only at hM
     refine W.seq ?_
     refine W.region rfl ?_
     refine s_val (x_as (v := B true) rfl) ?_
     refine s_nil ?_
     refine W.ret ?_
     have hr_ := M.e_pure hM
     exact ⟨_, resE_tmp rfl, ⟨true, hr_, rfl, (H.pick [] (by decide) rfl)⟩⟩

def m_nilometerref10_Holds_b0 (stages : List Int) : Nat -> M (Nat ⊕ (Unit ⊕ Unit)) := fun i =>
  bif decide ((i : Int) < (stages.length : Int)) then (
  M.grd (decide ((i : Int) < (stages.length : Int))) <|
  M.bind (m_nilometerref10_outside (stages.getD i 0) 0 2000) fun r3 =>
  bif r3 then (
  M.pure (.inr (.inl ())))
  else (
  M.pure (.inl (i + 1))))
  else (
  M.pure (.inr (.inr ())))
def m_nilometerref10_Holds_b1 (b_Years : List Yr) (b_Olds : List Old10) (b_First : Int) (b_Last : Int) (stages : List Int) : Nat -> M (Nat ⊕ (Unit ⊕ Unit)) := fun i2 =>
  bif decide ((i2 : Int) < (stages.length : Int)) then (
  M.grd (decide ((-9223372036854775808 : Int) <= (b_First + (i2 : Int))) && decide ((b_First + (i2 : Int)) <= (9223372036854775807 : Int))) <|
  M.grd (decide ((i2 : Int) < (stages.length : Int))) <|
  M.bind (m_nilometerref10_can b_Years b_Olds b_First b_Last (b_First + (i2 : Int)) (stages.getD i2 0)) fun r4 =>
  bif !r4 then (
  M.pure (.inr (.inl ())))
  else (
  M.pure (.inl (i2 + 1))))
  else (
  M.pure (.inr (.inr ())))
def m_nilometerref10_Holds (b_Years : List Yr) (b_Olds : List Old10) (b_First : Int) (b_Last : Int) (stages : List Int) : M (Bool × Int) :=
  M.bind (m_nilometerref10_Check b_Years b_Olds b_First b_Last) fun r2 =>
  bif r2 != 0 then (
  M.pure (false, r2))
  else (
  M.grd (decide ((-9223372036854775808 : Int) <= (b_Last - b_First)) && decide ((b_Last - b_First) <= (9223372036854775807 : Int))) <|
  M.grd (decide ((-9223372036854775808 : Int) <= ((b_Last - b_First) + 1)) && decide (((b_Last - b_First) + 1) <= (9223372036854775807 : Int))) <|
  bif (stages.length : Int) != ((b_Last - b_First) + 1) then (
  M.pure (false, 2))
  else (
  M.bind (M.iter (m_nilometerref10_Holds_b0 stages) 0) fun x_ => match x_ with
  | (.inl (_ : Unit)) => (
  M.pure (false, 4))
  | (.inr (_ : Unit)) => (
  M.bind (M.iter (m_nilometerref10_Holds_b1 b_Years b_Olds b_First b_Last stages) 0) fun x_ => match x_ with
  | (.inl (_ : Unit)) => (
  M.pure (false, 0))
  | (.inr (_ : Unit)) => (
  M.pure (true, 0)))))
set_option maxRecDepth 100000 in
set_option maxHeartbeats 16000000 in
theorem nilometerref10_Holds_ok {R : List Chunk} {C_b_Years : Cells} {v_b_Years : Value} {C_b_Olds : Cells} {v_b_Olds : Value} {C_stages : Cells} {v_stages : Value} (b_Years : List Yr) (b_Olds : List Old10) (b_First : Int) (b_Last : Int) (stages : List Int) (hC_b_Years : Reads R C_b_Years) (hs_b_Years : Sl C_b_Years v_b_Years b_Years) (hC_b_Olds : Reads R C_b_Olds) (hs_b_Olds : Sl C_b_Olds v_b_Olds b_Olds) (hC_stages : Reads R C_stages) (hs_stages : Sl C_stages v_stages stages) {r : (Bool × Int)} (hM : (m_nilometerref10_Holds b_Years b_Olds b_First b_Last stages).Ends r) (w : World) (H : St w w [] R) : Ret Try.prog 25 #[.agg #[v_b_Years, v_b_Olds, I b_First, I b_Last], v_stages] w fun v w' => ∃ (y0 : Bool) (y1 : Int), (y0, y1) = r /\ v = .tuple #[B y0, I y1] /\ St w w' [] R := by
 refine ret_of_W Try.func25 rfl rfl rfl ?_
 refine W.seq ?_
 refine W.region rfl ?_
 refine t_box (v := .agg #[v_b_Years, v_b_Olds, I b_First, I b_Last]) (cs := [v_b_Years, v_b_Olds, I b_First, I b_Last]) H rfl rfl ?_
 intro b_1 w1z H
 refine s_val (x_as (v := B false) rfl) ?_
 refine s_val (x_as (v := I 0) rfl) ?_
 refine s_nil ?_
 refine W.seq ?_
 refine W.seq ?_
 refine W.region rfl ?_
 refine s_val (x_ld (p := .pointer (some ⟨b_1, 0, none⟩)) (v := .agg #[v_b_Years, v_b_Olds, I b_First, I b_Last]) rfl (ldb_ag (ds := [v_b_Years, v_b_Olds, I b_First, I b_Last]) Ag55 Sz55 (H.blk (k := 0) rfl) rfl rfl)) ?_
 obtain ⟨r3z, hx2z, hM⟩ := M.e_bind hM
 refine s_call cf48 [.agg #[v_b_Years, v_b_Olds, I b_First, I b_Last]] rfl (nilometerref10_Check_ok b_Years b_Olds b_First b_Last (hC_b_Years.app _) hs_b_Years (hC_b_Olds.app _) hs_b_Olds hx2z _ (St.give (T := [cBlk b_1 [v_b_Years, v_b_Olds, I b_First, I b_Last] 55]) H rfl)) ?_
 rintro vq w4z ⟨r2, hr5z, hvq, H2_⟩
 subst hr5z
 subst vq
 try dsimp only at hM
 replace H : St w w4z [cBlk b_1 [v_b_Years, v_b_Olds, I b_First, I b_Last] 55] R := H.back H2_ rfl
 clear H2_
 refine s_val (x_as (v := I r2) rfl) ?_
 refine s_nil ?_
 refine W.seq ?_
 refine W.region rfl ?_
 refine s_val (x_mv (v := I r2) rfl) ?_
 refine s_val (x_cmp (kd := .i64) (a := r2) (b := 0) (r := r2 != 0) rfl rfl rfl) ?_
 refine s_nil ?_
 refine W.cond (r2 != 0) rfl (fun c6z => ?_) (fun c6z => ?_)
 ·replace hM := M.e_t hM c6z
  simp only [decide_eq_true_eq, decide_eq_false_iff_not, beq_iff_eq, bne_iff_ne, beq_eq_false_iff_ne, bne_eq_false_iff_eq, ne_eq, Decidable.not_not] at c6z
  refine W.seq ?_
  refine W.region rfl ?_
  refine s_val (x_mv (v := I r2) rfl) ?_
  refine s_val (x_as (v := B false) rfl) ?_
  refine s_val (x_as (v := I r2) rfl) ?_
  refine s_nil ?_
  refine W.ret ?_
  have hr_ := M.e_pure hM
  exact ⟨_, resE_tmp2 rfl, ⟨false, r2, hr_, rfl, (H.pick [] (by decide) rfl)⟩⟩
 ·replace hM := M.e_f hM c6z
  simp only [decide_eq_true_eq, decide_eq_false_iff_not, beq_iff_eq, bne_iff_ne, beq_eq_false_iff_ne, bne_eq_false_iff_eq, ne_eq, Decidable.not_not] at c6z
  refine W.skip ?_
  refine W.seq ?_
  refine W.seq ?_
  refine W.region rfl ?_
  refine s_val (x_mv (v := v_stages) rfl) ?_
  have hl7z := (hs_stages).len_le
  refine s_val (x_lenS T27.und rfl hs_stages) ?_
  refine s_val (x_fa (a := .pointer (some ⟨b_1, 0, none⟩)) (v := .pointer (some ⟨b_1, 3, none⟩)) rfl (fa_blk (o := 0) Fd55_3 Sz3)) ?_
  refine s_val (x_ld (p := .pointer (some ⟨b_1, 3, none⟩)) (v := I b_Last) rfl (ldb_sc Sc3 (H.blk (k := 0) rfl) rfl)) ?_
  refine s_val (x_fa (a := .pointer (some ⟨b_1, 0, none⟩)) (v := .pointer (some ⟨b_1, 2, none⟩)) rfl (fa_blk (o := 0) Fd55_2 Sz3)) ?_
  refine s_val (x_ld (p := .pointer (some ⟨b_1, 2, none⟩)) (v := I b_First) rfl (ldb_sc Sc3 (H.blk (k := 0) rfl) rfl)) ?_
  obtain ⟨sd8z, hM⟩ := M.e_grd hM
  simp only [Bool.and_eq_true, decide_eq_true_eq] at sd8z
  refine s_val (x_ari (a := b_Last) (b := b_First) (r := b_Last - b_First) rfl rfl rfl (by omega)) ?_
  obtain ⟨sd9z, hM⟩ := M.e_grd hM
  simp only [Bool.and_eq_true, decide_eq_true_eq] at sd9z
  refine s_val (x_ari (a := b_Last - b_First) (b := 1) (r := (b_Last - b_First) + 1) rfl rfl rfl (by omega)) ?_
  refine s_val (x_cmp (kd := .i64) (a := (stages.length : Int)) (b := (b_Last - b_First) + 1) (r := (stages.length : Int) != ((b_Last - b_First) + 1)) rfl rfl rfl) ?_
  refine s_nil ?_
  refine W.cond ((stages.length : Int) != ((b_Last - b_First) + 1)) rfl (fun c10z => ?_) (fun c10z => ?_)
  ·replace hM := M.e_t hM c10z
   simp only [decide_eq_true_eq, decide_eq_false_iff_not, beq_iff_eq, bne_iff_ne, beq_eq_false_iff_ne, bne_eq_false_iff_eq, ne_eq, Decidable.not_not] at c10z
   refine W.seq ?_
   refine W.region rfl ?_
   refine s_val (x_as (v := B false) rfl) ?_
   refine s_val (x_as (v := I 2) rfl) ?_
   refine s_nil ?_
   refine W.ret ?_
   have hr_ := M.e_pure hM
   exact ⟨_, resE_tmp2 rfl, ⟨false, 2, hr_, rfl, (H.pick [] (by decide) rfl)⟩⟩
  ·replace hM := M.e_f hM c10z
   simp only [decide_eq_true_eq, decide_eq_false_iff_not, beq_iff_eq, bne_iff_ne, beq_eq_false_iff_ne, bne_eq_false_iff_eq, ne_eq, Decidable.not_not] at c10z
   refine W.skip ?_
   refine W.seq ?_
   refine W.seq ?_
   refine W.region rfl ?_
   refine s_val (x_as (v := I 0) rfl) ?_
   refine s_nil ?_
   refine W.block ?_
   obtain ⟨ex11z, hi12z, hk13z⟩ := M.e_bind hM
   obtain ⟨m0_, hi12z⟩ := M.e_iter hi12z
   refine W.loop (fun m σ W => ∃ (i : Nat) (ρ : Env), σ = upds ρ [(1, v_stages), (2, .pointer (some ⟨b_1, 0, none⟩)), (7, I (i : Int))] /\ M.iterN (m_nilometerref10_Holds_b0 stages) m i = some ex11z /\ St w W [cBlk b_1 [v_b_Years, v_b_Olds, I b_First, I b_Last] 55] R) ?_ ?_
   ·exact ⟨_, 0, _, upds_of _ _ ⟨rfl, rfl, rfl, trivial⟩, hi12z, H⟩
   ·rintro m16z σ w14z ⟨i, ρ, rfl, hI15z, H⟩
    obtain ⟨m17z, lt18z, x19z, hM, hN20z⟩ := M.e_iterN hI15z
    simp only [m_nilometerref10_Holds_b0] at hM
    clear hI15z
    refine W.seq ?_
    refine W.seq ?_
    refine W.region rfl ?_
    refine s_val (x_mv (v := I (i : Int)) rfl) ?_
    refine s_val (x_mv (v := v_stages) rfl) ?_
    have hl21z := (hs_stages).len_le
    refine s_val (x_lenS T27.und rfl hs_stages) ?_
    refine s_val (x_cmp (kd := .i64) (a := (i : Int)) (b := (stages.length : Int)) (r := decide ((i : Int) < (stages.length : Int))) rfl rfl rfl) ?_
    refine s_nil ?_
    refine W.cond (decide ((i : Int) < (stages.length : Int))) rfl (fun c22z => ?_) (fun c22z => ?_)
    ·replace hM := M.e_t hM c22z
     simp only [decide_eq_true_eq, decide_eq_false_iff_not, beq_iff_eq, bne_iff_ne, beq_eq_false_iff_ne, bne_eq_false_iff_eq, ne_eq, Decidable.not_not] at c22z
     refine W.skip ?_
     refine W.seq ?_
     refine W.block ?_
     refine W.seq ?_
     refine W.region rfl ?_
     refine s_val (x_mv (v := v_stages) rfl) ?_
     refine s_val (x_mv (v := I (i : Int)) rfl) ?_
     obtain ⟨sd23z, hM⟩ := M.e_grd hM
     simp only [Bool.and_eq_true, decide_eq_true_eq] at sd23z
     refine s_val (x_ix (a := v_stages) (b := I (i : Int)) (v := vat v_stages 1 (Int.toNat (i : Int))) rfl rfl (Sl.ix (α := Int) T27.und T27.size hs_stages (by omega) (by omega))) ?_
     refine s_val (x_ld (p := vat v_stages 1 (Int.toNat (i : Int))) (v := I (stages.getD i 0)) rfl (ld_sc Sc3 (At.mono (Int_at hs_stages (i := (i : Int)) (by omega) (by omega)) (hC_stages.at H)))) ?_
     obtain ⟨r25z, hx24z, hM⟩ := M.e_bind hM
     refine s_call cf67 [I (stages.getD i 0), I 0, I 2000] rfl (nilometerref10_outside_ok (stages.getD i 0) 0 2000 hx24z _ (St.give (T := [cBlk b_1 [v_b_Years, v_b_Olds, I b_First, I b_Last] 55]) H rfl)) ?_
     rintro vq w26z ⟨r3, hr27z, hvq, H2_⟩
     subst hr27z
     subst vq
     try dsimp only at hM
     replace H : St w w26z [cBlk b_1 [v_b_Years, v_b_Olds, I b_First, I b_Last] 55] R := H.back H2_ rfl
     clear H2_
     refine s_nil ?_
     refine W.cond r3 rfl (fun c28z => ?_) (fun c28z => ?_)
     ·replace hM := M.e_t hM c28z
      refine W.seq ?_
      refine W.region rfl ?_
      refine s_val (x_as (v := B false) rfl) ?_
      refine s_val (x_as (v := I 4) rfl) ?_
      refine s_nil ?_
      refine W.ret ?_
      have hX29z := M.e_inr hM hN20z
      subst hX29z
      replace hM := hk13z
      try dsimp only at hM
      have hr_ := M.e_pure hM
      exact ⟨_, resE_tmp2 rfl, ⟨false, 4, hr_, rfl, (H.pick [] (by decide) rfl)⟩⟩
     ·replace hM := M.e_f hM c28z
      refine W.skip ?_
      refine W.region rfl ?_
      refine s_val (x_mv (v := I (i : Int)) rfl) ?_
      refine s_val (x_ari (a := (i : Int)) (b := 1) (r := (i : Int) + 1) rfl rfl rfl (by omega)) ?_
      refine s_val (x_as (v := I ((i : Int) + 1)) rfl) ?_
      refine s_nil ?_
      exact ⟨m17z, lt18z, i + 1, _, upds_of _ _ ⟨rfl, rfl, rfl, trivial⟩, M.e_inl hM hN20z, H⟩
    ·replace hM := M.e_f hM c22z
     simp only [decide_eq_true_eq, decide_eq_false_iff_not, beq_iff_eq, bne_iff_ne, beq_eq_false_iff_ne, bne_eq_false_iff_eq, ne_eq, Decidable.not_not] at c22z
     refine W.exit ?_
     have hX30z := M.e_inr hM hN20z
     subst hX30z
     replace hM := hk13z
     try dsimp only at hM
     refine W.seq ?_
     refine W.seq ?_
     refine W.region rfl ?_
     refine s_val (x_as (v := I 0) rfl) ?_
     refine s_nil ?_
     refine W.block ?_
     obtain ⟨ex31z, hi32z, hk33z⟩ := M.e_bind hM
     obtain ⟨m0_, hi32z⟩ := M.e_iter hi32z
     refine W.loop (fun m σ W => ∃ (i2 : Nat) (ρ : Env), σ = upds ρ [(1, v_stages), (2, .pointer (some ⟨b_1, 0, none⟩)), (8, I (i2 : Int))] /\ M.iterN (m_nilometerref10_Holds_b1 b_Years b_Olds b_First b_Last stages) m i2 = some ex31z /\ St w W [cBlk b_1 [v_b_Years, v_b_Olds, I b_First, I b_Last] 55] R) ?_ ?_
     ·exact ⟨_, 0, _, upds_of _ _ ⟨rfl, rfl, rfl, trivial⟩, hi32z, H⟩
     ·rintro m36z σ w34z ⟨i2, ρ, rfl, hI35z, H⟩
      obtain ⟨m37z, lt38z, x39z, hM, hN40z⟩ := M.e_iterN hI35z
      simp only [m_nilometerref10_Holds_b1] at hM
      clear hI35z
      refine W.seq ?_
      refine W.seq ?_
      refine W.region rfl ?_
      refine s_val (x_mv (v := I (i2 : Int)) rfl) ?_
      refine s_val (x_mv (v := v_stages) rfl) ?_
      have hl41z := (hs_stages).len_le
      refine s_val (x_lenS T27.und rfl hs_stages) ?_
      refine s_val (x_cmp (kd := .i64) (a := (i2 : Int)) (b := (stages.length : Int)) (r := decide ((i2 : Int) < (stages.length : Int))) rfl rfl rfl) ?_
      refine s_nil ?_
      refine W.cond (decide ((i2 : Int) < (stages.length : Int))) rfl (fun c42z => ?_) (fun c42z => ?_)
      ·replace hM := M.e_t hM c42z
       simp only [decide_eq_true_eq, decide_eq_false_iff_not, beq_iff_eq, bne_iff_ne, beq_eq_false_iff_ne, bne_eq_false_iff_eq, ne_eq, Decidable.not_not] at c42z
       refine W.skip ?_
       refine W.seq ?_
       refine W.block ?_
       refine W.seq ?_
       refine W.draw (fun W => St w W [cBlk b_1 [v_b_Years, v_b_Olds, I b_First, I b_Last] 55] R) [(0, true), (1, true), (2, true), (3, true), (4, true), (5, true), (6, true), (7, true), (8, true), (9, false), (10, true)] mixed (by decide +kernel) rfl ?_
       intro w43z hx_
       replace H : St w w43z [cBlk b_1 [v_b_Years, v_b_Olds, I b_First, I b_Last] 55] R := H.ext hx_
       clear hx_
       refine ⟨(H.pick [0] (by decide) rfl), ?_⟩
       refine d_q rfl (fun w' H => x_ld (p := .pointer (some ⟨b_1, 0, none⟩)) (v := .agg #[v_b_Years, v_b_Olds, I b_First, I b_Last]) rfl (ldb_ag (ds := [v_b_Years, v_b_Olds, I b_First, I b_Last]) Ag55 Sz55 (H.blk (k := 0) rfl) rfl rfl)) ?_
       refine d_q rfl (fun w' H => x_fa (a := .pointer (some ⟨b_1, 0, none⟩)) (v := .pointer (some ⟨b_1, 2, none⟩)) rfl (fa_blk (o := 0) Fd55_2 Sz3)) ?_
       refine d_q rfl (fun w' H => x_ld (p := .pointer (some ⟨b_1, 2, none⟩)) (v := I b_First) rfl (ldb_sc Sc3 (H.blk (k := 0) rfl) rfl)) ?_
       refine d_q rfl (fun w' H => x_mv (v := I (i2 : Int)) rfl) ?_
       obtain ⟨sd44z, hM⟩ := M.e_grd hM
       simp only [Bool.and_eq_true, decide_eq_true_eq] at sd44z
       refine d_q rfl (fun w' H => x_ari (a := b_First) (b := (i2 : Int)) (r := b_First + (i2 : Int)) rfl rfl rfl (by omega)) ?_
       refine d_q rfl (fun w' H => x_mv (v := v_stages) rfl) ?_
       refine d_q rfl (fun w' H => x_mv (v := I (i2 : Int)) rfl) ?_
       obtain ⟨sd45z, hM⟩ := M.e_grd hM
       simp only [Bool.and_eq_true, decide_eq_true_eq] at sd45z
       refine d_q rfl (fun w' H => x_ix (a := v_stages) (b := I (i2 : Int)) (v := vat v_stages 1 (Int.toNat (i2 : Int))) rfl rfl (Sl.ix (α := Int) T27.und T27.size hs_stages (by omega) (by omega))) ?_
       refine d_q rfl (fun w' H => x_ld (p := vat v_stages 1 (Int.toNat (i2 : Int))) (v := I (stages.getD i2 0)) rfl (ld_sc Sc3 (At.mono (Int_at hs_stages (i := (i2 : Int)) (by omega) (by omega)) (hC_stages.at H)))) ?_
       refine d_l rfl ?_
       obtain ⟨r47z, hx46z, hM⟩ := M.e_bind hM
       refine s_call cf68 [.agg #[v_b_Years, v_b_Olds, I b_First, I b_Last], I (b_First + (i2 : Int)), I (stages.getD i2 0)] rfl (nilometerref10_can_ok b_Years b_Olds b_First b_Last (b_First + (i2 : Int)) (stages.getD i2 0) (hC_b_Years.app _) hs_b_Years (hC_b_Olds.app _) hs_b_Olds hx46z _ (St.give (T := [cBlk b_1 [v_b_Years, v_b_Olds, I b_First, I b_Last] 55]) H rfl)) ?_
       rintro vq w48z ⟨r4, hr49z, hvq, H2_⟩
       subst hr49z
       subst vq
       try dsimp only at hM
       replace H : St w w48z [cBlk b_1 [v_b_Years, v_b_Olds, I b_First, I b_Last] 55] R := H.back H2_ rfl
       clear H2_
       refine s_nil ⟨(H.pick [0] (by decide) rfl), ?_⟩
       refine d_q rfl (fun w' H => x_not (b := r4) rfl) ?_
       refine d_nil ?_
       refine W.cond (!r4) rfl (fun c50z => ?_) (fun c50z => ?_)
       ·replace hM := M.e_t hM c50z
        refine W.seq ?_
        refine W.region rfl ?_
        refine s_val (x_as (v := B false) rfl) ?_
        refine s_val (x_as (v := I 0) rfl) ?_
        refine s_nil ?_
        refine W.ret ?_
        have hX51z := M.e_inr hM hN40z
        subst hX51z
        replace hM := hk33z
        try dsimp only at hM
        have hr_ := M.e_pure hM
        exact ⟨_, resE_tmp2 rfl, ⟨false, 0, hr_, rfl, (H.pick [] (by decide) rfl)⟩⟩
       ·replace hM := M.e_f hM c50z
        refine W.skip ?_
        refine W.region rfl ?_
        refine s_val (x_mv (v := I (i2 : Int)) rfl) ?_
        refine s_val (x_ari (a := (i2 : Int)) (b := 1) (r := (i2 : Int) + 1) rfl rfl rfl (by omega)) ?_
        refine s_val (x_as (v := I ((i2 : Int) + 1)) rfl) ?_
        refine s_nil ?_
        exact ⟨m37z, lt38z, i2 + 1, _, upds_of _ _ ⟨rfl, rfl, rfl, trivial⟩, M.e_inl hM hN40z, H⟩
      ·replace hM := M.e_f hM c42z
       simp only [decide_eq_true_eq, decide_eq_false_iff_not, beq_iff_eq, bne_iff_ne, beq_eq_false_iff_ne, bne_eq_false_iff_eq, ne_eq, Decidable.not_not] at c42z
       refine W.exit ?_
       have hX52z := M.e_inr hM hN40z
       subst hX52z
       replace hM := hk33z
       try dsimp only at hM
       refine W.seq ?_
       refine W.region rfl ?_
       refine s_val (x_as (v := B true) rfl) ?_
       refine s_val (x_as (v := I 0) rfl) ?_
       refine s_nil ?_
       refine W.ret ?_
       have hr_ := M.e_pure hM
       exact ⟨_, resE_tmp2 rfl, ⟨true, 0, hr_, rfl, (H.pick [] (by decide) rfl)⟩⟩

def m_often_Clash (b_Years : List Yr) (b_Olds : List Old10) (b_First : Int) (b_Last : Int) : M (Int × Int) :=
  M.bind (m_often_opened b_Years b_Olds b_First b_Last) fun x_ => match x_ with
  | (.inl r1) => (
  bif r1 != 0 then (
  M.pure (0, r1))
  else (
  M.fail))
  | (.inr (r02, r03, r04, r12)) => (
  bif r12 != 0 then (
  M.fail)
  else (
  M.bind (m_often_shelf_clash b_Years b_Olds r02 r03 r04) fun (r0, r13) =>
  bif !r13 then (
  M.pure (0, 5))
  else (
  M.pure (r0, 0))))
set_option maxRecDepth 100000 in
set_option maxHeartbeats 16000000 in
theorem often_Clash_ok {R : List Chunk} {C_b_Years : Cells} {v_b_Years : Value} {C_b_Olds : Cells} {v_b_Olds : Value} (b_Years : List Yr) (b_Olds : List Old10) (b_First : Int) (b_Last : Int) (hC_b_Years : Reads R C_b_Years) (hs_b_Years : Sl C_b_Years v_b_Years b_Years) (hC_b_Olds : Reads R C_b_Olds) (hs_b_Olds : Sl C_b_Olds v_b_Olds b_Olds) {r : (Int × Int)} (hM : (m_often_Clash b_Years b_Olds b_First b_Last).Ends r) (w : World) (H : St w w [] R) : Ret Try.prog 49 #[.agg #[v_b_Years, v_b_Olds, I b_First, I b_Last]] w fun v w' => ∃ (y0 : Int) (y1 : Int), (y0, y1) = r /\ v = .tuple #[I y0, I y1] /\ St w w' [] R := by
 refine ret_of_W Try.func49 rfl rfl rfl ?_
 refine W.seq ?_
 refine W.region rfl ?_
 refine t_box (v := .agg #[v_b_Years, v_b_Olds, I b_First, I b_Last]) (cs := [v_b_Years, v_b_Olds, I b_First, I b_Last]) H rfl rfl ?_
 intro b_1 w1z H
 refine s_val (x_as (v := I 0) rfl) ?_
 refine s_val (x_as (v := I 0) rfl) ?_
 refine s_nil ?_
 refine W.seq ?_
 refine W.region rfl ?_
 refine s_val (x_ld (p := .pointer (some ⟨b_1, 0, none⟩)) (v := .agg #[v_b_Years, v_b_Olds, I b_First, I b_Last]) rfl (ldb_ag (ds := [v_b_Years, v_b_Olds, I b_First, I b_Last]) Ag26 Sz26 (H.blk (k := 0) rfl) rfl rfl)) ?_
 obtain ⟨r3z, hx2z, hM⟩ := M.e_bind hM
 refine s_call cf62 [.agg #[v_b_Years, v_b_Olds, I b_First, I b_Last]] rfl (often_opened_ok b_Years b_Olds b_First b_Last (hC_b_Years.app _) hs_b_Years (hC_b_Olds.app _) hs_b_Olds hx2z _ (St.give (T := [cBlk b_1 [v_b_Years, v_b_Olds, I b_First, I b_Last] 26]) H rfl)) ?_
 rintro vq w4z (⟨r1, hr5z, hvq, H2_⟩ | ⟨r02, r03, r04, r12, nb0_2, nb1_3, hr6z, hvq, H2_⟩)
 ·subst hr5z
  subst vq
  try dsimp only at hM
  replace H : St w w4z [cBlk b_1 [v_b_Years, v_b_Olds, I b_First, I b_Last] 26] R := H.back H2_ rfl
  clear H2_
  refine s_val (x_mv (v := .tuple #[.pointer none, I r1]) rfl) ?_
  refine s_val (x_ext (vs := [.pointer none, I r1]) (v := .pointer none) rfl rfl) ?_
  refine s_val (x_ext (vs := [.pointer none, I r1]) (v := I r1) rfl rfl) ?_
  refine s_val (x_as (v := .pointer none) rfl) ?_
  refine s_val (x_as (v := I r1) rfl) ?_
  refine s_nil ?_
  refine W.seq ?_
  refine W.seq ?_
  refine W.region rfl ?_
  refine s_val (x_mv (v := I r1) rfl) ?_
  refine s_val (x_cmp (kd := .i64) (a := r1) (b := 0) (r := r1 != 0) rfl rfl rfl) ?_
  refine s_nil ?_
  refine W.cond (r1 != 0) rfl (fun c7z => ?_) (fun c7z => ?_)
  ·replace hM := M.e_t hM c7z
   simp only [decide_eq_true_eq, decide_eq_false_iff_not, beq_iff_eq, bne_iff_ne, beq_eq_false_iff_ne, bne_eq_false_iff_eq, ne_eq, Decidable.not_not] at c7z
   refine W.seq ?_
   refine W.region rfl ?_
   refine s_val (x_mv (v := I r1) rfl) ?_
   refine s_val (x_as (v := I 0) rfl) ?_
   refine s_val (x_as (v := I r1) rfl) ?_
   refine s_nil ?_
   refine W.ret ?_
   have hr_ := M.e_pure hM
   exact ⟨_, resE_tmp2 rfl, ⟨0, r1, hr_, rfl, (H.pick [] (by decide) rfl)⟩⟩
  ·replace hM := M.e_f hM c7z
   exact (M.e_fail hM).elim
 ·subst hr6z
  subst vq
  try dsimp only at hM
  replace H : St w w4z [cBlk nb0_2 [v_b_Years, v_b_Olds, I r02, I r03, .map (some nb1_3)] 126, cMl I encSp nb1_3 r04, cBlk b_1 [v_b_Years, v_b_Olds, I b_First, I b_Last] 26] R := H.back H2_ rfl
  clear H2_
  refine s_val (x_mv (v := .tuple #[.pointer (some ⟨nb0_2, 0, none⟩), I r12]) rfl) ?_
  refine s_val (x_ext (vs := [.pointer (some ⟨nb0_2, 0, none⟩), I r12]) (v := .pointer (some ⟨nb0_2, 0, none⟩)) rfl rfl) ?_
  refine s_val (x_ext (vs := [.pointer (some ⟨nb0_2, 0, none⟩), I r12]) (v := I r12) rfl rfl) ?_
  refine s_val (x_as (v := .pointer (some ⟨nb0_2, 0, none⟩)) rfl) ?_
  refine s_val (x_as (v := I r12) rfl) ?_
  refine s_nil ?_
  refine W.seq ?_
  refine W.seq ?_
  refine W.region rfl ?_
  refine s_val (x_mv (v := I r12) rfl) ?_
  refine s_val (x_cmp (kd := .i64) (a := r12) (b := 0) (r := r12 != 0) rfl rfl rfl) ?_
  refine s_nil ?_
  refine W.cond (r12 != 0) rfl (fun c8z => ?_) (fun c8z => ?_)
  ·replace hM := M.e_t hM c8z
   exact (M.e_fail hM).elim
  ·replace hM := M.e_f hM c8z
   simp only [decide_eq_true_eq, decide_eq_false_iff_not, beq_iff_eq, bne_iff_ne, beq_eq_false_iff_ne, bne_eq_false_iff_eq, ne_eq, Decidable.not_not] at c8z
   refine W.skip ?_
   refine W.seq ?_
   refine W.region rfl ?_
   refine s_val (x_mv (v := .pointer (some ⟨nb0_2, 0, none⟩)) rfl) ?_
   obtain ⟨r10z, hx9z, hM⟩ := M.e_bind hM
   refine s_call cf64 [.pointer (some ⟨nb0_2, 0, none⟩)] rfl (often_shelf_clash_ok b_Years b_Olds r02 r03 r04 (hC_b_Years.app _) hs_b_Years (hC_b_Olds.app _) hs_b_Olds (Has.here (k := 1) rfl) (Has.here (k := 0) rfl) hx9z _ (St.give (T := [cBlk nb0_2 [v_b_Years, v_b_Olds, I r02, I r03, .map (some nb1_3)] 126, cMl I encSp nb1_3 r04, cBlk b_1 [v_b_Years, v_b_Olds, I b_First, I b_Last] 26]) H rfl)) ?_
   rintro vq w11z ⟨r0, r13, hr12z, hvq, H2_⟩
   subst hr12z
   subst vq
   try dsimp only at hM
   replace H : St w w11z [cBlk nb0_2 [v_b_Years, v_b_Olds, I r02, I r03, .map (some nb1_3)] 126, cMl I encSp nb1_3 r04, cBlk b_1 [v_b_Years, v_b_Olds, I b_First, I b_Last] 26] R := H.back H2_ rfl
   clear H2_
   refine s_val (x_mv (v := .tuple #[I r0, B r13]) rfl) ?_
   refine s_val (x_ext (vs := [I r0, B r13]) (v := I r0) rfl rfl) ?_
   refine s_val (x_ext (vs := [I r0, B r13]) (v := B r13) rfl rfl) ?_
   refine s_val (x_as (v := I r0) rfl) ?_
   refine s_val (x_as (v := B r13) rfl) ?_
   refine s_nil ?_
   refine W.seq ?_
   refine W.seq ?_
   refine W.region rfl ?_
   refine s_val (x_mv (v := B r13) rfl) ?_
   refine s_val (x_not (b := r13) rfl) ?_
   refine s_nil ?_
   refine W.cond (!r13) rfl (fun c13z => ?_) (fun c13z => ?_)
   ·replace hM := M.e_t hM c13z
    refine W.seq ?_
    refine W.region rfl ?_
    refine s_val (x_as (v := I 0) rfl) ?_
    refine s_val (x_as (v := I 5) rfl) ?_
    refine s_nil ?_
    refine W.ret ?_
    have hr_ := M.e_pure hM
    exact ⟨_, resE_tmp2 rfl, ⟨0, 5, hr_, rfl, (H.pick [] (by decide) rfl)⟩⟩
   ·replace hM := M.e_f hM c13z
    refine W.skip ?_
    refine W.seq ?_
    refine W.region rfl ?_
    refine s_val (x_mv (v := I r0) rfl) ?_
    refine s_val (x_as (v := I r0) rfl) ?_
    refine s_val (x_as (v := I 0) rfl) ?_
    refine s_nil ?_
    refine W.ret ?_
    have hr_ := M.e_pure hM
    exact ⟨_, resE_tmp2 rfl, ⟨r0, 0, hr_, rfl, (H.pick [] (by decide) rfl)⟩⟩

def m_nilometerref10_span_b0 (b_Years : List Yr) (b_Olds : List Old10) (b_First : Int) (b_Last : Int) (year : Int) : (Int × Bool × Nat × Int) -> M ((Int × Bool × Nat × Int) ⊕ (Int × Int)) := fun (s, s2, stage, s3) =>
  bif decide ((stage : Int) <= 2000) then (
  M.bind (m_nilometerref10_can b_Years b_Olds b_First b_Last year (stage : Int)) fun r2 =>
  bif r2 then (
  bif !s2 then (
  M.grd (decide ((-9223372036854775808 : Int) <= ((stage : Int) + 1)) && decide (((stage : Int) + 1) <= (9223372036854775807 : Int))) <|
  M.pure (.inl ((stage : Int), true, stage + 1, (stage : Int))))
  else (
  M.grd (decide ((-9223372036854775808 : Int) <= ((stage : Int) + 1)) && decide (((stage : Int) + 1) <= (9223372036854775807 : Int))) <|
  M.pure (.inl (s, true, stage + 1, (stage : Int)))))
  else (
  M.grd (decide ((-9223372036854775808 : Int) <= ((stage : Int) + 1)) && decide (((stage : Int) + 1) <= (9223372036854775807 : Int))) <|
  M.pure (.inl (s, s2, stage + 1, s3))))
  else (
  M.pure (.inr (s, s3)))
def m_nilometerref10_span (b_Years : List Yr) (b_Olds : List Old10) (b_First : Int) (b_Last : Int) (year : Int) : M (Int × Int) :=
  M.bind (M.iter (m_nilometerref10_span_b0 b_Years b_Olds b_First b_Last year) (1, false, 0, 0)) fun (s4, s5) =>
  M.pure (s4, s5)
set_option maxRecDepth 100000 in
set_option maxHeartbeats 16000000 in
theorem nilometerref10_span_ok {R : List Chunk} {C_b_Years : Cells} {v_b_Years : Value} {C_b_Olds : Cells} {v_b_Olds : Value} (b_Years : List Yr) (b_Olds : List Old10) (b_First : Int) (b_Last : Int) (year : Int) (hC_b_Years : Reads R C_b_Years) (hs_b_Years : Sl C_b_Years v_b_Years b_Years) (hC_b_Olds : Reads R C_b_Olds) (hs_b_Olds : Sl C_b_Olds v_b_Olds b_Olds) {r : (Int × Int)} (hM : (m_nilometerref10_span b_Years b_Olds b_First b_Last year).Ends r) (w : World) (H : St w w [] R) : Ret Try.prog 66 #[.agg #[v_b_Years, v_b_Olds, I b_First, I b_Last], I year] w fun v w' => ∃ (y0 : Int) (y1 : Int), (y0, y1) = r /\ v = .agg #[I y0, I y1] /\ St w w' [] R := by
 refine ret_of_W Try.func66 rfl rfl rfl ?_
 refine W.seq ?_
 refine W.region rfl ?_
 refine t_box (v := .agg #[v_b_Years, v_b_Olds, I b_First, I b_Last]) (cs := [v_b_Years, v_b_Olds, I b_First, I b_Last]) H rfl rfl ?_
 intro b_1 w1z H
 refine t_alloc (cs := [I 0, I 0]) H Al35 rfl ?_
 intro b_2 w2z H
 refine s_nil ?_
 refine W.seq ?_
 refine W.region rfl ?_
 refine s_val (x_bld (ps := [(0, I 1)]) (zs := [I 0, I 0]) (L' := [I 1, I 0]) rfl Try.underlying35 Al35 rfl (Bd35 Try.underlying35) (.cons (cs := [I 1]) rfl rfl rfl rfl rfl <| .nil)) ?_
 refine t_alloc (cs := [I 0, I 0]) H Al35 rfl ?_
 intro b_3 w3z H
 refine t_st (k := 0) (b := b_3) (off := 0) (cs := [I 0, I 0]) (vs := [I 1, I 0]) (cs' := [I 1, I 0]) (v := .agg #[I 1, I 0]) (L' := [cBlk b_3 [I 1, I 0] 35, cBlk b_2 [I 0, I 0] 35, cBlk b_1 [v_b_Years, v_b_Olds, I b_First, I b_Last] 55]) H rfl rfl rfl Sz35 rfl rfl rfl rfl rfl rfl ?_
 intro w4z H
 refine s_nil ?_
 refine W.seq ?_
 refine W.region rfl ?_
 refine s_val (x_as (v := B false) rfl) ?_
 refine s_nil ?_
 refine W.seq ?_
 refine W.seq ?_
 refine W.region rfl ?_
 refine s_val (x_as (v := I 0) rfl) ?_
 refine s_nil ?_
 refine W.block ?_
 obtain ⟨ex5z, hi6z, hk7z⟩ := M.e_bind hM
 obtain ⟨m0_, hi6z⟩ := M.e_iter hi6z
 refine W.loop (fun m σ W => ∃ (s : Int) (s2 : Bool) (stage : Nat) (s3 : Int) (ρ : Env), σ = upds ρ [(1, I year), (2, .pointer (some ⟨b_1, 0, none⟩)), (4, .pointer (some ⟨b_2, 0, none⟩)), (5, .pointer (some ⟨b_3, 0, none⟩)), (6, B s2), (7, I (stage : Int))] /\ M.iterN (m_nilometerref10_span_b0 b_Years b_Olds b_First b_Last year) m (s, s2, stage, s3) = some ex5z /\ St w W [cBlk b_3 [I s, I s3] 35, cBlk b_2 [I 0, I 0] 35, cBlk b_1 [v_b_Years, v_b_Olds, I b_First, I b_Last] 55] R) ?_ ?_
 ·exact ⟨_, 1, false, 0, 0, _, upds_of _ _ ⟨rfl, rfl, rfl, rfl, rfl, rfl, trivial⟩, hi6z, H⟩
 ·rintro m10z σ w8z ⟨s, s2, stage, s3, ρ, rfl, hI9z, H⟩
  obtain ⟨m11z, lt12z, x13z, hM, hN14z⟩ := M.e_iterN hI9z
  simp only [m_nilometerref10_span_b0] at hM
  clear hI9z
  refine W.seq ?_
  refine W.seq ?_
  refine W.region rfl ?_
  refine s_val (x_mv (v := I (stage : Int)) rfl) ?_
  refine s_val (x_cmp (kd := .i64) (a := (stage : Int)) (b := 2000) (r := decide ((stage : Int) <= 2000)) rfl rfl rfl) ?_
  refine s_nil ?_
  refine W.cond (decide ((stage : Int) <= 2000)) rfl (fun c15z => ?_) (fun c15z => ?_)
  ·replace hM := M.e_t hM c15z
   simp only [decide_eq_true_eq, decide_eq_false_iff_not, beq_iff_eq, bne_iff_ne, beq_eq_false_iff_ne, bne_eq_false_iff_eq, ne_eq, Decidable.not_not] at c15z
   refine W.skip ?_
   refine W.seq ?_
   refine W.block ?_
   refine W.seq ?_
   refine W.region rfl ?_
   refine s_val (x_ld (p := .pointer (some ⟨b_1, 0, none⟩)) (v := .agg #[v_b_Years, v_b_Olds, I b_First, I b_Last]) rfl (ldb_ag (ds := [v_b_Years, v_b_Olds, I b_First, I b_Last]) Ag55 Sz55 (H.blk (k := 2) rfl) rfl rfl)) ?_
   refine s_val (x_mv (v := I year) rfl) ?_
   refine s_val (x_mv (v := I (stage : Int)) rfl) ?_
   obtain ⟨r17z, hx16z, hM⟩ := M.e_bind hM
   refine s_call cf68 [.agg #[v_b_Years, v_b_Olds, I b_First, I b_Last], I year, I (stage : Int)] rfl (nilometerref10_can_ok b_Years b_Olds b_First b_Last year (stage : Int) (hC_b_Years.app _) hs_b_Years (hC_b_Olds.app _) hs_b_Olds hx16z _ (St.give (T := [cBlk b_3 [I s, I s3] 35, cBlk b_2 [I 0, I 0] 35, cBlk b_1 [v_b_Years, v_b_Olds, I b_First, I b_Last] 55]) H rfl)) ?_
   rintro vq w18z ⟨r2, hr19z, hvq, H2_⟩
   subst hr19z
   subst vq
   try dsimp only at hM
   replace H : St w w18z [cBlk b_3 [I s, I s3] 35, cBlk b_2 [I 0, I 0] 35, cBlk b_1 [v_b_Years, v_b_Olds, I b_First, I b_Last] 55] R := H.back H2_ rfl
   clear H2_
   refine s_nil ?_
   refine W.cond r2 rfl (fun c20z => ?_) (fun c20z => ?_)
   ·replace hM := M.e_t hM c20z
    refine W.seq ?_
    refine W.seq ?_
    refine W.region rfl ?_
    refine s_val (x_mv (v := B s2) rfl) ?_
    refine s_val (x_not (b := s2) rfl) ?_
    refine s_nil ?_
    refine W.cond (!s2) rfl (fun c21z => ?_) (fun c21z => ?_)
    ·replace hM := M.e_t hM c21z
     refine W.region rfl ?_
     refine s_val (x_mv (v := I (stage : Int)) rfl) ?_
     refine s_val (x_fa (a := .pointer (some ⟨b_3, 0, none⟩)) (v := .pointer (some ⟨b_3, 0, none⟩)) rfl (fa_blk (o := 0) Fd35_0 Sz3)) ?_
     refine t_st (k := 0) (b := b_3) (off := 0) (cs := [I s, I s3]) (vs := [I (stage : Int)]) (cs' := [I (stage : Int), I s3]) (v := I (stage : Int)) (L' := [cBlk b_3 [I (stage : Int), I s3] 35, cBlk b_2 [I 0, I 0] 35, cBlk b_1 [v_b_Years, v_b_Olds, I b_First, I b_Last] 55]) H rfl rfl rfl Sz3 rfl rfl rfl rfl rfl rfl ?_
     intro w22z H
     refine s_nil ?_
     refine W.region rfl ?_
     refine s_val (x_mv (v := I (stage : Int)) rfl) ?_
     refine s_val (x_fa (a := .pointer (some ⟨b_3, 0, none⟩)) (v := .pointer (some ⟨b_3, 1, none⟩)) rfl (fa_blk (o := 0) Fd35_1 Sz3)) ?_
     refine t_st (k := 0) (b := b_3) (off := 1) (cs := [I (stage : Int), I s3]) (vs := [I (stage : Int)]) (cs' := [I (stage : Int), I (stage : Int)]) (v := I (stage : Int)) (L' := [cBlk b_3 [I (stage : Int), I (stage : Int)] 35, cBlk b_2 [I 0, I 0] 35, cBlk b_1 [v_b_Years, v_b_Olds, I b_First, I b_Last] 55]) H rfl rfl rfl Sz3 rfl rfl rfl rfl rfl rfl ?_
     intro w23z H
     refine s_val (x_as (v := B true) rfl) ?_
     refine s_nil ?_
     refine W.region rfl ?_
     refine s_val (x_mv (v := I (stage : Int)) rfl) ?_
     obtain ⟨sd24z, hM⟩ := M.e_grd hM
     simp only [Bool.and_eq_true, decide_eq_true_eq] at sd24z
     refine s_val (x_ari (a := (stage : Int)) (b := 1) (r := (stage : Int) + 1) rfl rfl rfl (by omega)) ?_
     refine s_val (x_as (v := I ((stage : Int) + 1)) rfl) ?_
     refine s_nil ?_
     exact ⟨m11z, lt12z, (stage : Int), true, stage + 1, (stage : Int), _, upds_of _ _ ⟨rfl, rfl, rfl, rfl, rfl, rfl, trivial⟩, M.e_inl hM hN14z, H⟩
    ·replace hM := M.e_f hM c21z
     refine W.skip ?_
     refine W.region rfl ?_
     refine s_val (x_mv (v := I (stage : Int)) rfl) ?_
     refine s_val (x_fa (a := .pointer (some ⟨b_3, 0, none⟩)) (v := .pointer (some ⟨b_3, 1, none⟩)) rfl (fa_blk (o := 0) Fd35_1 Sz3)) ?_
     refine t_st (k := 0) (b := b_3) (off := 1) (cs := [I s, I s3]) (vs := [I (stage : Int)]) (cs' := [I s, I (stage : Int)]) (v := I (stage : Int)) (L' := [cBlk b_3 [I s, I (stage : Int)] 35, cBlk b_2 [I 0, I 0] 35, cBlk b_1 [v_b_Years, v_b_Olds, I b_First, I b_Last] 55]) H rfl rfl rfl Sz3 rfl rfl rfl rfl rfl rfl ?_
     intro w25z H
     refine s_val (x_as (v := B true) rfl) ?_
     refine s_nil ?_
     refine W.region rfl ?_
     refine s_val (x_mv (v := I (stage : Int)) rfl) ?_
     obtain ⟨sd26z, hM⟩ := M.e_grd hM
     simp only [Bool.and_eq_true, decide_eq_true_eq] at sd26z
     refine s_val (x_ari (a := (stage : Int)) (b := 1) (r := (stage : Int) + 1) rfl rfl rfl (by omega)) ?_
     refine s_val (x_as (v := I ((stage : Int) + 1)) rfl) ?_
     refine s_nil ?_
     exact ⟨m11z, lt12z, s, true, stage + 1, (stage : Int), _, upds_of _ _ ⟨rfl, rfl, rfl, rfl, rfl, rfl, trivial⟩, M.e_inl hM hN14z, H⟩
   ·replace hM := M.e_f hM c20z
    refine W.skip ?_
    refine W.region rfl ?_
    refine s_val (x_mv (v := I (stage : Int)) rfl) ?_
    obtain ⟨sd27z, hM⟩ := M.e_grd hM
    simp only [Bool.and_eq_true, decide_eq_true_eq] at sd27z
    refine s_val (x_ari (a := (stage : Int)) (b := 1) (r := (stage : Int) + 1) rfl rfl rfl (by omega)) ?_
    refine s_val (x_as (v := I ((stage : Int) + 1)) rfl) ?_
    refine s_nil ?_
    exact ⟨m11z, lt12z, s, s2, stage + 1, s3, _, upds_of _ _ ⟨rfl, rfl, rfl, rfl, rfl, rfl, trivial⟩, M.e_inl hM hN14z, H⟩
  ·replace hM := M.e_f hM c15z
   simp only [decide_eq_true_eq, decide_eq_false_iff_not, beq_iff_eq, bne_iff_ne, beq_eq_false_iff_ne, bne_eq_false_iff_eq, ne_eq, Decidable.not_not] at c15z
   refine W.exit ?_
   have hX28z := M.e_inr hM hN14z
   subst hX28z
   replace hM := hk7z
   try dsimp only at hM
   refine W.seq ?_
   refine W.region rfl ?_
   refine s_val (x_ld (p := .pointer (some ⟨b_3, 0, none⟩)) (v := .agg #[I s, I s3]) rfl (ldb_ag (ds := [I s, I s3]) Ag35 Sz35 (H.blk (k := 0) rfl) rfl rfl)) ?_
   refine t_st (k := 1) (b := b_2) (off := 0) (cs := [I 0, I 0]) (vs := [I s, I s3]) (cs' := [I s, I s3]) (v := .agg #[I s, I s3]) (L' := [cBlk b_3 [I s, I s3] 35, cBlk b_2 [I s, I s3] 35, cBlk b_1 [v_b_Years, v_b_Olds, I b_First, I b_Last] 55]) H rfl rfl rfl Sz35 rfl rfl rfl rfl rfl rfl ?_
   intro w29z H
   refine s_nil ?_
   refine W.ret ?_
   have hb30z := (H.blk (k := 1) rfl)
   have hr_ := M.e_pure hM
   exact ⟨_, (resE_of1 (v := .agg #[I s, I s3]) rfl (.cell (v := .agg #[I s, I s3]) rfl (run_loadVar_ag (ds := [I s, I s3]) Ag35 Sz35 hb30z rfl rfl) <| .nil)), ⟨s, s3, hr_, rfl, (H.pick [] (by decide) rfl)⟩⟩

def m_nilometerref10_Clash_b0 (b_Years : List Yr) (b_Olds : List Old10) (b_First : Int) (b_Last : Int) : Int -> M (Int ⊕ (Int ⊕ Unit)) := fun year =>
  bif decide (year <= b_Last) then (
  M.bind (m_nilometerref10_span b_Years b_Olds b_First b_Last year) fun (r0, r1) =>
  bif decide (r1 < r0) then (
  M.pure (.inr (.inl year)))
  else (
  M.grd (decide ((-9223372036854775808 : Int) <= (year + 1)) && decide ((year + 1) <= (9223372036854775807 : Int))) <|
  M.pure (.inl (year + 1))))
  else (
  M.pure (.inr (.inr ())))
def m_nilometerref10_Clash (b_Years : List Yr) (b_Olds : List Old10) (b_First : Int) (b_Last : Int) : M (Int × Int) :=
  M.bind (m_nilometerref10_Check b_Years b_Olds b_First b_Last) fun r2 =>
  bif r2 != 0 then (
  M.pure (0, r2))
  else (
  M.bind (M.iter (m_nilometerref10_Clash_b0 b_Years b_Olds b_First b_Last) b_First) fun x_ => match x_ with
  | (.inl s) => (
  M.pure (s, 0))
  | (.inr (_ : Unit)) => (
  M.pure (0, 5)))
set_option maxRecDepth 100000 in
set_option maxHeartbeats 16000000 in
theorem nilometerref10_Clash_ok {R : List Chunk} {C_b_Years : Cells} {v_b_Years : Value} {C_b_Olds : Cells} {v_b_Olds : Value} (b_Years : List Yr) (b_Olds : List Old10) (b_First : Int) (b_Last : Int) (hC_b_Years : Reads R C_b_Years) (hs_b_Years : Sl C_b_Years v_b_Years b_Years) (hC_b_Olds : Reads R C_b_Olds) (hs_b_Olds : Sl C_b_Olds v_b_Olds b_Olds) {r : (Int × Int)} (hM : (m_nilometerref10_Clash b_Years b_Olds b_First b_Last).Ends r) (w : World) (H : St w w [] R) : Ret Try.prog 50 #[.agg #[v_b_Years, v_b_Olds, I b_First, I b_Last]] w fun v w' => ∃ (y0 : Int) (y1 : Int), (y0, y1) = r /\ v = .tuple #[I y0, I y1] /\ St w w' [] R := by
 refine ret_of_W Try.func50 rfl rfl rfl ?_
 refine W.seq ?_
 refine W.region rfl ?_
 refine t_box (v := .agg #[v_b_Years, v_b_Olds, I b_First, I b_Last]) (cs := [v_b_Years, v_b_Olds, I b_First, I b_Last]) H rfl rfl ?_
 intro b_1 w1z H
 refine s_val (x_as (v := I 0) rfl) ?_
 refine s_val (x_as (v := I 0) rfl) ?_
 refine s_nil ?_
 refine W.seq ?_
 refine W.seq ?_
 refine W.region rfl ?_
 refine s_val (x_ld (p := .pointer (some ⟨b_1, 0, none⟩)) (v := .agg #[v_b_Years, v_b_Olds, I b_First, I b_Last]) rfl (ldb_ag (ds := [v_b_Years, v_b_Olds, I b_First, I b_Last]) Ag55 Sz55 (H.blk (k := 0) rfl) rfl rfl)) ?_
 obtain ⟨r3z, hx2z, hM⟩ := M.e_bind hM
 refine s_call cf48 [.agg #[v_b_Years, v_b_Olds, I b_First, I b_Last]] rfl (nilometerref10_Check_ok b_Years b_Olds b_First b_Last (hC_b_Years.app _) hs_b_Years (hC_b_Olds.app _) hs_b_Olds hx2z _ (St.give (T := [cBlk b_1 [v_b_Years, v_b_Olds, I b_First, I b_Last] 55]) H rfl)) ?_
 rintro vq w4z ⟨r2, hr5z, hvq, H2_⟩
 subst hr5z
 subst vq
 try dsimp only at hM
 replace H : St w w4z [cBlk b_1 [v_b_Years, v_b_Olds, I b_First, I b_Last] 55] R := H.back H2_ rfl
 clear H2_
 refine s_val (x_as (v := I r2) rfl) ?_
 refine s_nil ?_
 refine W.seq ?_
 refine W.region rfl ?_
 refine s_val (x_mv (v := I r2) rfl) ?_
 refine s_val (x_cmp (kd := .i64) (a := r2) (b := 0) (r := r2 != 0) rfl rfl rfl) ?_
 refine s_nil ?_
 refine W.cond (r2 != 0) rfl (fun c6z => ?_) (fun c6z => ?_)
 ·replace hM := M.e_t hM c6z
  simp only [decide_eq_true_eq, decide_eq_false_iff_not, beq_iff_eq, bne_iff_ne, beq_eq_false_iff_ne, bne_eq_false_iff_eq, ne_eq, Decidable.not_not] at c6z
  refine W.seq ?_
  refine W.region rfl ?_
  refine s_val (x_mv (v := I r2) rfl) ?_
  refine s_val (x_as (v := I 0) rfl) ?_
  refine s_val (x_as (v := I r2) rfl) ?_
  refine s_nil ?_
  refine W.ret ?_
  have hr_ := M.e_pure hM
  exact ⟨_, resE_tmp2 rfl, ⟨0, r2, hr_, rfl, (H.pick [] (by decide) rfl)⟩⟩
 ·replace hM := M.e_f hM c6z
  simp only [decide_eq_true_eq, decide_eq_false_iff_not, beq_iff_eq, bne_iff_ne, beq_eq_false_iff_ne, bne_eq_false_iff_eq, ne_eq, Decidable.not_not] at c6z
  refine W.skip ?_
  refine W.seq ?_
  refine W.seq ?_
  refine W.region rfl ?_
  refine s_val (x_fa (a := .pointer (some ⟨b_1, 0, none⟩)) (v := .pointer (some ⟨b_1, 2, none⟩)) rfl (fa_blk (o := 0) Fd55_2 Sz3)) ?_
  refine s_val (x_ld (p := .pointer (some ⟨b_1, 2, none⟩)) (v := I b_First) rfl (ldb_sc Sc3 (H.blk (k := 0) rfl) rfl)) ?_
  refine s_val (x_as (v := I b_First) rfl) ?_
  refine s_nil ?_
  refine W.block ?_
  obtain ⟨ex7z, hi8z, hk9z⟩ := M.e_bind hM
  obtain ⟨m0_, hi8z⟩ := M.e_iter hi8z
  refine W.loop (fun m σ W => ∃ (year : Int) (ρ : Env), σ = upds ρ [(1, .pointer (some ⟨b_1, 0, none⟩)), (5, I year)] /\ M.iterN (m_nilometerref10_Clash_b0 b_Years b_Olds b_First b_Last) m year = some ex7z /\ St w W [cBlk b_1 [v_b_Years, v_b_Olds, I b_First, I b_Last] 55] R) ?_ ?_
  ·exact ⟨_, b_First, _, upds_of _ _ ⟨rfl, rfl, trivial⟩, hi8z, H⟩
  ·rintro m12z σ w10z ⟨year, ρ, rfl, hI11z, H⟩
   obtain ⟨m13z, lt14z, x15z, hM, hN16z⟩ := M.e_iterN hI11z
   simp only [m_nilometerref10_Clash_b0] at hM
   clear hI11z
   refine W.seq ?_
   refine W.seq ?_
   refine W.region rfl ?_
   refine s_val (x_mv (v := I year) rfl) ?_
   refine s_val (x_fa (a := .pointer (some ⟨b_1, 0, none⟩)) (v := .pointer (some ⟨b_1, 3, none⟩)) rfl (fa_blk (o := 0) Fd55_3 Sz3)) ?_
   refine s_val (x_ld (p := .pointer (some ⟨b_1, 3, none⟩)) (v := I b_Last) rfl (ldb_sc Sc3 (H.blk (k := 0) rfl) rfl)) ?_
   refine s_val (x_cmp (kd := .i64) (a := year) (b := b_Last) (r := decide (year <= b_Last)) rfl rfl rfl) ?_
   refine s_nil ?_
   refine W.cond (decide (year <= b_Last)) rfl (fun c17z => ?_) (fun c17z => ?_)
   ·replace hM := M.e_t hM c17z
    simp only [decide_eq_true_eq, decide_eq_false_iff_not, beq_iff_eq, bne_iff_ne, beq_eq_false_iff_ne, bne_eq_false_iff_eq, ne_eq, Decidable.not_not] at c17z
    refine W.skip ?_
    refine W.seq ?_
    refine W.block ?_
    refine W.seq ?_
    refine W.region rfl ?_
    refine s_val (x_ld (p := .pointer (some ⟨b_1, 0, none⟩)) (v := .agg #[v_b_Years, v_b_Olds, I b_First, I b_Last]) rfl (ldb_ag (ds := [v_b_Years, v_b_Olds, I b_First, I b_Last]) Ag55 Sz55 (H.blk (k := 0) rfl) rfl rfl)) ?_
    refine s_val (x_mv (v := I year) rfl) ?_
    obtain ⟨r19z, hx18z, hM⟩ := M.e_bind hM
    refine s_call cf66 [.agg #[v_b_Years, v_b_Olds, I b_First, I b_Last], I year] rfl (nilometerref10_span_ok b_Years b_Olds b_First b_Last year (hC_b_Years.app _) hs_b_Years (hC_b_Olds.app _) hs_b_Olds hx18z _ (St.give (T := [cBlk b_1 [v_b_Years, v_b_Olds, I b_First, I b_Last] 55]) H rfl)) ?_
    rintro vq w20z ⟨r0, r1, hr21z, hvq, H2_⟩
    subst hr21z
    subst vq
    try dsimp only at hM
    replace H : St w w20z [cBlk b_1 [v_b_Years, v_b_Olds, I b_First, I b_Last] 55] R := H.back H2_ rfl
    clear H2_
    refine t_alloc (cs := [I 0, I 0]) H Al35 rfl ?_
    intro b_2 w22z H
    refine t_st (k := 0) (b := b_2) (off := 0) (cs := [I 0, I 0]) (vs := [I r0, I r1]) (cs' := [I r0, I r1]) (v := .agg #[I r0, I r1]) (L' := [cBlk b_2 [I r0, I r1] 35, cBlk b_1 [v_b_Years, v_b_Olds, I b_First, I b_Last] 55]) H rfl rfl rfl Sz35 rfl rfl rfl rfl rfl rfl ?_
    intro w23z H
    refine s_nil ?_
    refine W.seq ?_
    refine W.region rfl ?_
    refine s_val (x_fa (a := .pointer (some ⟨b_2, 0, none⟩)) (v := .pointer (some ⟨b_2, 0, none⟩)) rfl (fa_blk (o := 0) Fd35_0 Sz3)) ?_
    refine s_val (x_ld (p := .pointer (some ⟨b_2, 0, none⟩)) (v := I r0) rfl (ldb_sc Sc3 (H.blk (k := 0) rfl) rfl)) ?_
    refine s_val (x_fa (a := .pointer (some ⟨b_2, 0, none⟩)) (v := .pointer (some ⟨b_2, 1, none⟩)) rfl (fa_blk (o := 0) Fd35_1 Sz3)) ?_
    refine s_val (x_ld (p := .pointer (some ⟨b_2, 1, none⟩)) (v := I r1) rfl (ldb_sc Sc3 (H.blk (k := 0) rfl) rfl)) ?_
    refine s_val (x_cmp (kd := .i64) (a := r0) (b := r1) (r := decide (r1 < r0)) rfl rfl rfl) ?_
    refine s_nil ?_
    refine W.cond (decide (r1 < r0)) rfl (fun c24z => ?_) (fun c24z => ?_)
    ·replace hM := M.e_t hM c24z
     simp only [decide_eq_true_eq, decide_eq_false_iff_not, beq_iff_eq, bne_iff_ne, beq_eq_false_iff_ne, bne_eq_false_iff_eq, ne_eq, Decidable.not_not] at c24z
     refine W.seq ?_
     refine W.region rfl ?_
     refine s_val (x_mv (v := I year) rfl) ?_
     refine s_val (x_as (v := I year) rfl) ?_
     refine s_val (x_as (v := I 0) rfl) ?_
     refine s_nil ?_
     refine W.ret ?_
     have hX25z := M.e_inr hM hN16z
     subst hX25z
     replace hM := hk9z
     try dsimp only at hM
     have hr_ := M.e_pure hM
     exact ⟨_, resE_tmp2 rfl, ⟨year, 0, hr_, rfl, (H.pick [] (by decide) rfl)⟩⟩
    ·replace hM := M.e_f hM c24z
     simp only [decide_eq_true_eq, decide_eq_false_iff_not, beq_iff_eq, bne_iff_ne, beq_eq_false_iff_ne, bne_eq_false_iff_eq, ne_eq, Decidable.not_not] at c24z
     refine W.skip ?_
     refine W.region rfl ?_
     refine s_val (x_mv (v := I year) rfl) ?_
     obtain ⟨sd26z, hM⟩ := M.e_grd hM
     simp only [Bool.and_eq_true, decide_eq_true_eq] at sd26z
     refine s_val (x_ari (a := year) (b := 1) (r := year + 1) rfl rfl rfl (by omega)) ?_
     refine s_val (x_as (v := I (year + 1)) rfl) ?_
     refine s_nil ?_
     exact ⟨m13z, lt14z, year + 1, _, upds_of _ _ ⟨rfl, rfl, trivial⟩, M.e_inl hM hN16z, (H.pick [1] (by decide) rfl)⟩
   ·replace hM := M.e_f hM c17z
    simp only [decide_eq_true_eq, decide_eq_false_iff_not, beq_iff_eq, bne_iff_ne, beq_eq_false_iff_ne, bne_eq_false_iff_eq, ne_eq, Decidable.not_not] at c17z
    refine W.exit ?_
    have hX27z := M.e_inr hM hN16z
    subst hX27z
    replace hM := hk9z
    try dsimp only at hM
    refine W.seq ?_
    refine W.region rfl ?_
    refine s_val (x_as (v := I 0) rfl) ?_
    refine s_val (x_as (v := I 5) rfl) ?_
    refine s_nil ?_
    refine W.ret ?_
    have hr_ := M.e_pure hM
    exact ⟨_, resE_tmp2 rfl, ⟨0, 5, hr_, rfl, (H.pick [] (by decide) rfl)⟩⟩

def m_often_Highest (b_Years : List Yr) (b_Olds : List Old10) (b_First : Int) (b_Last : Int) (year : Int) : M (Int × Int × Int) :=
  M.bind (m_often_opened b_Years b_Olds b_First b_Last) fun x_ => match x_ with
  | (.inl r1) => (
  bif r1 != 0 then (
  M.pure (0, 0, r1))
  else (
  M.fail))
  | (.inr (r02, r03, r04, r12)) => (
  bif r12 != 0 then (
  M.fail)
  else (
  M.bind (m_often_in year b_First b_Last) fun r2 =>
  bif !r2 then (
  M.pure (0, 0, 2))
  else (
  M.bind (m_often_shelf_clash b_Years b_Olds r02 r03 r04) fun (r0, r13) =>
  bif r13 then (
  M.pure (0, 0, 6))
  else (
  M.pure ((((lookM r04 (year : Int)).getD default).lo), (((lookM r04 (year : Int)).getD default).hi), 0)))))
set_option maxRecDepth 100000 in
set_option maxHeartbeats 16000000 in
theorem often_Highest_ok {R : List Chunk} {C_b_Years : Cells} {v_b_Years : Value} {C_b_Olds : Cells} {v_b_Olds : Value} (b_Years : List Yr) (b_Olds : List Old10) (b_First : Int) (b_Last : Int) (year : Int) (hC_b_Years : Reads R C_b_Years) (hs_b_Years : Sl C_b_Years v_b_Years b_Years) (hC_b_Olds : Reads R C_b_Olds) (hs_b_Olds : Sl C_b_Olds v_b_Olds b_Olds) {r : (Int × Int × Int)} (hM : (m_often_Highest b_Years b_Olds b_First b_Last year).Ends r) (w : World) (H : St w w [] R) : Ret Try.prog 20 #[.agg #[v_b_Years, v_b_Olds, I b_First, I b_Last], I year] w fun v w' => ∃ (y0 : Int) (y1 : Int) (y2 : Int), (y0, y1, y2) = r /\ v = .tuple #[.agg #[I y0, I y1], I y2] /\ St w w' [] R := by
 refine ret_of_W Try.func20 rfl rfl rfl ?_
 refine W.seq ?_
 refine W.region rfl ?_
 refine t_box (v := .agg #[v_b_Years, v_b_Olds, I b_First, I b_Last]) (cs := [v_b_Years, v_b_Olds, I b_First, I b_Last]) H rfl rfl ?_
 intro b_1 w1z H
 refine t_alloc (cs := [I 0, I 0]) H Al35 rfl ?_
 intro b_2 w2z H
 refine s_val (x_as (v := I 0) rfl) ?_
 refine s_nil ?_
 refine W.seq ?_
 refine W.region rfl ?_
 refine s_val (x_ld (p := .pointer (some ⟨b_1, 0, none⟩)) (v := .agg #[v_b_Years, v_b_Olds, I b_First, I b_Last]) rfl (ldb_ag (ds := [v_b_Years, v_b_Olds, I b_First, I b_Last]) Ag26 Sz26 (H.blk (k := 1) rfl) rfl rfl)) ?_
 obtain ⟨r4z, hx3z, hM⟩ := M.e_bind hM
 refine s_call cf62 [.agg #[v_b_Years, v_b_Olds, I b_First, I b_Last]] rfl (often_opened_ok b_Years b_Olds b_First b_Last (hC_b_Years.app _) hs_b_Years (hC_b_Olds.app _) hs_b_Olds hx3z _ (St.give (T := [cBlk b_2 [I 0, I 0] 35, cBlk b_1 [v_b_Years, v_b_Olds, I b_First, I b_Last] 26]) H rfl)) ?_
 rintro vq w5z (⟨r1, hr6z, hvq, H2_⟩ | ⟨r02, r03, r04, r12, nb0_3, nb1_4, hr7z, hvq, H2_⟩)
 ·subst hr6z
  subst vq
  try dsimp only at hM
  replace H : St w w5z [cBlk b_2 [I 0, I 0] 35, cBlk b_1 [v_b_Years, v_b_Olds, I b_First, I b_Last] 26] R := H.back H2_ rfl
  clear H2_
  refine s_val (x_mv (v := .tuple #[.pointer none, I r1]) rfl) ?_
  refine s_val (x_ext (vs := [.pointer none, I r1]) (v := .pointer none) rfl rfl) ?_
  refine s_val (x_ext (vs := [.pointer none, I r1]) (v := I r1) rfl rfl) ?_
  refine s_val (x_as (v := .pointer none) rfl) ?_
  refine s_val (x_as (v := I r1) rfl) ?_
  refine s_nil ?_
  refine W.seq ?_
  refine W.block ?_
  refine W.seq ?_
  refine W.region rfl ?_
  refine s_val (x_mv (v := I r1) rfl) ?_
  refine s_val (x_cmp (kd := .i64) (a := r1) (b := 0) (r := r1 != 0) rfl rfl rfl) ?_
  refine s_val (x_as (v := B (r1 != 0)) rfl) ?_
  refine s_nil ?_
  refine W.cond (r1 != 0) rfl (fun c8z => ?_) (fun c8z => ?_)
  ·replace hM := M.e_t hM c8z
   simp only [decide_eq_true_eq, decide_eq_false_iff_not, beq_iff_eq, bne_iff_ne, beq_eq_false_iff_ne, bne_eq_false_iff_eq, ne_eq, Decidable.not_not] at c8z
   refine W.seq ?_
   refine W.region rfl ?_
   refine s_val (x_bld (ps := []) (zs := [I 0, I 0]) (L' := [I 0, I 0]) rfl Try.underlying35 Al35 rfl (Bd35 Try.underlying35) (.nil)) ?_
   refine s_val (x_mv (v := I r1) rfl) ?_
   refine t_st (k := 0) (b := b_2) (off := 0) (cs := [I 0, I 0]) (vs := [I 0, I 0]) (cs' := [I 0, I 0]) (v := .agg #[I 0, I 0]) (L' := [cBlk b_2 [I 0, I 0] 35, cBlk b_1 [v_b_Years, v_b_Olds, I b_First, I b_Last] 26]) H rfl rfl rfl Sz35 rfl rfl rfl rfl rfl rfl ?_
   intro w9z H
   refine s_val (x_as (v := I r1) rfl) ?_
   refine s_nil ?_
   refine W.ret ?_
   have hb10z := (H.blk (k := 0) rfl)
   have hr_ := M.e_pure hM
   exact ⟨_, (resE_ofn (vs := [.agg #[I 0, I 0], I r1]) rfl rfl (.cell (v := .agg #[I 0, I 0]) rfl (run_loadVar_ag (ds := [I 0, I 0]) Ag35 Sz35 hb10z rfl rfl) <| .tmp (v := I r1) rfl <| .nil)), ⟨0, 0, r1, hr_, rfl, (H.pick [] (by decide) rfl)⟩⟩
  ·replace hM := M.e_f hM c8z
   exact (M.e_fail hM).elim
 ·subst hr7z
  subst vq
  try dsimp only at hM
  replace H : St w w5z [cBlk nb0_3 [v_b_Years, v_b_Olds, I r02, I r03, .map (some nb1_4)] 126, cMl I encSp nb1_4 r04, cBlk b_2 [I 0, I 0] 35, cBlk b_1 [v_b_Years, v_b_Olds, I b_First, I b_Last] 26] R := H.back H2_ rfl
  clear H2_
  refine s_val (x_mv (v := .tuple #[.pointer (some ⟨nb0_3, 0, none⟩), I r12]) rfl) ?_
  refine s_val (x_ext (vs := [.pointer (some ⟨nb0_3, 0, none⟩), I r12]) (v := .pointer (some ⟨nb0_3, 0, none⟩)) rfl rfl) ?_
  refine s_val (x_ext (vs := [.pointer (some ⟨nb0_3, 0, none⟩), I r12]) (v := I r12) rfl rfl) ?_
  refine s_val (x_as (v := .pointer (some ⟨nb0_3, 0, none⟩)) rfl) ?_
  refine s_val (x_as (v := I r12) rfl) ?_
  refine s_nil ?_
  refine W.seq ?_
  refine W.block ?_
  refine W.seq ?_
  refine W.region rfl ?_
  refine s_val (x_mv (v := I r12) rfl) ?_
  refine s_val (x_cmp (kd := .i64) (a := r12) (b := 0) (r := r12 != 0) rfl rfl rfl) ?_
  refine s_val (x_as (v := B (r12 != 0)) rfl) ?_
  refine s_nil ?_
  refine W.cond (r12 != 0) rfl (fun c11z => ?_) (fun c11z => ?_)
  ·replace hM := M.e_t hM c11z
   exact (M.e_fail hM).elim
  ·replace hM := M.e_f hM c11z
   simp only [decide_eq_true_eq, decide_eq_false_iff_not, beq_iff_eq, bne_iff_ne, beq_eq_false_iff_ne, bne_eq_false_iff_eq, ne_eq, Decidable.not_not] at c11z
   refine W.seq ?_
   refine W.region rfl ?_
   refine s_val (x_mv (v := I year) rfl) ?_
   refine s_val (x_fa (a := .pointer (some ⟨b_1, 0, none⟩)) (v := .pointer (some ⟨b_1, 2, none⟩)) rfl (fa_blk (o := 0) Fd26_2 Sz3)) ?_
   refine s_val (x_ld (p := .pointer (some ⟨b_1, 2, none⟩)) (v := I b_First) rfl (ldb_sc Sc3 (H.blk (k := 3) rfl) rfl)) ?_
   refine s_val (x_fa (a := .pointer (some ⟨b_1, 0, none⟩)) (v := .pointer (some ⟨b_1, 3, none⟩)) rfl (fa_blk (o := 0) Fd26_3 Sz3)) ?_
   refine s_val (x_ld (p := .pointer (some ⟨b_1, 3, none⟩)) (v := I b_Last) rfl (ldb_sc Sc3 (H.blk (k := 3) rfl) rfl)) ?_
   obtain ⟨r13z, hx12z, hM⟩ := M.e_bind hM
   refine s_call cf63 [I year, I b_First, I b_Last] rfl (often_in_ok year b_First b_Last hx12z _ (St.give (T := [cBlk nb0_3 [v_b_Years, v_b_Olds, I r02, I r03, .map (some nb1_4)] 126, cMl I encSp nb1_4 r04, cBlk b_2 [I 0, I 0] 35, cBlk b_1 [v_b_Years, v_b_Olds, I b_First, I b_Last] 26]) H rfl)) ?_
   rintro vq w14z ⟨r2, hr15z, hvq, H2_⟩
   subst hr15z
   subst vq
   try dsimp only at hM
   replace H : St w w14z [cBlk nb0_3 [v_b_Years, v_b_Olds, I r02, I r03, .map (some nb1_4)] 126, cMl I encSp nb1_4 r04, cBlk b_2 [I 0, I 0] 35, cBlk b_1 [v_b_Years, v_b_Olds, I b_First, I b_Last] 26] R := H.back H2_ rfl
   clear H2_
   refine s_val (x_not (b := r2) rfl) ?_
   refine s_val (x_as (v := B (!r2)) rfl) ?_
   refine s_nil ?_
   refine W.cond (!r2) rfl (fun c16z => ?_) (fun c16z => ?_)
   ·replace hM := M.e_t hM c16z
    refine W.seq ?_
    refine W.region rfl ?_
    refine s_val (x_bld (ps := []) (zs := [I 0, I 0]) (L' := [I 0, I 0]) rfl Try.underlying35 Al35 rfl (Bd35 Try.underlying35) (.nil)) ?_
    refine t_st (k := 2) (b := b_2) (off := 0) (cs := [I 0, I 0]) (vs := [I 0, I 0]) (cs' := [I 0, I 0]) (v := .agg #[I 0, I 0]) (L' := [cBlk nb0_3 [v_b_Years, v_b_Olds, I r02, I r03, .map (some nb1_4)] 126, cMl I encSp nb1_4 r04, cBlk b_2 [I 0, I 0] 35, cBlk b_1 [v_b_Years, v_b_Olds, I b_First, I b_Last] 26]) H rfl rfl rfl Sz35 rfl rfl rfl rfl rfl rfl ?_
    intro w17z H
    refine s_val (x_as (v := I 2) rfl) ?_
    refine s_nil ?_
    refine W.ret ?_
    have hb18z := (H.blk (k := 2) rfl)
    have hr_ := M.e_pure hM
    exact ⟨_, (resE_ofn (vs := [.agg #[I 0, I 0], I 2]) rfl rfl (.cell (v := .agg #[I 0, I 0]) rfl (run_loadVar_ag (ds := [I 0, I 0]) Ag35 Sz35 hb18z rfl rfl) <| .tmp (v := I 2) rfl <| .nil)), ⟨0, 0, 2, hr_, rfl, (H.pick [] (by decide) rfl)⟩⟩
   ·replace hM := M.e_f hM c16z
    refine W.skip ?_
    refine W.seq ?_
    refine W.seq ?_
    refine W.region rfl ?_
    refine s_val (x_mv (v := .pointer (some ⟨nb0_3, 0, none⟩)) rfl) ?_
    obtain ⟨r20z, hx19z, hM⟩ := M.e_bind hM
    refine s_call cf64 [.pointer (some ⟨nb0_3, 0, none⟩)] rfl (often_shelf_clash_ok b_Years b_Olds r02 r03 r04 (hC_b_Years.app _) hs_b_Years (hC_b_Olds.app _) hs_b_Olds (Has.here (k := 1) rfl) (Has.here (k := 0) rfl) hx19z _ (St.give (T := [cBlk nb0_3 [v_b_Years, v_b_Olds, I r02, I r03, .map (some nb1_4)] 126, cMl I encSp nb1_4 r04, cBlk b_2 [I 0, I 0] 35, cBlk b_1 [v_b_Years, v_b_Olds, I b_First, I b_Last] 26]) H rfl)) ?_
    rintro vq w21z ⟨r0, r13, hr22z, hvq, H2_⟩
    subst hr22z
    subst vq
    try dsimp only at hM
    replace H : St w w21z [cBlk nb0_3 [v_b_Years, v_b_Olds, I r02, I r03, .map (some nb1_4)] 126, cMl I encSp nb1_4 r04, cBlk b_2 [I 0, I 0] 35, cBlk b_1 [v_b_Years, v_b_Olds, I b_First, I b_Last] 26] R := H.back H2_ rfl
    clear H2_
    refine s_val (x_mv (v := .tuple #[I r0, B r13]) rfl) ?_
    refine s_val (x_ext (vs := [I r0, B r13]) (v := I r0) rfl rfl) ?_
    refine s_val (x_ext (vs := [I r0, B r13]) (v := B r13) rfl rfl) ?_
    refine s_val (x_as (v := I r0) rfl) ?_
    refine s_val (x_as (v := B r13) rfl) ?_
    refine s_nil ?_
    refine W.seq ?_
    refine W.region rfl ?_
    refine s_val (x_mv (v := B r13) rfl) ?_
    refine s_nil ?_
    refine W.cond r13 rfl (fun c23z => ?_) (fun c23z => ?_)
    ·replace hM := M.e_t hM c23z
     refine W.seq ?_
     refine W.region rfl ?_
     refine s_val (x_bld (ps := []) (zs := [I 0, I 0]) (L' := [I 0, I 0]) rfl Try.underlying35 Al35 rfl (Bd35 Try.underlying35) (.nil)) ?_
     refine t_st (k := 2) (b := b_2) (off := 0) (cs := [I 0, I 0]) (vs := [I 0, I 0]) (cs' := [I 0, I 0]) (v := .agg #[I 0, I 0]) (L' := [cBlk nb0_3 [v_b_Years, v_b_Olds, I r02, I r03, .map (some nb1_4)] 126, cMl I encSp nb1_4 r04, cBlk b_2 [I 0, I 0] 35, cBlk b_1 [v_b_Years, v_b_Olds, I b_First, I b_Last] 26]) H rfl rfl rfl Sz35 rfl rfl rfl rfl rfl rfl ?_
     intro w24z H
     refine s_val (x_as (v := I 6) rfl) ?_
     refine s_nil ?_
     refine W.ret ?_
     have hb25z := (H.blk (k := 2) rfl)
     have hr_ := M.e_pure hM
     exact ⟨_, (resE_ofn (vs := [.agg #[I 0, I 0], I 6]) rfl rfl (.cell (v := .agg #[I 0, I 0]) rfl (run_loadVar_ag (ds := [I 0, I 0]) Ag35 Sz35 hb25z rfl rfl) <| .tmp (v := I 6) rfl <| .nil)), ⟨0, 0, 6, hr_, rfl, (H.pick [] (by decide) rfl)⟩⟩
    ·replace hM := M.e_f hM c23z
     refine W.skip ?_
     refine W.seq ?_
     refine W.region rfl ?_
     refine s_val (x_mv (v := .pointer (some ⟨nb0_3, 0, none⟩)) rfl) ?_
     refine s_val (x_nc (a := ⟨nb0_3, 0, none⟩) rfl) ?_
     refine s_val (x_fa (a := .pointer (some ⟨nb0_3, 0, none⟩)) (v := .pointer (some ⟨nb0_3, 4, none⟩)) rfl (fa_blk (o := 0) Fd126_1 Sz124)) ?_
     refine s_val (x_ld (p := .pointer (some ⟨nb0_3, 4, none⟩)) (v := .map (some nb1_4)) rfl (ldb_sc Sc124 (H.blk (k := 0) rfl) rfl)) ?_
     refine s_val (x_mv (v := I year) rfl) ?_
     refine s_val (q_look (kenc := I) (venc := encSp) (f := lookM r04) (k := (year : Int)) (v := .agg #[I (((lookM r04 (year : Int)).getD default).lo), I (((lookM r04 (year : Int)).getD default).hi)]) keyIntSp Try.underlying124 Al35 rfl rfl (mlMap (H.get (k := 1) rfl)) false (by rw [if_neg (by decide), span_val])) ?_
     refine t_st (k := 2) (b := b_2) (off := 0) (cs := [I 0, I 0]) (vs := [I (((lookM r04 (year : Int)).getD default).lo), I (((lookM r04 (year : Int)).getD default).hi)]) (cs' := [I (((lookM r04 (year : Int)).getD default).lo), I (((lookM r04 (year : Int)).getD default).hi)]) (v := .agg #[I (((lookM r04 (year : Int)).getD default).lo), I (((lookM r04 (year : Int)).getD default).hi)]) (L' := [cBlk nb0_3 [v_b_Years, v_b_Olds, I r02, I r03, .map (some nb1_4)] 126, cMl I encSp nb1_4 r04, cBlk b_2 [I (((lookM r04 (year : Int)).getD default).lo), I (((lookM r04 (year : Int)).getD default).hi)] 35, cBlk b_1 [v_b_Years, v_b_Olds, I b_First, I b_Last] 26]) H rfl rfl rfl Sz35 rfl rfl rfl rfl rfl rfl ?_
     intro w26z H
     refine s_val (x_as (v := I 0) rfl) ?_
     refine s_nil ?_
     refine W.ret ?_
     have hb27z := (H.blk (k := 2) rfl)
     have hr_ := M.e_pure hM
     exact ⟨_, (resE_ofn (vs := [.agg #[I (((lookM r04 (year : Int)).getD default).lo), I (((lookM r04 (year : Int)).getD default).hi)], I 0]) rfl rfl (.cell (v := .agg #[I (((lookM r04 (year : Int)).getD default).lo), I (((lookM r04 (year : Int)).getD default).hi)]) rfl (run_loadVar_ag (ds := [I (((lookM r04 (year : Int)).getD default).lo), I (((lookM r04 (year : Int)).getD default).hi)]) Ag35 Sz35 hb27z rfl rfl) <| .tmp (v := I 0) rfl <| .nil)), ⟨(((lookM r04 (year : Int)).getD default).lo), (((lookM r04 (year : Int)).getD default).hi), 0, hr_, rfl, (H.pick [] (by decide) rfl)⟩⟩

def m_nilometerref10_Highest (b_Years : List Yr) (b_Olds : List Old10) (b_First : Int) (b_Last : Int) (year : Int) : M (Int × Int × Int) :=
  M.bind (m_nilometerref10_Clash b_Years b_Olds b_First b_Last) fun (r0, r1) =>
  bif ((r1 != 0) && (r1 != 5)) then (
  M.pure (0, 0, r1))
  else (
  M.bind (m_nilometerref10_outside year b_First b_Last) fun r2 =>
  bif r2 then (
  M.pure (0, 0, 2))
  else (
  bif r1 == 0 then (
  M.pure (0, 0, 6))
  else (
  M.bind (m_nilometerref10_span b_Years b_Olds b_First b_Last year) fun (r02, r12) =>
  M.pure (r02, r12, 0))))
set_option maxRecDepth 100000 in
set_option maxHeartbeats 16000000 in
theorem nilometerref10_Highest_ok {R : List Chunk} {C_b_Years : Cells} {v_b_Years : Value} {C_b_Olds : Cells} {v_b_Olds : Value} (b_Years : List Yr) (b_Olds : List Old10) (b_First : Int) (b_Last : Int) (year : Int) (hC_b_Years : Reads R C_b_Years) (hs_b_Years : Sl C_b_Years v_b_Years b_Years) (hC_b_Olds : Reads R C_b_Olds) (hs_b_Olds : Sl C_b_Olds v_b_Olds b_Olds) {r : (Int × Int × Int)} (hM : (m_nilometerref10_Highest b_Years b_Olds b_First b_Last year).Ends r) (w : World) (H : St w w [] R) : Ret Try.prog 51 #[.agg #[v_b_Years, v_b_Olds, I b_First, I b_Last], I year] w fun v w' => ∃ (y0 : Int) (y1 : Int) (y2 : Int), (y0, y1, y2) = r /\ v = .tuple #[.agg #[I y0, I y1], I y2] /\ St w w' [] R := by
 refine ret_of_W Try.func51 rfl rfl rfl ?_
 refine W.seq ?_
 refine W.region rfl ?_
 refine t_box (v := .agg #[v_b_Years, v_b_Olds, I b_First, I b_Last]) (cs := [v_b_Years, v_b_Olds, I b_First, I b_Last]) H rfl rfl ?_
 intro b_1 w1z H
 refine t_alloc (cs := [I 0, I 0]) H Al35 rfl ?_
 intro b_2 w2z H
 refine s_val (x_as (v := I 0) rfl) ?_
 refine s_nil ?_
 refine W.seq ?_
 refine W.region rfl ?_
 refine s_val (x_ld (p := .pointer (some ⟨b_1, 0, none⟩)) (v := .agg #[v_b_Years, v_b_Olds, I b_First, I b_Last]) rfl (ldb_ag (ds := [v_b_Years, v_b_Olds, I b_First, I b_Last]) Ag55 Sz55 (H.blk (k := 1) rfl) rfl rfl)) ?_
 obtain ⟨r4z, hx3z, hM⟩ := M.e_bind hM
 refine s_call cf50 [.agg #[v_b_Years, v_b_Olds, I b_First, I b_Last]] rfl (nilometerref10_Clash_ok b_Years b_Olds b_First b_Last (hC_b_Years.app _) hs_b_Years (hC_b_Olds.app _) hs_b_Olds hx3z _ (St.give (T := [cBlk b_2 [I 0, I 0] 35, cBlk b_1 [v_b_Years, v_b_Olds, I b_First, I b_Last] 55]) H rfl)) ?_
 rintro vq w5z ⟨r0, r1, hr6z, hvq, H2_⟩
 subst hr6z
 subst vq
 try dsimp only at hM
 replace H : St w w5z [cBlk b_2 [I 0, I 0] 35, cBlk b_1 [v_b_Years, v_b_Olds, I b_First, I b_Last] 55] R := H.back H2_ rfl
 clear H2_
 refine s_val (x_mv (v := .tuple #[I r0, I r1]) rfl) ?_
 refine s_val (x_ext (vs := [I r0, I r1]) (v := I r0) rfl rfl) ?_
 refine s_val (x_ext (vs := [I r0, I r1]) (v := I r1) rfl rfl) ?_
 refine s_val (x_as (v := I r0) rfl) ?_
 refine s_val (x_as (v := I r1) rfl) ?_
 refine s_nil ?_
 refine W.seq ?_
 refine W.seq ?_
 refine W.region rfl ?_
 refine s_val (x_mv (v := I r1) rfl) ?_
 refine s_val (x_cmp (kd := .i64) (a := r1) (b := 0) (r := r1 != 0) rfl rfl rfl) ?_
 refine s_val (x_mv (v := B (r1 != 0)) rfl) ?_
 refine g_val (r1 != 0) (gy_t rfl) (fun hg => x_mv (v := I r1) rfl) ?_
 refine g_val (r1 != 0) (gy_t rfl) (fun hg => x_cmp (kd := .i64) (a := r1) (b := 5) (r := r1 != 5) (gd_of (c := r1 != 0) hg (I r1)) rfl rfl) ?_
 refine s_val (x_pand (b := r1 != 0) (r := r1 != 5) rfl (fun hb => gd_of (c := r1 != 0) (by first | exact hb | (rw [hb]; rfl) | simp_all) (B (r1 != 5))) rfl) ?_
 refine s_nil ?_
 refine W.cond ((r1 != 0) && (r1 != 5)) rfl (fun c7z => ?_) (fun c7z => ?_)
 ·replace hM := M.e_t hM c7z
  refine W.seq ?_
  refine W.region rfl ?_
  refine s_val (x_bld (ps := []) (zs := [I 0, I 0]) (L' := [I 0, I 0]) rfl Try.underlying35 Al35 rfl (Bd35 Try.underlying35) (.nil)) ?_
  refine s_val (x_mv (v := I r1) rfl) ?_
  refine t_st (k := 0) (b := b_2) (off := 0) (cs := [I 0, I 0]) (vs := [I 0, I 0]) (cs' := [I 0, I 0]) (v := .agg #[I 0, I 0]) (L' := [cBlk b_2 [I 0, I 0] 35, cBlk b_1 [v_b_Years, v_b_Olds, I b_First, I b_Last] 55]) H rfl rfl rfl Sz35 rfl rfl rfl rfl rfl rfl ?_
  intro w8z H
  refine s_val (x_as (v := I r1) rfl) ?_
  refine s_nil ?_
  refine W.ret ?_
  have hb9z := (H.blk (k := 0) rfl)
  have hr_ := M.e_pure hM
  exact ⟨_, (resE_ofn (vs := [.agg #[I 0, I 0], I r1]) rfl rfl (.cell (v := .agg #[I 0, I 0]) rfl (run_loadVar_ag (ds := [I 0, I 0]) Ag35 Sz35 hb9z rfl rfl) <| .tmp (v := I r1) rfl <| .nil)), ⟨0, 0, r1, hr_, rfl, (H.pick [] (by decide) rfl)⟩⟩
 ·replace hM := M.e_f hM c7z
  refine W.skip ?_
  refine W.seq ?_
  refine W.seq ?_
  refine W.region rfl ?_
  refine s_val (x_mv (v := I year) rfl) ?_
  refine s_val (x_fa (a := .pointer (some ⟨b_1, 0, none⟩)) (v := .pointer (some ⟨b_1, 2, none⟩)) rfl (fa_blk (o := 0) Fd55_2 Sz3)) ?_
  refine s_val (x_ld (p := .pointer (some ⟨b_1, 2, none⟩)) (v := I b_First) rfl (ldb_sc Sc3 (H.blk (k := 1) rfl) rfl)) ?_
  refine s_val (x_fa (a := .pointer (some ⟨b_1, 0, none⟩)) (v := .pointer (some ⟨b_1, 3, none⟩)) rfl (fa_blk (o := 0) Fd55_3 Sz3)) ?_
  refine s_val (x_ld (p := .pointer (some ⟨b_1, 3, none⟩)) (v := I b_Last) rfl (ldb_sc Sc3 (H.blk (k := 1) rfl) rfl)) ?_
  obtain ⟨r11z, hx10z, hM⟩ := M.e_bind hM
  refine s_call cf67 [I year, I b_First, I b_Last] rfl (nilometerref10_outside_ok year b_First b_Last hx10z _ (St.give (T := [cBlk b_2 [I 0, I 0] 35, cBlk b_1 [v_b_Years, v_b_Olds, I b_First, I b_Last] 55]) H rfl)) ?_
  rintro vq w12z ⟨r2, hr13z, hvq, H2_⟩
  subst hr13z
  subst vq
  try dsimp only at hM
  replace H : St w w12z [cBlk b_2 [I 0, I 0] 35, cBlk b_1 [v_b_Years, v_b_Olds, I b_First, I b_Last] 55] R := H.back H2_ rfl
  clear H2_
  refine s_nil ?_
  refine W.cond r2 rfl (fun c14z => ?_) (fun c14z => ?_)
  ·replace hM := M.e_t hM c14z
   refine W.seq ?_
   refine W.region rfl ?_
   refine s_val (x_bld (ps := []) (zs := [I 0, I 0]) (L' := [I 0, I 0]) rfl Try.underlying35 Al35 rfl (Bd35 Try.underlying35) (.nil)) ?_
   refine t_st (k := 0) (b := b_2) (off := 0) (cs := [I 0, I 0]) (vs := [I 0, I 0]) (cs' := [I 0, I 0]) (v := .agg #[I 0, I 0]) (L' := [cBlk b_2 [I 0, I 0] 35, cBlk b_1 [v_b_Years, v_b_Olds, I b_First, I b_Last] 55]) H rfl rfl rfl Sz35 rfl rfl rfl rfl rfl rfl ?_
   intro w15z H
   refine s_val (x_as (v := I 2) rfl) ?_
   refine s_nil ?_
   refine W.ret ?_
   have hb16z := (H.blk (k := 0) rfl)
   have hr_ := M.e_pure hM
   exact ⟨_, (resE_ofn (vs := [.agg #[I 0, I 0], I 2]) rfl rfl (.cell (v := .agg #[I 0, I 0]) rfl (run_loadVar_ag (ds := [I 0, I 0]) Ag35 Sz35 hb16z rfl rfl) <| .tmp (v := I 2) rfl <| .nil)), ⟨0, 0, 2, hr_, rfl, (H.pick [] (by decide) rfl)⟩⟩
  ·replace hM := M.e_f hM c14z
   refine W.skip ?_
   refine W.seq ?_
   refine W.seq ?_
   refine W.region rfl ?_
   refine s_val (x_mv (v := I r1) rfl) ?_
   refine s_val (x_cmp (kd := .i64) (a := r1) (b := 0) (r := r1 == 0) rfl rfl rfl) ?_
   refine s_nil ?_
   refine W.cond (r1 == 0) rfl (fun c17z => ?_) (fun c17z => ?_)
   ·replace hM := M.e_t hM c17z
    simp only [decide_eq_true_eq, decide_eq_false_iff_not, beq_iff_eq, bne_iff_ne, beq_eq_false_iff_ne, bne_eq_false_iff_eq, ne_eq, Decidable.not_not] at c17z
    refine W.seq ?_
    refine W.region rfl ?_
    refine s_val (x_bld (ps := []) (zs := [I 0, I 0]) (L' := [I 0, I 0]) rfl Try.underlying35 Al35 rfl (Bd35 Try.underlying35) (.nil)) ?_
    refine t_st (k := 0) (b := b_2) (off := 0) (cs := [I 0, I 0]) (vs := [I 0, I 0]) (cs' := [I 0, I 0]) (v := .agg #[I 0, I 0]) (L' := [cBlk b_2 [I 0, I 0] 35, cBlk b_1 [v_b_Years, v_b_Olds, I b_First, I b_Last] 55]) H rfl rfl rfl Sz35 rfl rfl rfl rfl rfl rfl ?_
    intro w18z H
    refine s_val (x_as (v := I 6) rfl) ?_
    refine s_nil ?_
    refine W.ret ?_
    have hb19z := (H.blk (k := 0) rfl)
    have hr_ := M.e_pure hM
    exact ⟨_, (resE_ofn (vs := [.agg #[I 0, I 0], I 6]) rfl rfl (.cell (v := .agg #[I 0, I 0]) rfl (run_loadVar_ag (ds := [I 0, I 0]) Ag35 Sz35 hb19z rfl rfl) <| .tmp (v := I 6) rfl <| .nil)), ⟨0, 0, 6, hr_, rfl, (H.pick [] (by decide) rfl)⟩⟩
   ·replace hM := M.e_f hM c17z
    simp only [decide_eq_true_eq, decide_eq_false_iff_not, beq_iff_eq, bne_iff_ne, beq_eq_false_iff_ne, bne_eq_false_iff_eq, ne_eq, Decidable.not_not] at c17z
    refine W.skip ?_
    refine W.seq ?_
    refine W.region rfl ?_
    refine s_val (x_ld (p := .pointer (some ⟨b_1, 0, none⟩)) (v := .agg #[v_b_Years, v_b_Olds, I b_First, I b_Last]) rfl (ldb_ag (ds := [v_b_Years, v_b_Olds, I b_First, I b_Last]) Ag55 Sz55 (H.blk (k := 1) rfl) rfl rfl)) ?_
    refine s_val (x_mv (v := I year) rfl) ?_
    obtain ⟨r21z, hx20z, hM⟩ := M.e_bind hM
    refine s_call cf66 [.agg #[v_b_Years, v_b_Olds, I b_First, I b_Last], I year] rfl (nilometerref10_span_ok b_Years b_Olds b_First b_Last year (hC_b_Years.app _) hs_b_Years (hC_b_Olds.app _) hs_b_Olds hx20z _ (St.give (T := [cBlk b_2 [I 0, I 0] 35, cBlk b_1 [v_b_Years, v_b_Olds, I b_First, I b_Last] 55]) H rfl)) ?_
    rintro vq w22z ⟨r02, r12, hr23z, hvq, H2_⟩
    subst hr23z
    subst vq
    try dsimp only at hM
    replace H : St w w22z [cBlk b_2 [I 0, I 0] 35, cBlk b_1 [v_b_Years, v_b_Olds, I b_First, I b_Last] 55] R := H.back H2_ rfl
    clear H2_
    refine t_st (k := 0) (b := b_2) (off := 0) (cs := [I 0, I 0]) (vs := [I r02, I r12]) (cs' := [I r02, I r12]) (v := .agg #[I r02, I r12]) (L' := [cBlk b_2 [I r02, I r12] 35, cBlk b_1 [v_b_Years, v_b_Olds, I b_First, I b_Last] 55]) H rfl rfl rfl Sz35 rfl rfl rfl rfl rfl rfl ?_
    intro w24z H
    refine s_val (x_as (v := I 0) rfl) ?_
    refine s_nil ?_
    refine W.ret ?_
    have hb25z := (H.blk (k := 0) rfl)
    have hr_ := M.e_pure hM
    exact ⟨_, (resE_ofn (vs := [.agg #[I r02, I r12], I 0]) rfl rfl (.cell (v := .agg #[I r02, I r12]) rfl (run_loadVar_ag (ds := [I r02, I r12]) Ag35 Sz35 hb25z rfl rfl) <| .tmp (v := I 0) rfl <| .nil)), ⟨r02, r12, 0, hr_, rfl, (H.pick [] (by decide) rfl)⟩⟩

def m_nilometerkit_Same_often_Year_b0 (a : List Yr) (b : List Yr) : Nat -> M (Nat ⊕ (Unit ⊕ Unit)) := fun i =>
  bif decide ((i : Int) < (a.length : Int)) then (
  M.grd (decide ((i : Int) < (a.length : Int))) <|
  M.grd (decide ((i : Int) < (b.length : Int))) <|
  bif !(decide ((a.getD i default) = (b.getD i default))) then (
  M.pure (.inr (.inl ())))
  else (
  M.pure (.inl (i + 1))))
  else (
  M.pure (.inr (.inr ())))
def m_nilometerkit_Same_often_Year (a : List Yr) (b : List Yr) : M Bool :=
  bif (a.length : Int) != (b.length : Int) then (
  M.pure false)
  else (
  M.bind (M.iter (m_nilometerkit_Same_often_Year_b0 a b) 0) fun x_ => match x_ with
  | (.inl (_ : Unit)) => (
  M.pure false)
  | (.inr (_ : Unit)) => (
  M.pure true))
set_option maxRecDepth 100000 in
set_option maxHeartbeats 16000000 in
theorem nilometerkit_Same_often_Year_ok {R : List Chunk} {C_a : Cells} {v_a : Value} {C_b : Cells} {v_b : Value} (a : List Yr) (b : List Yr) (hC_a : Reads R C_a) (hs_a : Sl C_a v_a a) (hC_b : Reads R C_b) (hs_b : Sl C_b v_b b) {r : Bool} (hM : (m_nilometerkit_Same_often_Year a b).Ends r) (w : World) (H : St w w [] R) : Ret Try.prog 70 #[v_a, v_b] w fun v w' => ∃ (y0 : Bool), y0 = r /\ v = B y0 /\ St w w' [] R := by
 refine ret_of_W Try.func70 rfl rfl rfl ?_
 refine W.seq ?_
 refine W.region rfl ?_
 refine s_val (x_as (v := B false) rfl) ?_
 refine s_nil ?_
 refine W.seq ?_
 refine W.seq ?_
 refine W.region rfl ?_
 refine s_val (x_mv (v := v_a) rfl) ?_
 have hl1z := (hs_a).len_le
 refine s_val (x_lenS T23.und rfl hs_a) ?_
 refine s_val (x_mv (v := v_b) rfl) ?_
 have hl2z := (hs_b).len_le
 refine s_val (x_lenS T23.und rfl hs_b) ?_
 refine s_val (x_cmp (kd := .i64) (a := (a.length : Int)) (b := (b.length : Int)) (r := (a.length : Int) != (b.length : Int)) rfl rfl rfl) ?_
 refine s_nil ?_
 refine W.cond ((a.length : Int) != (b.length : Int)) rfl (fun c3z => ?_) (fun c3z => ?_)
 ·replace hM := M.e_t hM c3z
  simp only [decide_eq_true_eq, decide_eq_false_iff_not, beq_iff_eq, bne_iff_ne, beq_eq_false_iff_ne, bne_eq_false_iff_eq, ne_eq, Decidable.not_not] at c3z
  refine W.seq ?_
  refine W.region rfl ?_
  refine s_val (x_as (v := B false) rfl) ?_
  refine s_nil ?_
  refine W.ret ?_
  have hr_ := M.e_pure hM
  exact ⟨_, resE_tmp rfl, ⟨false, hr_, rfl, H⟩⟩
 ·replace hM := M.e_f hM c3z
  simp only [decide_eq_true_eq, decide_eq_false_iff_not, beq_iff_eq, bne_iff_ne, beq_eq_false_iff_ne, bne_eq_false_iff_eq, ne_eq, Decidable.not_not] at c3z
  refine W.skip ?_
  refine W.seq ?_
  refine W.seq ?_
  refine W.region rfl ?_
  refine s_val (x_as (v := I 0) rfl) ?_
  refine s_nil ?_
  refine W.block ?_
  obtain ⟨ex4z, hi5z, hk6z⟩ := M.e_bind hM
  obtain ⟨m0_, hi5z⟩ := M.e_iter hi5z
  refine W.loop (fun m σ W => ∃ (i : Nat) (ρ : Env), σ = upds ρ [(0, v_a), (1, v_b), (5, I (i : Int))] /\ M.iterN (m_nilometerkit_Same_often_Year_b0 a b) m i = some ex4z /\ St w W [] R) ?_ ?_
  ·exact ⟨_, 0, _, upds_of _ _ ⟨rfl, rfl, rfl, trivial⟩, hi5z, H⟩
  ·rintro m9z σ w7z ⟨i, ρ, rfl, hI8z, H⟩
   obtain ⟨m10z, lt11z, x12z, hM, hN13z⟩ := M.e_iterN hI8z
   simp only [m_nilometerkit_Same_often_Year_b0] at hM
   clear hI8z
   refine W.seq ?_
   refine W.seq ?_
   refine W.region rfl ?_
   refine s_val (x_mv (v := I (i : Int)) rfl) ?_
   refine s_val (x_mv (v := v_a) rfl) ?_
   have hl14z := (hs_a).len_le
   refine s_val (x_lenS T23.und rfl hs_a) ?_
   refine s_val (x_cmp (kd := .i64) (a := (i : Int)) (b := (a.length : Int)) (r := decide ((i : Int) < (a.length : Int))) rfl rfl rfl) ?_
   refine s_nil ?_
   refine W.cond (decide ((i : Int) < (a.length : Int))) rfl (fun c15z => ?_) (fun c15z => ?_)
   ·replace hM := M.e_t hM c15z
    simp only [decide_eq_true_eq, decide_eq_false_iff_not, beq_iff_eq, bne_iff_ne, beq_eq_false_iff_ne, bne_eq_false_iff_eq, ne_eq, Decidable.not_not] at c15z
    refine W.skip ?_
    refine W.seq ?_
    refine W.block ?_
    refine W.seq ?_
    refine W.draw (fun W => St w W [] R) [(0, true), (1, true), (2, true), (3, true), (4, true), (5, true), (6, true), (7, true), (8, true)] mixed (by decide +kernel) rfl ?_
    intro w16z hx_
    replace H : St w w16z [] R := H.ext hx_
    clear hx_
    refine ⟨(H.pick [] (by decide) rfl), ?_⟩
    refine d_q rfl (fun w' H => x_mv (v := v_a) rfl) ?_
    refine d_q rfl (fun w' H => x_mv (v := I (i : Int)) rfl) ?_
    obtain ⟨sd17z, hM⟩ := M.e_grd hM
    simp only [Bool.and_eq_true, decide_eq_true_eq] at sd17z
    refine d_q rfl (fun w' H => x_ix (a := v_a) (b := I (i : Int)) (v := vat v_a 3 (Int.toNat (i : Int))) rfl rfl (Sl.ix (α := Yr) T23.und T23.size hs_a (by omega) (by omega))) ?_
    refine d_q rfl (fun w' H => x_ld (p := vat v_a 3 (Int.toNat (i : Int))) (v := .agg #[I ((a.getD i default).year), I ((a.getD i default).lo), I ((a.getD i default).hi)]) rfl (ld_ag Ag41 Sz41 (At.mono (Yr_atA hs_a (i := (i : Int)) (by omega) (by omega)) (hC_a.at H)))) ?_
    refine d_q rfl (fun w' H => x_mv (v := v_b) rfl) ?_
    refine d_q rfl (fun w' H => x_mv (v := I (i : Int)) rfl) ?_
    obtain ⟨sd18z, hM⟩ := M.e_grd hM
    simp only [Bool.and_eq_true, decide_eq_true_eq] at sd18z
    refine d_q rfl (fun w' H => x_ix (a := v_b) (b := I (i : Int)) (v := vat v_b 3 (Int.toNat (i : Int))) rfl rfl (Sl.ix (α := Yr) T23.und T23.size hs_b (by omega) (by omega))) ?_
    refine d_q rfl (fun w' H => x_ld (p := vat v_b 3 (Int.toNat (i : Int))) (v := .agg #[I ((b.getD i default).year), I ((b.getD i default).lo), I ((b.getD i default).hi)]) rfl (ld_ag Ag41 Sz41 (At.mono (Yr_atA hs_b (i := (i : Int)) (by omega) (by omega)) (hC_b.at H)))) ?_
    refine d_q rfl (fun w' H => x_neS (eqT41 (a.getD i default) (b.getD i default) _) gdT41 rfl rfl) ?_
    refine d_nil ?_
    refine W.cond (!(decide ((a.getD i default) = (b.getD i default)))) rfl (fun c19z => ?_) (fun c19z => ?_)
    ·replace hM := M.e_t hM c19z
     refine W.seq ?_
     refine W.region rfl ?_
     refine s_val (x_as (v := B false) rfl) ?_
     refine s_nil ?_
     refine W.ret ?_
     have hX20z := M.e_inr hM hN13z
     subst hX20z
     replace hM := hk6z
     try dsimp only at hM
     have hr_ := M.e_pure hM
     exact ⟨_, resE_tmp rfl, ⟨false, hr_, rfl, H⟩⟩
    ·replace hM := M.e_f hM c19z
     refine W.skip ?_
     refine W.region rfl ?_
     refine s_val (x_mv (v := I (i : Int)) rfl) ?_
     refine s_val (x_ari (a := (i : Int)) (b := 1) (r := (i : Int) + 1) rfl rfl rfl (by omega)) ?_
     refine s_val (x_as (v := I ((i : Int) + 1)) rfl) ?_
     refine s_nil ?_
     exact ⟨m10z, lt11z, i + 1, _, upds_of _ _ ⟨rfl, rfl, rfl, trivial⟩, M.e_inl hM hN13z, H⟩
   ·replace hM := M.e_f hM c15z
    simp only [decide_eq_true_eq, decide_eq_false_iff_not, beq_iff_eq, bne_iff_ne, beq_eq_false_iff_ne, bne_eq_false_iff_eq, ne_eq, Decidable.not_not] at c15z
    refine W.exit ?_
    have hX21z := M.e_inr hM hN13z
    subst hX21z
    replace hM := hk6z
    try dsimp only at hM
    refine W.seq ?_
    refine W.region rfl ?_
    refine s_val (x_as (v := B true) rfl) ?_
    refine s_nil ?_
    refine W.ret ?_
    have hr_ := M.e_pure hM
    exact ⟨_, resE_tmp rfl, ⟨true, hr_, rfl, H⟩⟩

def m_nilometerlaw10_same_b0 (a_Olds : List Old10) (b_Olds : List Old10) : Nat -> M (Nat ⊕ (Unit ⊕ Unit)) := fun i =>
  bif decide ((i : Int) < (a_Olds.length : Int)) then (
  M.grd (decide ((i : Int) < (a_Olds.length : Int))) <|
  M.grd (decide ((i : Int) < (b_Olds.length : Int))) <|
  M.bind (M.opt (!(((((a_Olds.getD i default).src) != ((b_Olds.getD i default).src)) || (((a_Olds.getD i default).dst) != ((b_Olds.getD i default).dst))) || (((a_Olds.getD i default).stage) != ((b_Olds.getD i default).stage)))) (m_nilometerkit_Same_int ((a_Olds.getD i default).passed) ((b_Olds.getD i default).passed)) false) fun r3 =>
  bif ((((((a_Olds.getD i default).src) != ((b_Olds.getD i default).src)) || (((a_Olds.getD i default).dst) != ((b_Olds.getD i default).dst))) || (((a_Olds.getD i default).stage) != ((b_Olds.getD i default).stage))) || (!r3)) then (
  M.pure (.inr (.inl ())))
  else (
  M.pure (.inl (i + 1))))
  else (
  M.pure (.inr (.inr ())))
def m_nilometerlaw10_same (a_Years : List Yr) (a_Olds : List Old10) (a_First : Int) (a_Last : Int) (b_Years : List Yr) (b_Olds : List Old10) (b_First : Int) (b_Last : Int) : M Bool :=
  M.bind (M.opt (!((a_First != b_First) || (a_Last != b_Last))) (m_nilometerkit_Same_often_Year a_Years b_Years) false) fun r2 =>
  bif ((((a_First != b_First) || (a_Last != b_Last)) || (!r2)) || ((a_Olds.length : Int) != (b_Olds.length : Int))) then (
  M.pure false)
  else (
  M.bind (M.iter (m_nilometerlaw10_same_b0 a_Olds b_Olds) 0) fun x_ => match x_ with
  | (.inl (_ : Unit)) => (
  M.pure false)
  | (.inr (_ : Unit)) => (
  M.pure true))
set_option maxRecDepth 100000 in
set_option maxHeartbeats 16000000 in
theorem nilometerlaw10_same_ok {R : List Chunk} {C_a_Years : Cells} {v_a_Years : Value} {C_a_Olds : Cells} {v_a_Olds : Value} {C_b_Years : Cells} {v_b_Years : Value} {C_b_Olds : Cells} {v_b_Olds : Value} (a_Years : List Yr) (a_Olds : List Old10) (a_First : Int) (a_Last : Int) (b_Years : List Yr) (b_Olds : List Old10) (b_First : Int) (b_Last : Int) (hC_a_Years : Reads R C_a_Years) (hs_a_Years : Sl C_a_Years v_a_Years a_Years) (hC_a_Olds : Reads R C_a_Olds) (hs_a_Olds : Sl C_a_Olds v_a_Olds a_Olds) (hC_b_Years : Reads R C_b_Years) (hs_b_Years : Sl C_b_Years v_b_Years b_Years) (hC_b_Olds : Reads R C_b_Olds) (hs_b_Olds : Sl C_b_Olds v_b_Olds b_Olds) {r : Bool} (hM : (m_nilometerlaw10_same a_Years a_Olds a_First a_Last b_Years b_Olds b_First b_Last).Ends r) (w : World) (H : St w w [] R) : Ret Try.prog 29 #[.agg #[v_a_Years, v_a_Olds, I a_First, I a_Last], .agg #[v_b_Years, v_b_Olds, I b_First, I b_Last]] w fun v w' => ∃ (y0 : Bool), y0 = r /\ v = B y0 /\ St w w' [] R := by
 refine ret_of_W Try.func29 rfl rfl rfl ?_
 refine W.seq ?_
 refine W.region rfl ?_
 refine t_box (v := .agg #[v_a_Years, v_a_Olds, I a_First, I a_Last]) (cs := [v_a_Years, v_a_Olds, I a_First, I a_Last]) H rfl rfl ?_
 intro b_1 w1z H
 refine t_box (v := .agg #[v_b_Years, v_b_Olds, I b_First, I b_Last]) (cs := [v_b_Years, v_b_Olds, I b_First, I b_Last]) H rfl rfl ?_
 intro b_2 w2z H
 refine s_val (x_as (v := B false) rfl) ?_
 refine s_nil ?_
 refine W.seq ?_
 refine W.seq ?_
 refine W.region rfl ?_
 refine s_val (x_fa (a := .pointer (some ⟨b_1, 0, none⟩)) (v := .pointer (some ⟨b_1, 2, none⟩)) rfl (fa_blk (o := 0) Fd26_2 Sz3)) ?_
 refine s_val (x_ld (p := .pointer (some ⟨b_1, 2, none⟩)) (v := I a_First) rfl (ldb_sc Sc3 (H.blk (k := 1) rfl) rfl)) ?_
 refine s_val (x_fa (a := .pointer (some ⟨b_2, 0, none⟩)) (v := .pointer (some ⟨b_2, 2, none⟩)) rfl (fa_blk (o := 0) Fd26_2 Sz3)) ?_
 refine s_val (x_ld (p := .pointer (some ⟨b_2, 2, none⟩)) (v := I b_First) rfl (ldb_sc Sc3 (H.blk (k := 0) rfl) rfl)) ?_
 refine s_val (x_cmp (kd := .i64) (a := a_First) (b := b_First) (r := a_First != b_First) rfl rfl rfl) ?_
 refine s_val (x_mv (v := B (a_First != b_First)) rfl) ?_
 refine g_val (!(a_First != b_First)) (gy_f rfl) (fun hg => x_fa (a := .pointer (some ⟨b_1, 0, none⟩)) (v := .pointer (some ⟨b_1, 3, none⟩)) rfl (fa_blk (o := 0) Fd26_3 Sz3)) ?_
 refine g_val (!(a_First != b_First)) (gy_f rfl) (fun hg => x_ld (p := .pointer (some ⟨b_1, 3, none⟩)) (v := I a_Last) (gd_of (c := !(a_First != b_First)) hg (.pointer (some ⟨b_1, 3, none⟩))) (ldb_sc Sc3 (H.blk (k := 1) rfl) rfl)) ?_
 refine g_val (!(a_First != b_First)) (gy_f rfl) (fun hg => x_fa (a := .pointer (some ⟨b_2, 0, none⟩)) (v := .pointer (some ⟨b_2, 3, none⟩)) rfl (fa_blk (o := 0) Fd26_3 Sz3)) ?_
 refine g_val (!(a_First != b_First)) (gy_f rfl) (fun hg => x_ld (p := .pointer (some ⟨b_2, 3, none⟩)) (v := I b_Last) (gd_of (c := !(a_First != b_First)) hg (.pointer (some ⟨b_2, 3, none⟩))) (ldb_sc Sc3 (H.blk (k := 0) rfl) rfl)) ?_
 refine g_val (!(a_First != b_First)) (gy_f rfl) (fun hg => x_cmp (kd := .i64) (a := a_Last) (b := b_Last) (r := a_Last != b_Last) (gd_of (c := !(a_First != b_First)) hg (I a_Last)) (gd_of (c := !(a_First != b_First)) hg (I b_Last)) rfl) ?_
 refine s_val (x_por (b := a_First != b_First) (r := a_Last != b_Last) rfl rfl (fun hb => gd_of (c := !(a_First != b_First)) (by first | exact hb | (rw [hb]; rfl) | simp_all) (B (a_Last != b_Last)))) ?_
 refine s_val (x_mv (v := B ((a_First != b_First) || (a_Last != b_Last))) rfl) ?_
 refine g_val (!((a_First != b_First) || (a_Last != b_Last))) (gy_f rfl) (fun hg => x_fa (a := .pointer (some ⟨b_1, 0, none⟩)) (v := .pointer (some ⟨b_1, 0, none⟩)) rfl (fa_blk (o := 0) Fd26_0 Sz23)) ?_
 refine g_val (!((a_First != b_First) || (a_Last != b_Last))) (gy_f rfl) (fun hg => x_ld (p := .pointer (some ⟨b_1, 0, none⟩)) (v := v_a_Years) (gd_of (c := !((a_First != b_First) || (a_Last != b_Last))) hg (.pointer (some ⟨b_1, 0, none⟩))) (ldb_sc Sc23 (H.blk (k := 1) rfl) rfl)) ?_
 refine g_val (!((a_First != b_First) || (a_Last != b_Last))) (gy_f rfl) (fun hg => x_fa (a := .pointer (some ⟨b_2, 0, none⟩)) (v := .pointer (some ⟨b_2, 0, none⟩)) rfl (fa_blk (o := 0) Fd26_0 Sz23)) ?_
 refine g_val (!((a_First != b_First) || (a_Last != b_Last))) (gy_f rfl) (fun hg => x_ld (p := .pointer (some ⟨b_2, 0, none⟩)) (v := v_b_Years) (gd_of (c := !((a_First != b_First) || (a_Last != b_Last))) hg (.pointer (some ⟨b_2, 0, none⟩))) (ldb_sc Sc23 (H.blk (k := 0) rfl) rfl)) ?_
 obtain ⟨r2, hx3z, hM⟩ := M.e_bind hM
 refine t_gcall (!((a_First != b_First) || (a_Last != b_Last))) (gy_f rfl) cf70 (B r2) (fun _ => [v_a_Years, v_b_Years]) (fun hg => lst2 (gd_of (c := !((a_First != b_First) || (a_Last != b_Last))) hg (v_a_Years)) (gd_of (c := !((a_First != b_First) || (a_Last != b_Last))) hg (v_b_Years))) H (fun hg => (nilometerkit_Same_often_Year_ok a_Years b_Years (hC_a_Years.app _) hs_a_Years (hC_b_Years.app _) hs_b_Years (M.e_opt hx3z hg) _ (H.give (A := []) rfl)).mono fun v_ w_ ⟨y_, hr_, hv_, H_⟩ => by subst hr_; exact ⟨hv_, H.via H_⟩) ?_
 intro w4z H
 refine g_val (!((a_First != b_First) || (a_Last != b_Last))) (gy_f rfl) (fun hg => x_not (b := r2) (gd_of (c := !((a_First != b_First) || (a_Last != b_Last))) hg (B r2))) ?_
 refine s_val (x_por (b := ((a_First != b_First) || (a_Last != b_Last))) (r := !r2) rfl rfl (fun hb => gd_of (c := !((a_First != b_First) || (a_Last != b_Last))) (by first | exact hb | (rw [hb]; rfl) | simp_all) (B (!r2)))) ?_
 refine s_val (x_mv (v := B (((a_First != b_First) || (a_Last != b_Last)) || (!r2))) rfl) ?_
 refine g_val (!(((a_First != b_First) || (a_Last != b_Last)) || (!r2))) (gy_f rfl) (fun hg => x_fa (a := .pointer (some ⟨b_1, 0, none⟩)) (v := .pointer (some ⟨b_1, 1, none⟩)) rfl (fa_blk (o := 0) Fd26_1 Sz24)) ?_
 refine g_val (!(((a_First != b_First) || (a_Last != b_Last)) || (!r2))) (gy_f rfl) (fun hg => x_ld (p := .pointer (some ⟨b_1, 1, none⟩)) (v := v_a_Olds) (gd_of (c := !(((a_First != b_First) || (a_Last != b_Last)) || (!r2))) hg (.pointer (some ⟨b_1, 1, none⟩))) (ldb_sc Sc24 (H.blk (k := 1) rfl) rfl)) ?_
 refine g_val (!(((a_First != b_First) || (a_Last != b_Last)) || (!r2))) (gy_f rfl) (fun hg => x_lenS T24.und (gd_of (c := !(((a_First != b_First) || (a_Last != b_Last)) || (!r2))) hg (v_a_Olds)) hs_a_Olds) ?_
 refine g_val (!(((a_First != b_First) || (a_Last != b_Last)) || (!r2))) (gy_f rfl) (fun hg => x_fa (a := .pointer (some ⟨b_2, 0, none⟩)) (v := .pointer (some ⟨b_2, 1, none⟩)) rfl (fa_blk (o := 0) Fd26_1 Sz24)) ?_
 refine g_val (!(((a_First != b_First) || (a_Last != b_Last)) || (!r2))) (gy_f rfl) (fun hg => x_ld (p := .pointer (some ⟨b_2, 1, none⟩)) (v := v_b_Olds) (gd_of (c := !(((a_First != b_First) || (a_Last != b_Last)) || (!r2))) hg (.pointer (some ⟨b_2, 1, none⟩))) (ldb_sc Sc24 (H.blk (k := 0) rfl) rfl)) ?_
 refine g_val (!(((a_First != b_First) || (a_Last != b_Last)) || (!r2))) (gy_f rfl) (fun hg => x_lenS T24.und (gd_of (c := !(((a_First != b_First) || (a_Last != b_Last)) || (!r2))) hg (v_b_Olds)) hs_b_Olds) ?_
 refine g_val (!(((a_First != b_First) || (a_Last != b_Last)) || (!r2))) (gy_f rfl) (fun hg => x_cmp (kd := .i64) (a := (a_Olds.length : Int)) (b := (b_Olds.length : Int)) (r := (a_Olds.length : Int) != (b_Olds.length : Int)) (gd_of (c := !(((a_First != b_First) || (a_Last != b_Last)) || (!r2))) hg (I (a_Olds.length : Int))) (gd_of (c := !(((a_First != b_First) || (a_Last != b_Last)) || (!r2))) hg (I (b_Olds.length : Int))) rfl) ?_
 refine s_val (x_por (b := (((a_First != b_First) || (a_Last != b_Last)) || (!r2))) (r := (a_Olds.length : Int) != (b_Olds.length : Int)) rfl rfl (fun hb => gd_of (c := !(((a_First != b_First) || (a_Last != b_Last)) || (!r2))) (by first | exact hb | (rw [hb]; rfl) | simp_all) (B ((a_Olds.length : Int) != (b_Olds.length : Int))))) ?_
 refine s_nil ?_
 refine W.cond ((((a_First != b_First) || (a_Last != b_Last)) || (!r2)) || ((a_Olds.length : Int) != (b_Olds.length : Int))) rfl (fun c7z => ?_) (fun c7z => ?_)
 ·replace hM := M.e_t hM c7z
  refine W.seq ?_
  refine W.region rfl ?_
  refine s_val (x_as (v := B false) rfl) ?_
  refine s_nil ?_
  refine W.ret ?_
  have hr_ := M.e_pure hM
  exact ⟨_, resE_tmp rfl, ⟨false, hr_, rfl, (H.pick [] (by decide) rfl)⟩⟩
 ·replace hM := M.e_f hM c7z
  refine W.skip ?_
  refine W.seq ?_
  refine W.seq ?_
  refine W.region rfl ?_
  refine s_val (x_as (v := I 0) rfl) ?_
  refine s_nil ?_
  refine W.block ?_
  obtain ⟨ex8z, hi9z, hk10z⟩ := M.e_bind hM
  obtain ⟨m0_, hi9z⟩ := M.e_iter hi9z
  refine W.loop (fun m σ W => ∃ (i : Nat) (ρ : Env), σ = upds ρ [(2, .pointer (some ⟨b_1, 0, none⟩)), (3, .pointer (some ⟨b_2, 0, none⟩)), (5, I (i : Int))] /\ M.iterN (m_nilometerlaw10_same_b0 a_Olds b_Olds) m i = some ex8z /\ St w W [cBlk b_2 [v_b_Years, v_b_Olds, I b_First, I b_Last] 26, cBlk b_1 [v_a_Years, v_a_Olds, I a_First, I a_Last] 26] R) ?_ ?_
  ·exact ⟨_, 0, _, upds_of _ _ ⟨rfl, rfl, rfl, trivial⟩, hi9z, H⟩
  ·rintro m13z σ w11z ⟨i, ρ, rfl, hI12z, H⟩
   obtain ⟨m14z, lt15z, x16z, hM, hN17z⟩ := M.e_iterN hI12z
   simp only [m_nilometerlaw10_same_b0] at hM
   clear hI12z
   refine W.seq ?_
   refine W.seq ?_
   refine W.region rfl ?_
   refine s_val (x_mv (v := I (i : Int)) rfl) ?_
   refine s_val (x_fa (a := .pointer (some ⟨b_1, 0, none⟩)) (v := .pointer (some ⟨b_1, 1, none⟩)) rfl (fa_blk (o := 0) Fd26_1 Sz24)) ?_
   refine s_val (x_ld (p := .pointer (some ⟨b_1, 1, none⟩)) (v := v_a_Olds) rfl (ldb_sc Sc24 (H.blk (k := 1) rfl) rfl)) ?_
   have hl18z := (hs_a_Olds).len_le
   refine s_val (x_lenS T24.und rfl hs_a_Olds) ?_
   refine s_val (x_cmp (kd := .i64) (a := (i : Int)) (b := (a_Olds.length : Int)) (r := decide ((i : Int) < (a_Olds.length : Int))) rfl rfl rfl) ?_
   refine s_nil ?_
   refine W.cond (decide ((i : Int) < (a_Olds.length : Int))) rfl (fun c19z => ?_) (fun c19z => ?_)
   ·replace hM := M.e_t hM c19z
    simp only [decide_eq_true_eq, decide_eq_false_iff_not, beq_iff_eq, bne_iff_ne, beq_eq_false_iff_ne, bne_eq_false_iff_eq, ne_eq, Decidable.not_not] at c19z
    refine W.skip ?_
    refine W.seq ?_
    refine W.block ?_
    refine W.seq ?_
    refine W.drawT (fun W => St w W [cBlk b_2 [v_b_Years, v_b_Olds, I b_First, I b_Last] 26, cBlk b_1 [v_a_Years, v_a_Olds, I a_First, I a_Last] 26] R) (.q 0 (.q 1 (.q 2 (.q 3 (.q 4 (.q 5 (.q 6 (.q 7 (.q 8 (.q 9 (.l2 10 (.l 11 (.l 12 (.l 13 .nil))) 11 (.l 10 (.l 12 (.l 13 .nil)))))))))))))) mixed (by decide +kernel) rfl ?_
    intro w20z hx_
    replace H : St w w20z [cBlk b_2 [v_b_Years, v_b_Olds, I b_First, I b_Last] 26, cBlk b_1 [v_a_Years, v_a_Olds, I a_First, I a_Last] 26] R := H.ext hx_
    clear hx_
    refine ⟨(H.pick [0, 1] (by decide) rfl), ?_⟩
    refine t_q rfl (fun w' H => x_fa (a := .pointer (some ⟨b_1, 0, none⟩)) (v := .pointer (some ⟨b_1, 1, none⟩)) rfl (fa_blk (o := 0) Fd26_1 Sz24)) ?_
    refine t_q rfl (fun w' H => x_ld (p := .pointer (some ⟨b_1, 1, none⟩)) (v := v_a_Olds) rfl (ldb_sc Sc24 (H.blk (k := 1) rfl) rfl)) ?_
    refine t_q rfl (fun w' H => x_mv (v := I (i : Int)) rfl) ?_
    obtain ⟨sd21z, hM⟩ := M.e_grd hM
    simp only [Bool.and_eq_true, decide_eq_true_eq] at sd21z
    refine t_q rfl (fun w' H => x_ix (a := v_a_Olds) (b := I (i : Int)) (v := vat v_a_Olds 4 (Int.toNat (i : Int))) rfl rfl (Sl.ix (α := Old10) T24.und T24.size hs_a_Olds (by omega) (by omega))) ?_
    obtain ⟨u22z, ha24z, hs23z⟩ := Old10_atA hs_a_Olds (i := (i : Int)) (by omega) (by omega)
    replace hs23z : Sl _ u22z (a_Olds.getD i default).passed := hs23z
    have hl_hs23z := hs23z.len_le
    refine t_q rfl (fun w' H => x_ld (p := vat v_a_Olds 4 (Int.toNat (i : Int))) (v := .agg #[I ((a_Olds.getD i default).src), I ((a_Olds.getD i default).dst), I ((a_Olds.getD i default).stage), u22z]) rfl (ld_ag Ag43 Sz43 (At.mono ha24z (hC_a_Olds.at H)))) ?_
    refine t_q rfl (fun w' H => x_fa (a := .pointer (some ⟨b_2, 0, none⟩)) (v := .pointer (some ⟨b_2, 1, none⟩)) rfl (fa_blk (o := 0) Fd26_1 Sz24)) ?_
    refine t_q rfl (fun w' H => x_ld (p := .pointer (some ⟨b_2, 1, none⟩)) (v := v_b_Olds) rfl (ldb_sc Sc24 (H.blk (k := 0) rfl) rfl)) ?_
    refine t_q rfl (fun w' H => x_mv (v := I (i : Int)) rfl) ?_
    obtain ⟨sd25z, hM⟩ := M.e_grd hM
    simp only [Bool.and_eq_true, decide_eq_true_eq] at sd25z
    refine t_q rfl (fun w' H => x_ix (a := v_b_Olds) (b := I (i : Int)) (v := vat v_b_Olds 4 (Int.toNat (i : Int))) rfl rfl (Sl.ix (α := Old10) T24.und T24.size hs_b_Olds (by omega) (by omega))) ?_
    obtain ⟨u26z, ha28z, hs27z⟩ := Old10_atA hs_b_Olds (i := (i : Int)) (by omega) (by omega)
    replace hs27z : Sl _ u26z (b_Olds.getD i default).passed := hs27z
    have hl_hs27z := hs27z.len_le
    refine t_q rfl (fun w' H => x_ld (p := vat v_b_Olds 4 (Int.toNat (i : Int))) (v := .agg #[I ((b_Olds.getD i default).src), I ((b_Olds.getD i default).dst), I ((b_Olds.getD i default).stage), u26z]) rfl (ld_ag Ag43 Sz43 (At.mono ha28z (hC_b_Olds.at H)))) ?_
    refine t_l2 rfl rfl ?_ ?_
    ·skip
     refine t_alloc (cs := [I 0, I 0, I 0, .slice none 0 0]) H Al43 rfl ?_
     intro b_3 w33z H
     refine s_nil ⟨(H.pick [1, 2] (by decide) rfl), ?_⟩
     refine t_l rfl ?_
     refine t_alloc (cs := [I 0, I 0, I 0, .slice none 0 0]) H Al43 rfl ?_
     intro b_4 w34z H
     refine s_nil ⟨(H.pick [2, 3] (by decide) rfl), ?_⟩
     refine t_l rfl ?_
     refine t_st (k := 1) (b := b_3) (off := 0) (cs := [I 0, I 0, I 0, .slice none 0 0]) (vs := [I ((a_Olds.getD i default).src), I ((a_Olds.getD i default).dst), I ((a_Olds.getD i default).stage), u22z]) (cs' := [I ((a_Olds.getD i default).src), I ((a_Olds.getD i default).dst), I ((a_Olds.getD i default).stage), u22z]) (v := .agg #[I ((a_Olds.getD i default).src), I ((a_Olds.getD i default).dst), I ((a_Olds.getD i default).stage), u22z]) (L' := [cBlk b_4 [I 0, I 0, I 0, .slice none 0 0] 43, cBlk b_3 [I ((a_Olds.getD i default).src), I ((a_Olds.getD i default).dst), I ((a_Olds.getD i default).stage), u22z] 43, cBlk b_2 [v_b_Years, v_b_Olds, I b_First, I b_Last] 26, cBlk b_1 [v_a_Years, v_a_Olds, I a_First, I a_Last] 26]) H rfl rfl rfl Sz43 rfl rfl rfl (by simp only [List.all_cons, List.all_nil, Bool.true_and, Bool.and_true, Sl.oc hs23z]; try rfl) rfl rfl ?_
     intro w35z H
     refine s_nil ⟨(H.pick [2, 3] (by decide) rfl), ?_⟩
     refine t_l rfl ?_
     refine t_st (k := 0) (b := b_4) (off := 0) (cs := [I 0, I 0, I 0, .slice none 0 0]) (vs := [I ((b_Olds.getD i default).src), I ((b_Olds.getD i default).dst), I ((b_Olds.getD i default).stage), u26z]) (cs' := [I ((b_Olds.getD i default).src), I ((b_Olds.getD i default).dst), I ((b_Olds.getD i default).stage), u26z]) (v := .agg #[I ((b_Olds.getD i default).src), I ((b_Olds.getD i default).dst), I ((b_Olds.getD i default).stage), u26z]) (L' := [cBlk b_4 [I ((b_Olds.getD i default).src), I ((b_Olds.getD i default).dst), I ((b_Olds.getD i default).stage), u26z] 43, cBlk b_3 [I ((a_Olds.getD i default).src), I ((a_Olds.getD i default).dst), I ((a_Olds.getD i default).stage), u22z] 43, cBlk b_2 [v_b_Years, v_b_Olds, I b_First, I b_Last] 26, cBlk b_1 [v_a_Years, v_a_Olds, I a_First, I a_Last] 26]) H rfl rfl rfl Sz43 rfl rfl rfl (by simp only [List.all_cons, List.all_nil, Bool.true_and, Bool.and_true, Sl.oc hs27z]; try rfl) rfl rfl ?_
     intro w36z H
     refine s_nil ⟨(H.pick [2, 3] (by decide) rfl), ?_⟩
     refine t_nil ?_
     refine W.seq ?_
     refine W.region rfl ?_
     refine s_val (x_fa (a := .pointer (some ⟨b_3, 0, none⟩)) (v := .pointer (some ⟨b_3, 0, none⟩)) rfl (fa_blk (o := 0) Fd43_0 Sz3)) ?_
     refine s_val (x_ld (p := .pointer (some ⟨b_3, 0, none⟩)) (v := I ((a_Olds.getD i default).src)) rfl (ldb_sc Sc3 (H.blk (k := 1) rfl) rfl)) ?_
     refine s_val (x_fa (a := .pointer (some ⟨b_4, 0, none⟩)) (v := .pointer (some ⟨b_4, 0, none⟩)) rfl (fa_blk (o := 0) Fd43_0 Sz3)) ?_
     refine s_val (x_ld (p := .pointer (some ⟨b_4, 0, none⟩)) (v := I ((b_Olds.getD i default).src)) rfl (ldb_sc Sc3 (H.blk (k := 0) rfl) rfl)) ?_
     refine s_val (x_cmp (kd := .i64) (a := (a_Olds.getD i default).src) (b := (b_Olds.getD i default).src) (r := ((a_Olds.getD i default).src) != ((b_Olds.getD i default).src)) rfl rfl rfl) ?_
     refine s_val (x_mv (v := B (((a_Olds.getD i default).src) != ((b_Olds.getD i default).src))) rfl) ?_
     refine g_val (!(((a_Olds.getD i default).src) != ((b_Olds.getD i default).src))) (gy_f rfl) (fun hg => x_fa (a := .pointer (some ⟨b_3, 0, none⟩)) (v := .pointer (some ⟨b_3, 1, none⟩)) rfl (fa_blk (o := 0) Fd43_1 Sz3)) ?_
     refine g_val (!(((a_Olds.getD i default).src) != ((b_Olds.getD i default).src))) (gy_f rfl) (fun hg => x_ld (p := .pointer (some ⟨b_3, 1, none⟩)) (v := I ((a_Olds.getD i default).dst)) (gd_of (c := !(((a_Olds.getD i default).src) != ((b_Olds.getD i default).src))) hg (.pointer (some ⟨b_3, 1, none⟩))) (ldb_sc Sc3 (H.blk (k := 1) rfl) rfl)) ?_
     refine g_val (!(((a_Olds.getD i default).src) != ((b_Olds.getD i default).src))) (gy_f rfl) (fun hg => x_fa (a := .pointer (some ⟨b_4, 0, none⟩)) (v := .pointer (some ⟨b_4, 1, none⟩)) rfl (fa_blk (o := 0) Fd43_1 Sz3)) ?_
     refine g_val (!(((a_Olds.getD i default).src) != ((b_Olds.getD i default).src))) (gy_f rfl) (fun hg => x_ld (p := .pointer (some ⟨b_4, 1, none⟩)) (v := I ((b_Olds.getD i default).dst)) (gd_of (c := !(((a_Olds.getD i default).src) != ((b_Olds.getD i default).src))) hg (.pointer (some ⟨b_4, 1, none⟩))) (ldb_sc Sc3 (H.blk (k := 0) rfl) rfl)) ?_
     refine g_val (!(((a_Olds.getD i default).src) != ((b_Olds.getD i default).src))) (gy_f rfl) (fun hg => x_cmp (kd := .i64) (a := (a_Olds.getD i default).dst) (b := (b_Olds.getD i default).dst) (r := ((a_Olds.getD i default).dst) != ((b_Olds.getD i default).dst)) (gd_of (c := !(((a_Olds.getD i default).src) != ((b_Olds.getD i default).src))) hg (I ((a_Olds.getD i default).dst))) (gd_of (c := !(((a_Olds.getD i default).src) != ((b_Olds.getD i default).src))) hg (I ((b_Olds.getD i default).dst))) rfl) ?_
     refine s_val (x_por (b := ((a_Olds.getD i default).src) != ((b_Olds.getD i default).src)) (r := ((a_Olds.getD i default).dst) != ((b_Olds.getD i default).dst)) rfl rfl (fun hb => gd_of (c := !(((a_Olds.getD i default).src) != ((b_Olds.getD i default).src))) (by first | exact hb | (rw [hb]; rfl) | simp_all) (B (((a_Olds.getD i default).dst) != ((b_Olds.getD i default).dst))))) ?_
     refine s_val (x_mv (v := B ((((a_Olds.getD i default).src) != ((b_Olds.getD i default).src)) || (((a_Olds.getD i default).dst) != ((b_Olds.getD i default).dst)))) rfl) ?_
     refine g_val (!((((a_Olds.getD i default).src) != ((b_Olds.getD i default).src)) || (((a_Olds.getD i default).dst) != ((b_Olds.getD i default).dst)))) (gy_f rfl) (fun hg => x_fa (a := .pointer (some ⟨b_3, 0, none⟩)) (v := .pointer (some ⟨b_3, 2, none⟩)) rfl (fa_blk (o := 0) Fd43_2 Sz3)) ?_
     refine g_val (!((((a_Olds.getD i default).src) != ((b_Olds.getD i default).src)) || (((a_Olds.getD i default).dst) != ((b_Olds.getD i default).dst)))) (gy_f rfl) (fun hg => x_ld (p := .pointer (some ⟨b_3, 2, none⟩)) (v := I ((a_Olds.getD i default).stage)) (gd_of (c := !((((a_Olds.getD i default).src) != ((b_Olds.getD i default).src)) || (((a_Olds.getD i default).dst) != ((b_Olds.getD i default).dst)))) hg (.pointer (some ⟨b_3, 2, none⟩))) (ldb_sc Sc3 (H.blk (k := 1) rfl) rfl)) ?_
     refine g_val (!((((a_Olds.getD i default).src) != ((b_Olds.getD i default).src)) || (((a_Olds.getD i default).dst) != ((b_Olds.getD i default).dst)))) (gy_f rfl) (fun hg => x_fa (a := .pointer (some ⟨b_4, 0, none⟩)) (v := .pointer (some ⟨b_4, 2, none⟩)) rfl (fa_blk (o := 0) Fd43_2 Sz3)) ?_
     refine g_val (!((((a_Olds.getD i default).src) != ((b_Olds.getD i default).src)) || (((a_Olds.getD i default).dst) != ((b_Olds.getD i default).dst)))) (gy_f rfl) (fun hg => x_ld (p := .pointer (some ⟨b_4, 2, none⟩)) (v := I ((b_Olds.getD i default).stage)) (gd_of (c := !((((a_Olds.getD i default).src) != ((b_Olds.getD i default).src)) || (((a_Olds.getD i default).dst) != ((b_Olds.getD i default).dst)))) hg (.pointer (some ⟨b_4, 2, none⟩))) (ldb_sc Sc3 (H.blk (k := 0) rfl) rfl)) ?_
     refine g_val (!((((a_Olds.getD i default).src) != ((b_Olds.getD i default).src)) || (((a_Olds.getD i default).dst) != ((b_Olds.getD i default).dst)))) (gy_f rfl) (fun hg => x_cmp (kd := .i64) (a := (a_Olds.getD i default).stage) (b := (b_Olds.getD i default).stage) (r := ((a_Olds.getD i default).stage) != ((b_Olds.getD i default).stage)) (gd_of (c := !((((a_Olds.getD i default).src) != ((b_Olds.getD i default).src)) || (((a_Olds.getD i default).dst) != ((b_Olds.getD i default).dst)))) hg (I ((a_Olds.getD i default).stage))) (gd_of (c := !((((a_Olds.getD i default).src) != ((b_Olds.getD i default).src)) || (((a_Olds.getD i default).dst) != ((b_Olds.getD i default).dst)))) hg (I ((b_Olds.getD i default).stage))) rfl) ?_
     refine s_val (x_por (b := ((((a_Olds.getD i default).src) != ((b_Olds.getD i default).src)) || (((a_Olds.getD i default).dst) != ((b_Olds.getD i default).dst)))) (r := ((a_Olds.getD i default).stage) != ((b_Olds.getD i default).stage)) rfl rfl (fun hb => gd_of (c := !((((a_Olds.getD i default).src) != ((b_Olds.getD i default).src)) || (((a_Olds.getD i default).dst) != ((b_Olds.getD i default).dst)))) (by first | exact hb | (rw [hb]; rfl) | simp_all) (B (((a_Olds.getD i default).stage) != ((b_Olds.getD i default).stage))))) ?_
     refine s_val (x_mv (v := B (((((a_Olds.getD i default).src) != ((b_Olds.getD i default).src)) || (((a_Olds.getD i default).dst) != ((b_Olds.getD i default).dst))) || (((a_Olds.getD i default).stage) != ((b_Olds.getD i default).stage)))) rfl) ?_
     refine g_val (!(((((a_Olds.getD i default).src) != ((b_Olds.getD i default).src)) || (((a_Olds.getD i default).dst) != ((b_Olds.getD i default).dst))) || (((a_Olds.getD i default).stage) != ((b_Olds.getD i default).stage)))) (gy_f rfl) (fun hg => x_fa (a := .pointer (some ⟨b_3, 0, none⟩)) (v := .pointer (some ⟨b_3, 3, none⟩)) rfl (fa_blk (o := 0) Fd43_3 Sz27)) ?_
     refine g_val (!(((((a_Olds.getD i default).src) != ((b_Olds.getD i default).src)) || (((a_Olds.getD i default).dst) != ((b_Olds.getD i default).dst))) || (((a_Olds.getD i default).stage) != ((b_Olds.getD i default).stage)))) (gy_f rfl) (fun hg => x_ld (p := .pointer (some ⟨b_3, 3, none⟩)) (v := u22z) (gd_of (c := !(((((a_Olds.getD i default).src) != ((b_Olds.getD i default).src)) || (((a_Olds.getD i default).dst) != ((b_Olds.getD i default).dst))) || (((a_Olds.getD i default).stage) != ((b_Olds.getD i default).stage)))) hg (.pointer (some ⟨b_3, 3, none⟩))) (ldb_sc Sc27 (H.blk (k := 1) rfl) rfl)) ?_
     refine g_val (!(((((a_Olds.getD i default).src) != ((b_Olds.getD i default).src)) || (((a_Olds.getD i default).dst) != ((b_Olds.getD i default).dst))) || (((a_Olds.getD i default).stage) != ((b_Olds.getD i default).stage)))) (gy_f rfl) (fun hg => x_fa (a := .pointer (some ⟨b_4, 0, none⟩)) (v := .pointer (some ⟨b_4, 3, none⟩)) rfl (fa_blk (o := 0) Fd43_3 Sz27)) ?_
     refine g_val (!(((((a_Olds.getD i default).src) != ((b_Olds.getD i default).src)) || (((a_Olds.getD i default).dst) != ((b_Olds.getD i default).dst))) || (((a_Olds.getD i default).stage) != ((b_Olds.getD i default).stage)))) (gy_f rfl) (fun hg => x_ld (p := .pointer (some ⟨b_4, 3, none⟩)) (v := u26z) (gd_of (c := !(((((a_Olds.getD i default).src) != ((b_Olds.getD i default).src)) || (((a_Olds.getD i default).dst) != ((b_Olds.getD i default).dst))) || (((a_Olds.getD i default).stage) != ((b_Olds.getD i default).stage)))) hg (.pointer (some ⟨b_4, 3, none⟩))) (ldb_sc Sc27 (H.blk (k := 0) rfl) rfl)) ?_
     obtain ⟨r3, hx37z, hM⟩ := M.e_bind hM
     refine t_gcall (!(((((a_Olds.getD i default).src) != ((b_Olds.getD i default).src)) || (((a_Olds.getD i default).dst) != ((b_Olds.getD i default).dst))) || (((a_Olds.getD i default).stage) != ((b_Olds.getD i default).stage)))) (gy_f rfl) cf43 (B r3) (fun _ => [u22z, u26z]) (fun hg => lst2 (gd_of (c := !(((((a_Olds.getD i default).src) != ((b_Olds.getD i default).src)) || (((a_Olds.getD i default).dst) != ((b_Olds.getD i default).dst))) || (((a_Olds.getD i default).stage) != ((b_Olds.getD i default).stage)))) hg (u22z)) (gd_of (c := !(((((a_Olds.getD i default).src) != ((b_Olds.getD i default).src)) || (((a_Olds.getD i default).dst) != ((b_Olds.getD i default).dst))) || (((a_Olds.getD i default).stage) != ((b_Olds.getD i default).stage)))) hg (u26z))) H (fun hg => (nilometerkit_Same_int_ok ((a_Olds.getD i default).passed) ((b_Olds.getD i default).passed) (hC_a_Olds.app _) hs23z (hC_b_Olds.app _) hs27z (M.e_opt hx37z hg) _ (H.give (A := []) rfl)).mono fun v_ w_ ⟨y_, hr_, hv_, H_⟩ => by subst hr_; exact ⟨hv_, H.via H_⟩) ?_
     intro w38z H
     refine g_val (!(((((a_Olds.getD i default).src) != ((b_Olds.getD i default).src)) || (((a_Olds.getD i default).dst) != ((b_Olds.getD i default).dst))) || (((a_Olds.getD i default).stage) != ((b_Olds.getD i default).stage)))) (gy_f rfl) (fun hg => x_not (b := r3) (gd_of (c := !(((((a_Olds.getD i default).src) != ((b_Olds.getD i default).src)) || (((a_Olds.getD i default).dst) != ((b_Olds.getD i default).dst))) || (((a_Olds.getD i default).stage) != ((b_Olds.getD i default).stage)))) hg (B r3))) ?_
     refine s_val (x_por (b := (((((a_Olds.getD i default).src) != ((b_Olds.getD i default).src)) || (((a_Olds.getD i default).dst) != ((b_Olds.getD i default).dst))) || (((a_Olds.getD i default).stage) != ((b_Olds.getD i default).stage)))) (r := !r3) rfl rfl (fun hb => gd_of (c := !(((((a_Olds.getD i default).src) != ((b_Olds.getD i default).src)) || (((a_Olds.getD i default).dst) != ((b_Olds.getD i default).dst))) || (((a_Olds.getD i default).stage) != ((b_Olds.getD i default).stage)))) (by first | exact hb | (rw [hb]; rfl) | simp_all) (B (!r3)))) ?_
     refine s_nil ?_
     refine W.cond ((((((a_Olds.getD i default).src) != ((b_Olds.getD i default).src)) || (((a_Olds.getD i default).dst) != ((b_Olds.getD i default).dst))) || (((a_Olds.getD i default).stage) != ((b_Olds.getD i default).stage))) || (!r3)) rfl (fun c39z => ?_) (fun c39z => ?_)
     ·replace hM := M.e_t hM c39z
      refine W.seq ?_
      refine W.region rfl ?_
      refine s_val (x_as (v := B false) rfl) ?_
      refine s_nil ?_
      refine W.ret ?_
      have hX40z := M.e_inr hM hN17z
      subst hX40z
      replace hM := hk10z
      try dsimp only at hM
      have hr_ := M.e_pure hM
      exact ⟨_, resE_tmp rfl, ⟨false, hr_, rfl, (H.pick [] (by decide) rfl)⟩⟩
     ·replace hM := M.e_f hM c39z
      refine W.skip ?_
      refine W.region rfl ?_
      refine s_val (x_mv (v := I (i : Int)) rfl) ?_
      refine s_val (x_ari (a := (i : Int)) (b := 1) (r := (i : Int) + 1) rfl rfl rfl (by omega)) ?_
      refine s_val (x_as (v := I ((i : Int) + 1)) rfl) ?_
      refine s_nil ?_
      exact ⟨m14z, lt15z, i + 1, _, upds_of _ _ ⟨rfl, rfl, rfl, trivial⟩, M.e_inl hM hN17z, (H.pick [2, 3] (by decide) rfl)⟩
    ·skip
     refine t_alloc (cs := [I 0, I 0, I 0, .slice none 0 0]) H Al43 rfl ?_
     intro b_4 w41z H
     refine s_nil ⟨(H.pick [1, 2] (by decide) rfl), ?_⟩
     refine t_l rfl ?_
     refine t_alloc (cs := [I 0, I 0, I 0, .slice none 0 0]) H Al43 rfl ?_
     intro b_3 w42z H
     refine s_nil ⟨(H.pick [2, 3] (by decide) rfl), ?_⟩
     refine t_l rfl ?_
     refine t_st (k := 0) (b := b_3) (off := 0) (cs := [I 0, I 0, I 0, .slice none 0 0]) (vs := [I ((a_Olds.getD i default).src), I ((a_Olds.getD i default).dst), I ((a_Olds.getD i default).stage), u22z]) (cs' := [I ((a_Olds.getD i default).src), I ((a_Olds.getD i default).dst), I ((a_Olds.getD i default).stage), u22z]) (v := .agg #[I ((a_Olds.getD i default).src), I ((a_Olds.getD i default).dst), I ((a_Olds.getD i default).stage), u22z]) (L' := [cBlk b_3 [I ((a_Olds.getD i default).src), I ((a_Olds.getD i default).dst), I ((a_Olds.getD i default).stage), u22z] 43, cBlk b_4 [I 0, I 0, I 0, .slice none 0 0] 43, cBlk b_2 [v_b_Years, v_b_Olds, I b_First, I b_Last] 26, cBlk b_1 [v_a_Years, v_a_Olds, I a_First, I a_Last] 26]) H rfl rfl rfl Sz43 rfl rfl rfl (by simp only [List.all_cons, List.all_nil, Bool.true_and, Bool.and_true, Sl.oc hs23z]; try rfl) rfl rfl ?_
     intro w43z H
     refine s_nil ⟨(H.pick [2, 3] (by decide) rfl), ?_⟩
     refine t_l rfl ?_
     refine t_st (k := 1) (b := b_4) (off := 0) (cs := [I 0, I 0, I 0, .slice none 0 0]) (vs := [I ((b_Olds.getD i default).src), I ((b_Olds.getD i default).dst), I ((b_Olds.getD i default).stage), u26z]) (cs' := [I ((b_Olds.getD i default).src), I ((b_Olds.getD i default).dst), I ((b_Olds.getD i default).stage), u26z]) (v := .agg #[I ((b_Olds.getD i default).src), I ((b_Olds.getD i default).dst), I ((b_Olds.getD i default).stage), u26z]) (L' := [cBlk b_3 [I ((a_Olds.getD i default).src), I ((a_Olds.getD i default).dst), I ((a_Olds.getD i default).stage), u22z] 43, cBlk b_4 [I ((b_Olds.getD i default).src), I ((b_Olds.getD i default).dst), I ((b_Olds.getD i default).stage), u26z] 43, cBlk b_2 [v_b_Years, v_b_Olds, I b_First, I b_Last] 26, cBlk b_1 [v_a_Years, v_a_Olds, I a_First, I a_Last] 26]) H rfl rfl rfl Sz43 rfl rfl rfl (by simp only [List.all_cons, List.all_nil, Bool.true_and, Bool.and_true, Sl.oc hs27z]; try rfl) rfl rfl ?_
     intro w44z H
     refine s_nil ⟨(H.pick [2, 3] (by decide) rfl), ?_⟩
     refine t_nil ?_
     refine W.seq ?_
     refine W.region rfl ?_
     refine s_val (x_fa (a := .pointer (some ⟨b_3, 0, none⟩)) (v := .pointer (some ⟨b_3, 0, none⟩)) rfl (fa_blk (o := 0) Fd43_0 Sz3)) ?_
     refine s_val (x_ld (p := .pointer (some ⟨b_3, 0, none⟩)) (v := I ((a_Olds.getD i default).src)) rfl (ldb_sc Sc3 (H.blk (k := 0) rfl) rfl)) ?_
     refine s_val (x_fa (a := .pointer (some ⟨b_4, 0, none⟩)) (v := .pointer (some ⟨b_4, 0, none⟩)) rfl (fa_blk (o := 0) Fd43_0 Sz3)) ?_
     refine s_val (x_ld (p := .pointer (some ⟨b_4, 0, none⟩)) (v := I ((b_Olds.getD i default).src)) rfl (ldb_sc Sc3 (H.blk (k := 1) rfl) rfl)) ?_
     refine s_val (x_cmp (kd := .i64) (a := (a_Olds.getD i default).src) (b := (b_Olds.getD i default).src) (r := ((a_Olds.getD i default).src) != ((b_Olds.getD i default).src)) rfl rfl rfl) ?_
     refine s_val (x_mv (v := B (((a_Olds.getD i default).src) != ((b_Olds.getD i default).src))) rfl) ?_
     refine g_val (!(((a_Olds.getD i default).src) != ((b_Olds.getD i default).src))) (gy_f rfl) (fun hg => x_fa (a := .pointer (some ⟨b_3, 0, none⟩)) (v := .pointer (some ⟨b_3, 1, none⟩)) rfl (fa_blk (o := 0) Fd43_1 Sz3)) ?_
     refine g_val (!(((a_Olds.getD i default).src) != ((b_Olds.getD i default).src))) (gy_f rfl) (fun hg => x_ld (p := .pointer (some ⟨b_3, 1, none⟩)) (v := I ((a_Olds.getD i default).dst)) (gd_of (c := !(((a_Olds.getD i default).src) != ((b_Olds.getD i default).src))) hg (.pointer (some ⟨b_3, 1, none⟩))) (ldb_sc Sc3 (H.blk (k := 0) rfl) rfl)) ?_
     refine g_val (!(((a_Olds.getD i default).src) != ((b_Olds.getD i default).src))) (gy_f rfl) (fun hg => x_fa (a := .pointer (some ⟨b_4, 0, none⟩)) (v := .pointer (some ⟨b_4, 1, none⟩)) rfl (fa_blk (o := 0) Fd43_1 Sz3)) ?_
     refine g_val (!(((a_Olds.getD i default).src) != ((b_Olds.getD i default).src))) (gy_f rfl) (fun hg => x_ld (p := .pointer (some ⟨b_4, 1, none⟩)) (v := I ((b_Olds.getD i default).dst)) (gd_of (c := !(((a_Olds.getD i default).src) != ((b_Olds.getD i default).src))) hg (.pointer (some ⟨b_4, 1, none⟩))) (ldb_sc Sc3 (H.blk (k := 1) rfl) rfl)) ?_
     refine g_val (!(((a_Olds.getD i default).src) != ((b_Olds.getD i default).src))) (gy_f rfl) (fun hg => x_cmp (kd := .i64) (a := (a_Olds.getD i default).dst) (b := (b_Olds.getD i default).dst) (r := ((a_Olds.getD i default).dst) != ((b_Olds.getD i default).dst)) (gd_of (c := !(((a_Olds.getD i default).src) != ((b_Olds.getD i default).src))) hg (I ((a_Olds.getD i default).dst))) (gd_of (c := !(((a_Olds.getD i default).src) != ((b_Olds.getD i default).src))) hg (I ((b_Olds.getD i default).dst))) rfl) ?_
     refine s_val (x_por (b := ((a_Olds.getD i default).src) != ((b_Olds.getD i default).src)) (r := ((a_Olds.getD i default).dst) != ((b_Olds.getD i default).dst)) rfl rfl (fun hb => gd_of (c := !(((a_Olds.getD i default).src) != ((b_Olds.getD i default).src))) (by first | exact hb | (rw [hb]; rfl) | simp_all) (B (((a_Olds.getD i default).dst) != ((b_Olds.getD i default).dst))))) ?_
     refine s_val (x_mv (v := B ((((a_Olds.getD i default).src) != ((b_Olds.getD i default).src)) || (((a_Olds.getD i default).dst) != ((b_Olds.getD i default).dst)))) rfl) ?_
     refine g_val (!((((a_Olds.getD i default).src) != ((b_Olds.getD i default).src)) || (((a_Olds.getD i default).dst) != ((b_Olds.getD i default).dst)))) (gy_f rfl) (fun hg => x_fa (a := .pointer (some ⟨b_3, 0, none⟩)) (v := .pointer (some ⟨b_3, 2, none⟩)) rfl (fa_blk (o := 0) Fd43_2 Sz3)) ?_
     refine g_val (!((((a_Olds.getD i default).src) != ((b_Olds.getD i default).src)) || (((a_Olds.getD i default).dst) != ((b_Olds.getD i default).dst)))) (gy_f rfl) (fun hg => x_ld (p := .pointer (some ⟨b_3, 2, none⟩)) (v := I ((a_Olds.getD i default).stage)) (gd_of (c := !((((a_Olds.getD i default).src) != ((b_Olds.getD i default).src)) || (((a_Olds.getD i default).dst) != ((b_Olds.getD i default).dst)))) hg (.pointer (some ⟨b_3, 2, none⟩))) (ldb_sc Sc3 (H.blk (k := 0) rfl) rfl)) ?_
     refine g_val (!((((a_Olds.getD i default).src) != ((b_Olds.getD i default).src)) || (((a_Olds.getD i default).dst) != ((b_Olds.getD i default).dst)))) (gy_f rfl) (fun hg => x_fa (a := .pointer (some ⟨b_4, 0, none⟩)) (v := .pointer (some ⟨b_4, 2, none⟩)) rfl (fa_blk (o := 0) Fd43_2 Sz3)) ?_
     refine g_val (!((((a_Olds.getD i default).src) != ((b_Olds.getD i default).src)) || (((a_Olds.getD i default).dst) != ((b_Olds.getD i default).dst)))) (gy_f rfl) (fun hg => x_ld (p := .pointer (some ⟨b_4, 2, none⟩)) (v := I ((b_Olds.getD i default).stage)) (gd_of (c := !((((a_Olds.getD i default).src) != ((b_Olds.getD i default).src)) || (((a_Olds.getD i default).dst) != ((b_Olds.getD i default).dst)))) hg (.pointer (some ⟨b_4, 2, none⟩))) (ldb_sc Sc3 (H.blk (k := 1) rfl) rfl)) ?_
     refine g_val (!((((a_Olds.getD i default).src) != ((b_Olds.getD i default).src)) || (((a_Olds.getD i default).dst) != ((b_Olds.getD i default).dst)))) (gy_f rfl) (fun hg => x_cmp (kd := .i64) (a := (a_Olds.getD i default).stage) (b := (b_Olds.getD i default).stage) (r := ((a_Olds.getD i default).stage) != ((b_Olds.getD i default).stage)) (gd_of (c := !((((a_Olds.getD i default).src) != ((b_Olds.getD i default).src)) || (((a_Olds.getD i default).dst) != ((b_Olds.getD i default).dst)))) hg (I ((a_Olds.getD i default).stage))) (gd_of (c := !((((a_Olds.getD i default).src) != ((b_Olds.getD i default).src)) || (((a_Olds.getD i default).dst) != ((b_Olds.getD i default).dst)))) hg (I ((b_Olds.getD i default).stage))) rfl) ?_
     refine s_val (x_por (b := ((((a_Olds.getD i default).src) != ((b_Olds.getD i default).src)) || (((a_Olds.getD i default).dst) != ((b_Olds.getD i default).dst)))) (r := ((a_Olds.getD i default).stage) != ((b_Olds.getD i default).stage)) rfl rfl (fun hb => gd_of (c := !((((a_Olds.getD i default).src) != ((b_Olds.getD i default).src)) || (((a_Olds.getD i default).dst) != ((b_Olds.getD i default).dst)))) (by first | exact hb | (rw [hb]; rfl) | simp_all) (B (((a_Olds.getD i default).stage) != ((b_Olds.getD i default).stage))))) ?_
     refine s_val (x_mv (v := B (((((a_Olds.getD i default).src) != ((b_Olds.getD i default).src)) || (((a_Olds.getD i default).dst) != ((b_Olds.getD i default).dst))) || (((a_Olds.getD i default).stage) != ((b_Olds.getD i default).stage)))) rfl) ?_
     refine g_val (!(((((a_Olds.getD i default).src) != ((b_Olds.getD i default).src)) || (((a_Olds.getD i default).dst) != ((b_Olds.getD i default).dst))) || (((a_Olds.getD i default).stage) != ((b_Olds.getD i default).stage)))) (gy_f rfl) (fun hg => x_fa (a := .pointer (some ⟨b_3, 0, none⟩)) (v := .pointer (some ⟨b_3, 3, none⟩)) rfl (fa_blk (o := 0) Fd43_3 Sz27)) ?_
     refine g_val (!(((((a_Olds.getD i default).src) != ((b_Olds.getD i default).src)) || (((a_Olds.getD i default).dst) != ((b_Olds.getD i default).dst))) || (((a_Olds.getD i default).stage) != ((b_Olds.getD i default).stage)))) (gy_f rfl) (fun hg => x_ld (p := .pointer (some ⟨b_3, 3, none⟩)) (v := u22z) (gd_of (c := !(((((a_Olds.getD i default).src) != ((b_Olds.getD i default).src)) || (((a_Olds.getD i default).dst) != ((b_Olds.getD i default).dst))) || (((a_Olds.getD i default).stage) != ((b_Olds.getD i default).stage)))) hg (.pointer (some ⟨b_3, 3, none⟩))) (ldb_sc Sc27 (H.blk (k := 0) rfl) rfl)) ?_
     refine g_val (!(((((a_Olds.getD i default).src) != ((b_Olds.getD i default).src)) || (((a_Olds.getD i default).dst) != ((b_Olds.getD i default).dst))) || (((a_Olds.getD i default).stage) != ((b_Olds.getD i default).stage)))) (gy_f rfl) (fun hg => x_fa (a := .pointer (some ⟨b_4, 0, none⟩)) (v := .pointer (some ⟨b_4, 3, none⟩)) rfl (fa_blk (o := 0) Fd43_3 Sz27)) ?_
     refine g_val (!(((((a_Olds.getD i default).src) != ((b_Olds.getD i default).src)) || (((a_Olds.getD i default).dst) != ((b_Olds.getD i default).dst))) || (((a_Olds.getD i default).stage) != ((b_Olds.getD i default).stage)))) (gy_f rfl) (fun hg => x_ld (p := .pointer (some ⟨b_4, 3, none⟩)) (v := u26z) (gd_of (c := !(((((a_Olds.getD i default).src) != ((b_Olds.getD i default).src)) || (((a_Olds.getD i default).dst) != ((b_Olds.getD i default).dst))) || (((a_Olds.getD i default).stage) != ((b_Olds.getD i default).stage)))) hg (.pointer (some ⟨b_4, 3, none⟩))) (ldb_sc Sc27 (H.blk (k := 1) rfl) rfl)) ?_
     obtain ⟨r3, hx45z, hM⟩ := M.e_bind hM
     refine t_gcall (!(((((a_Olds.getD i default).src) != ((b_Olds.getD i default).src)) || (((a_Olds.getD i default).dst) != ((b_Olds.getD i default).dst))) || (((a_Olds.getD i default).stage) != ((b_Olds.getD i default).stage)))) (gy_f rfl) cf43 (B r3) (fun _ => [u22z, u26z]) (fun hg => lst2 (gd_of (c := !(((((a_Olds.getD i default).src) != ((b_Olds.getD i default).src)) || (((a_Olds.getD i default).dst) != ((b_Olds.getD i default).dst))) || (((a_Olds.getD i default).stage) != ((b_Olds.getD i default).stage)))) hg (u22z)) (gd_of (c := !(((((a_Olds.getD i default).src) != ((b_Olds.getD i default).src)) || (((a_Olds.getD i default).dst) != ((b_Olds.getD i default).dst))) || (((a_Olds.getD i default).stage) != ((b_Olds.getD i default).stage)))) hg (u26z))) H (fun hg => (nilometerkit_Same_int_ok ((a_Olds.getD i default).passed) ((b_Olds.getD i default).passed) (hC_a_Olds.app _) hs23z (hC_b_Olds.app _) hs27z (M.e_opt hx45z hg) _ (H.give (A := []) rfl)).mono fun v_ w_ ⟨y_, hr_, hv_, H_⟩ => by subst hr_; exact ⟨hv_, H.via H_⟩) ?_
     intro w46z H
     refine g_val (!(((((a_Olds.getD i default).src) != ((b_Olds.getD i default).src)) || (((a_Olds.getD i default).dst) != ((b_Olds.getD i default).dst))) || (((a_Olds.getD i default).stage) != ((b_Olds.getD i default).stage)))) (gy_f rfl) (fun hg => x_not (b := r3) (gd_of (c := !(((((a_Olds.getD i default).src) != ((b_Olds.getD i default).src)) || (((a_Olds.getD i default).dst) != ((b_Olds.getD i default).dst))) || (((a_Olds.getD i default).stage) != ((b_Olds.getD i default).stage)))) hg (B r3))) ?_
     refine s_val (x_por (b := (((((a_Olds.getD i default).src) != ((b_Olds.getD i default).src)) || (((a_Olds.getD i default).dst) != ((b_Olds.getD i default).dst))) || (((a_Olds.getD i default).stage) != ((b_Olds.getD i default).stage)))) (r := !r3) rfl rfl (fun hb => gd_of (c := !(((((a_Olds.getD i default).src) != ((b_Olds.getD i default).src)) || (((a_Olds.getD i default).dst) != ((b_Olds.getD i default).dst))) || (((a_Olds.getD i default).stage) != ((b_Olds.getD i default).stage)))) (by first | exact hb | (rw [hb]; rfl) | simp_all) (B (!r3)))) ?_
     refine s_nil ?_
     refine W.cond ((((((a_Olds.getD i default).src) != ((b_Olds.getD i default).src)) || (((a_Olds.getD i default).dst) != ((b_Olds.getD i default).dst))) || (((a_Olds.getD i default).stage) != ((b_Olds.getD i default).stage))) || (!r3)) rfl (fun c47z => ?_) (fun c47z => ?_)
     ·replace hM := M.e_t hM c47z
      refine W.seq ?_
      refine W.region rfl ?_
      refine s_val (x_as (v := B false) rfl) ?_
      refine s_nil ?_
      refine W.ret ?_
      have hX48z := M.e_inr hM hN17z
      subst hX48z
      replace hM := hk10z
      try dsimp only at hM
      have hr_ := M.e_pure hM
      exact ⟨_, resE_tmp rfl, ⟨false, hr_, rfl, (H.pick [] (by decide) rfl)⟩⟩
     ·replace hM := M.e_f hM c47z
      refine W.skip ?_
      refine W.region rfl ?_
      refine s_val (x_mv (v := I (i : Int)) rfl) ?_
      refine s_val (x_ari (a := (i : Int)) (b := 1) (r := (i : Int) + 1) rfl rfl rfl (by omega)) ?_
      refine s_val (x_as (v := I ((i : Int) + 1)) rfl) ?_
      refine s_nil ?_
      exact ⟨m14z, lt15z, i + 1, _, upds_of _ _ ⟨rfl, rfl, rfl, trivial⟩, M.e_inl hM hN17z, (H.pick [2, 3] (by decide) rfl)⟩
   ·replace hM := M.e_f hM c19z
    simp only [decide_eq_true_eq, decide_eq_false_iff_not, beq_iff_eq, bne_iff_ne, beq_eq_false_iff_ne, bne_eq_false_iff_eq, ne_eq, Decidable.not_not] at c19z
    refine W.exit ?_
    have hX49z := M.e_inr hM hN17z
    subst hX49z
    replace hM := hk10z
    try dsimp only at hM
    refine W.seq ?_
    refine W.region rfl ?_
    refine s_val (x_as (v := B true) rfl) ?_
    refine s_nil ?_
    refine W.ret ?_
    have hr_ := M.e_pure hM
    exact ⟨_, resE_tmp rfl, ⟨true, hr_, rfl, (H.pick [] (by decide) rfl)⟩⟩

end Go.Proofs.Ytcgalcbkkijkhaa
namespace Go.Proofs.Ytcgalcbkkijkhaa
open Go Go.Nm
def m_nilometerlaw10_OftenBooks (b_Years : List Yr) (b_Olds : List Old10) (b_First : Int) (b_Last : Int) (stages : List Int) (year : Int) : M Bool :=
  M.bind (m_nilometerlaw10_long b_Years b_Olds b_First b_Last) fun r2 =>
  bif (r2 || (decide (45 < (stages.length : Int)))) then (
  M.bind (m_nilometerlaw10_awake) fun r3 =>
  M.pure r3)
  else (
  M.bind (m_nilometerlaw10_Copy b_Years b_Olds b_First b_Last) fun (r0, r1, r22, r32) =>
  M.bind (m_nilometerkit_Copy_int stages) fun r4 =>
  M.bind (m_nilometerlaw10_Book b_Years b_Olds b_First b_Last) fun (r02, r12, r23, r33) =>
  M.bind (m_often_Check r0 r1 r22 r32) fun r5 =>
  M.bind (m_nilometerref10_Check r02 r12 r23 r33) fun r6 =>
  bif r5 != r6 then (
  M.pure false)
  else (
  M.bind (m_often_Holds r0 r1 r22 r32 r4) fun (r03, r13) =>
  M.bind (m_nilometerref10_Holds r02 r12 r23 r33 stages) fun (r04, r14) =>
  bif ((r13 != r14) || (r03 != r04)) then (
  M.pure false)
  else (
  M.bind (m_often_Clash r0 r1 r22 r32) fun (r05, r15) =>
  M.bind (m_nilometerref10_Clash r02 r12 r23 r33) fun (r06, r16) =>
  bif ((r15 != r16) || (r05 != r06)) then (
  M.pure false)
  else (
  M.bind (m_often_Highest r0 r1 r22 r32 year) fun (r00, r01, r17) =>
  M.bind (m_nilometerref10_Highest r02 r12 r23 r33 year) fun (r002, r012, r18) =>
  M.bind (M.opt ((r17 == r18) && (decide ((⟨(r00 : Int), (r01 : Int)⟩ : Span) = (⟨(r002 : Int), (r012 : Int)⟩ : Span)))) (m_nilometerlaw10_same r0 r1 r22 r32 b_Years b_Olds b_First b_Last) false) fun r7 =>
  M.bind (M.opt (((r17 == r18) && (decide ((⟨(r00 : Int), (r01 : Int)⟩ : Span) = (⟨(r002 : Int), (r012 : Int)⟩ : Span)))) && r7) (m_nilometerkit_Same_int r4 stages) false) fun r8 =>
  M.bind (M.opt ((((r17 == r18) && (decide ((⟨(r00 : Int), (r01 : Int)⟩ : Span) = (⟨(r002 : Int), (r012 : Int)⟩ : Span)))) && r7) && r8) (m_nilometerlaw10_awake) false) fun r9 =>
  M.pure (((((r17 == r18) && (decide ((⟨(r00 : Int), (r01 : Int)⟩ : Span) = (⟨(r002 : Int), (r012 : Int)⟩ : Span)))) && r7) && r8) && r9)))))
set_option maxRecDepth 100000 in
set_option maxHeartbeats 16000000 in
theorem nilometerlaw10_OftenBooks_ok {R : List Chunk} {C_b_Years : Cells} {v_b_Years : Value} {C_b_Olds : Cells} {v_b_Olds : Value} {C_stages : Cells} {v_stages : Value} (b_Years : List Yr) (b_Olds : List Old10) (b_First : Int) (b_Last : Int) (stages : List Int) (year : Int) (hC_b_Years : Reads R C_b_Years) (hs_b_Years : Sl C_b_Years v_b_Years b_Years) (hC_b_Olds : Reads R C_b_Olds) (hs_b_Olds : Sl C_b_Olds v_b_Olds b_Olds) (hC_stages : Reads R C_stages) (hs_stages : Sl C_stages v_stages stages) {r : Bool} (hM : (m_nilometerlaw10_OftenBooks b_Years b_Olds b_First b_Last stages year).Ends r) (w : World) (H : St w w [] R) : Ret Try.prog 9 #[.agg #[v_b_Years, v_b_Olds, I b_First, I b_Last], v_stages, I year] w fun v w' => ∃ (y0 : Bool), y0 = r /\ v = B y0 /\ St w w' [] R := by
 refine ret_of_W Try.func9 rfl rfl rfl ?_
 refine W.seq ?_
 refine W.region rfl ?_
 refine t_box (v := .agg #[v_b_Years, v_b_Olds, I b_First, I b_Last]) (cs := [v_b_Years, v_b_Olds, I b_First, I b_Last]) H rfl rfl ?_
 intro b_1 w1z H
 refine s_val (x_as (v := B false) rfl) ?_
 refine s_nil ?_
 refine W.seq ?_
 refine W.seq ?_
 refine W.region rfl ?_
 refine s_val (x_ld (p := .pointer (some ⟨b_1, 0, none⟩)) (v := .agg #[v_b_Years, v_b_Olds, I b_First, I b_Last]) rfl (ldb_ag (ds := [v_b_Years, v_b_Olds, I b_First, I b_Last]) Ag26 Sz26 (H.blk (k := 0) rfl) rfl rfl)) ?_
 obtain ⟨r3z, hx2z, hM⟩ := M.e_bind hM
 refine s_call cf21 [.agg #[v_b_Years, v_b_Olds, I b_First, I b_Last]] rfl (nilometerlaw10_long_ok b_Years b_Olds b_First b_Last (hC_b_Years.app _) hs_b_Years (hC_b_Olds.app _) hs_b_Olds hx2z _ (St.give (T := [cBlk b_1 [v_b_Years, v_b_Olds, I b_First, I b_Last] 26]) H rfl)) ?_
 rintro vq w4z ⟨r2, hr5z, hvq, H2_⟩
 subst hr5z
 subst vq
 try dsimp only at hM
 replace H : St w w4z [cBlk b_1 [v_b_Years, v_b_Olds, I b_First, I b_Last] 26] R := H.back H2_ rfl
 clear H2_
 refine s_val (x_mv (v := B r2) rfl) ?_
 refine g_val (!r2) (gy_f rfl) (fun hg => x_mv (v := v_stages) rfl) ?_
 refine g_val (!r2) (gy_f rfl) (fun hg => x_lenS T27.und (gd_of (c := !r2) hg (v_stages)) hs_stages) ?_
 refine g_val (!r2) (gy_f rfl) (fun hg => x_cmp (kd := .i64) (a := (stages.length : Int)) (b := 45) (r := decide (45 < (stages.length : Int))) (gd_of (c := !r2) hg (I (stages.length : Int))) rfl rfl) ?_
 refine s_val (x_por (b := r2) (r := decide (45 < (stages.length : Int))) rfl rfl (fun hb => gd_of (c := !r2) (by first | exact hb | (rw [hb]; rfl) | simp_all) (B (decide (45 < (stages.length : Int)))))) ?_
 refine s_nil ?_
 refine W.cond (r2 || (decide (45 < (stages.length : Int)))) rfl (fun c7z => ?_) (fun c7z => ?_)
 ·replace hM := M.e_t hM c7z
  refine W.seq ?_
  refine W.region rfl ?_
  obtain ⟨r9z, hx8z, hM⟩ := M.e_bind hM
  refine s_call cf18 [] rfl (nilometerlaw10_awake_ok hx8z _ (St.give (T := [cBlk b_1 [v_b_Years, v_b_Olds, I b_First, I b_Last] 26]) H rfl)) ?_
  rintro vq w10z ⟨r3, hr11z, hvq, H2_⟩
  subst hr11z
  subst vq
  try dsimp only at hM
  replace H : St w w10z [cBlk b_1 [v_b_Years, v_b_Olds, I b_First, I b_Last] 26] R := H.back H2_ rfl
  clear H2_
  refine s_val (x_as (v := B r3) rfl) ?_
  refine s_nil ?_
  refine W.ret ?_
  have hr_ := M.e_pure hM
  exact ⟨_, resE_tmp rfl, ⟨r3, hr_, rfl, (H.pick [] (by decide) rfl)⟩⟩
 ·replace hM := M.e_f hM c7z
  refine W.skip ?_
  refine W.seq ?_
  refine W.region rfl ?_
  refine s_val (x_ld (p := .pointer (some ⟨b_1, 0, none⟩)) (v := .agg #[v_b_Years, v_b_Olds, I b_First, I b_Last]) rfl (ldb_ag (ds := [v_b_Years, v_b_Olds, I b_First, I b_Last]) Ag26 Sz26 (H.blk (k := 0) rfl) rfl rfl)) ?_
  obtain ⟨r13z, hx12z, hM⟩ := M.e_bind hM
  refine s_call cf16 [.agg #[v_b_Years, v_b_Olds, I b_First, I b_Last]] rfl (nilometerlaw10_Copy_ok b_Years b_Olds b_First b_Last (hC_b_Years.app _) hs_b_Years (hC_b_Olds.app _) hs_b_Olds hx12z _ (St.give (T := [cBlk b_1 [v_b_Years, v_b_Olds, I b_First, I b_Last] 26]) H rfl)) ?_
  rintro vq w14z ⟨r0, r1, r22, r32, u0_2, u1_3, rr2_4, Bs3_5, hr15z, hvq, H2_, hf16z⟩
  subst hr15z
  subst vq
  try dsimp only at hM
  replace H : St w w14z [cOwn (α := Yr) 41 u0_2 r0, cOwn (α := Raw 3) 43 u1_3 rr2_4, cRo Bs3_5, cBlk b_1 [v_b_Years, v_b_Olds, I b_First, I b_Last] 26] R := H.back H2_ rfl
  clear H2_
  refine s_val (x_mv (v := v_stages) rfl) ?_
  obtain ⟨r18z, hx17z, hM⟩ := M.e_bind hM
  refine s_call cf31 [v_stages] rfl (nilometerkit_Copy_int_ok stages (hC_stages.app _) hs_stages hx17z _ (St.give (T := [cOwn (α := Yr) 41 u0_2 r0, cOwn (α := Raw 3) 43 u1_3 rr2_4, cRo Bs3_5, cBlk b_1 [v_b_Years, v_b_Olds, I b_First, I b_Last] 26]) H rfl)) ?_
  rintro vq w19z ⟨r4, u0_6, hr20z, hvq, H2_⟩
  subst hr20z
  subst vq
  try dsimp only at hM
  replace H : St w w19z [cOwn (α := Int) 3 u0_6 r4, cOwn (α := Yr) 41 u0_2 r0, cOwn (α := Raw 3) 43 u1_3 rr2_4, cRo Bs3_5, cBlk b_1 [v_b_Years, v_b_Olds, I b_First, I b_Last] 26] R := H.back H2_ rfl
  clear H2_
  refine t_alloc (cs := [.slice none 0 0, .slice none 0 0, I 0, I 0]) H Al26 rfl ?_
  intro b_7 w21z H
  refine t_st (k := 0) (b := b_7) (off := 0) (cs := [.slice none 0 0, .slice none 0 0, I 0, I 0]) (vs := [u0_2, u1_3, I r22, I r32]) (cs' := [u0_2, u1_3, I r22, I r32]) (v := .agg #[u0_2, u1_3, I r22, I r32]) (L' := [cBlk b_7 [u0_2, u1_3, I r22, I r32] 26, cOwn (α := Int) 3 u0_6 r4, cOwn (α := Yr) 41 u0_2 r0, cOwn (α := Raw 3) 43 u1_3 rr2_4, cRo Bs3_5, cBlk b_1 [v_b_Years, v_b_Olds, I b_First, I b_Last] 26]) H rfl rfl rfl Sz26 rfl rfl rfl (by simp only [List.all_cons, List.all_nil, Bool.true_and, Bool.and_true, Sl.oc (ownSl (H.get (k := 2) rfl)), Sl.oc (rowSl rfl (H.get (k := 3) rfl) (roLe _ (H.get (k := 4) rfl)) hf16z)]; try rfl) rfl rfl ?_
  intro w22z H
  refine s_val (x_as (v := u0_6) rfl) ?_
  refine s_nil ?_
  refine W.seq ?_
  refine W.region rfl ?_
  refine s_val (x_ld (p := .pointer (some ⟨b_1, 0, none⟩)) (v := .agg #[v_b_Years, v_b_Olds, I b_First, I b_Last]) rfl (ldb_ag (ds := [v_b_Years, v_b_Olds, I b_First, I b_Last]) Ag26 Sz26 (H.blk (k := 5) rfl) rfl rfl)) ?_
  obtain ⟨r24z, hx23z, hM⟩ := M.e_bind hM
  refine s_call cf22 [.agg #[v_b_Years, v_b_Olds, I b_First, I b_Last]] rfl (nilometerlaw10_Book_ok b_Years b_Olds b_First b_Last (hC_b_Years.app _) hs_b_Years (hC_b_Olds.app _) hs_b_Olds hx23z _ (St.give (T := [cBlk b_7 [u0_2, u1_3, I r22, I r32] 26, cOwn (α := Int) 3 u0_6 r4, cOwn (α := Yr) 41 u0_2 r0, cOwn (α := Raw 3) 43 u1_3 rr2_4, cRo Bs3_5, cBlk b_1 [v_b_Years, v_b_Olds, I b_First, I b_Last] 26]) H rfl)) ?_
  rintro vq w25z ⟨r02, r12, r23, r33, u0_8, u1_9, rr2_10, Bs3_11, hr26z, hvq, H2_, hf27z⟩
  subst hr26z
  subst vq
  try dsimp only at hM
  replace H : St w w25z [cOwn (α := Yr) 127 u0_8 r02, cOwn (α := Raw 3) 128 u1_9 rr2_10, cRo Bs3_11, cBlk b_7 [u0_2, u1_3, I r22, I r32] 26, cOwn (α := Int) 3 u0_6 r4, cOwn (α := Yr) 41 u0_2 r0, cOwn (α := Raw 3) 43 u1_3 rr2_4, cRo Bs3_5, cBlk b_1 [v_b_Years, v_b_Olds, I b_First, I b_Last] 26] R := H.back H2_ rfl
  clear H2_
  refine t_alloc (cs := [.slice none 0 0, .slice none 0 0, I 0, I 0]) H Al55 rfl ?_
  intro b_12 w28z H
  refine t_st (k := 0) (b := b_12) (off := 0) (cs := [.slice none 0 0, .slice none 0 0, I 0, I 0]) (vs := [u0_8, u1_9, I r23, I r33]) (cs' := [u0_8, u1_9, I r23, I r33]) (v := .agg #[u0_8, u1_9, I r23, I r33]) (L' := [cBlk b_12 [u0_8, u1_9, I r23, I r33] 55, cOwn (α := Yr) 127 u0_8 r02, cOwn (α := Raw 3) 128 u1_9 rr2_10, cRo Bs3_11, cBlk b_7 [u0_2, u1_3, I r22, I r32] 26, cOwn (α := Int) 3 u0_6 r4, cOwn (α := Yr) 41 u0_2 r0, cOwn (α := Raw 3) 43 u1_3 rr2_4, cRo Bs3_5, cBlk b_1 [v_b_Years, v_b_Olds, I b_First, I b_Last] 26]) H rfl rfl rfl Sz55 rfl rfl rfl (by simp only [List.all_cons, List.all_nil, Bool.true_and, Bool.and_true, Sl.oc (ownSl (H.get (k := 1) rfl)), Sl.oc (rowSl rfl (H.get (k := 2) rfl) (Cells.sup_le (hC_b_Olds.at H) (roLe _ (H.get (k := 3) rfl))) hf27z)]; try rfl) rfl rfl ?_
  intro w29z H
  refine s_nil ?_
  refine W.seq ?_
  refine W.seq ?_
  refine W.draw (fun W => St w W [cBlk b_12 [u0_8, u1_9, I r23, I r33] 55, cOwn (α := Yr) 127 u0_8 r02, cOwn (α := Raw 3) 128 u1_9 rr2_10, cRo Bs3_11, cBlk b_7 [u0_2, u1_3, I r22, I r32] 26, cOwn (α := Int) 3 u0_6 r4, cOwn (α := Yr) 41 u0_2 r0, cOwn (α := Raw 3) 43 u1_3 rr2_4, cRo Bs3_5, cBlk b_1 [v_b_Years, v_b_Olds, I b_First, I b_Last] 26] R) [(0, true), (2, true), (1, false), (3, false), (4, true)] mixed (by decide +kernel) rfl ?_
  intro w30z hx_
  replace H : St w w30z [cBlk b_12 [u0_8, u1_9, I r23, I r33] 55, cOwn (α := Yr) 127 u0_8 r02, cOwn (α := Raw 3) 128 u1_9 rr2_10, cRo Bs3_11, cBlk b_7 [u0_2, u1_3, I r22, I r32] 26, cOwn (α := Int) 3 u0_6 r4, cOwn (α := Yr) 41 u0_2 r0, cOwn (α := Raw 3) 43 u1_3 rr2_4, cRo Bs3_5, cBlk b_1 [v_b_Years, v_b_Olds, I b_First, I b_Last] 26] R := H.ext hx_
  clear hx_
  refine ⟨(H.pick [0, 1, 2, 3, 4, 5, 6, 7, 8, 9] (by decide) rfl), ?_⟩
  refine d_q rfl (fun w' H => x_ld (p := .pointer (some ⟨b_7, 0, none⟩)) (v := .agg #[u0_2, u1_3, I r22, I r32]) rfl (ldb_ag (ds := [u0_2, u1_3, I r22, I r32]) Ag26 Sz26 (H.blk (k := 4) rfl) rfl rfl)) ?_
  refine d_q rfl (fun w' H => x_ld (p := .pointer (some ⟨b_12, 0, none⟩)) (v := .agg #[u0_8, u1_9, I r23, I r33]) rfl (ldb_ag (ds := [u0_8, u1_9, I r23, I r33]) Ag55 Sz55 (H.blk (k := 0) rfl) rfl rfl)) ?_
  refine d_l rfl ?_
  obtain ⟨r32z, hx31z, hM⟩ := M.e_bind hM
  refine s_call cf47 [.agg #[u0_2, u1_3, I r22, I r32]] rfl (often_Check_ok r0 r1 r22 r32 (Reads.of (k := 6) rfl ownLe) (ownSl (H.get (k := 6) rfl)) (Reads.sup (Reads.of (k := 7) rfl ownLe) (Reads.of (k := 8) rfl roLe)) (rowSl rfl (H.get (k := 7) rfl) (roLe _ (H.get (k := 8) rfl)) hf16z) hx31z _ (St.give (T := [cBlk b_12 [u0_8, u1_9, I r23, I r33] 55, cOwn (α := Yr) 127 u0_8 r02, cOwn (α := Raw 3) 128 u1_9 rr2_10, cRo Bs3_11, cBlk b_7 [u0_2, u1_3, I r22, I r32] 26, cOwn (α := Int) 3 u0_6 r4, cOwn (α := Yr) 41 u0_2 r0, cOwn (α := Raw 3) 43 u1_3 rr2_4, cRo Bs3_5, cBlk b_1 [v_b_Years, v_b_Olds, I b_First, I b_Last] 26]) H rfl)) ?_
  rintro vq w33z ⟨r5, hr34z, hvq, H2_⟩
  subst hr34z
  subst vq
  try dsimp only at hM
  replace H : St w w33z [cBlk b_12 [u0_8, u1_9, I r23, I r33] 55, cOwn (α := Yr) 127 u0_8 r02, cOwn (α := Raw 3) 128 u1_9 rr2_10, cRo Bs3_11, cBlk b_7 [u0_2, u1_3, I r22, I r32] 26, cOwn (α := Int) 3 u0_6 r4, cOwn (α := Yr) 41 u0_2 r0, cOwn (α := Raw 3) 43 u1_3 rr2_4, cRo Bs3_5, cBlk b_1 [v_b_Years, v_b_Olds, I b_First, I b_Last] 26] R := H.back H2_ rfl
  clear H2_
  refine s_nil ⟨(H.pick [0, 1, 2, 3, 4, 5, 6, 7, 8, 9] (by decide) rfl), ?_⟩
  refine d_l rfl ?_
  obtain ⟨r36z, hx35z, hM⟩ := M.e_bind hM
  refine s_call cf48 [.agg #[u0_8, u1_9, I r23, I r33]] rfl (nilometerref10_Check_ok r02 r12 r23 r33 (Reads.of (k := 1) rfl ownLe) (ownSl (H.get (k := 1) rfl)) (Reads.sup (Reads.of (k := 2) rfl ownLe) (Reads.sup (hC_b_Olds.app _) (Reads.of (k := 3) rfl roLe))) (rowSl rfl (H.get (k := 2) rfl) (Cells.sup_le (hC_b_Olds.at H) (roLe _ (H.get (k := 3) rfl))) hf27z) hx35z _ (St.give (T := [cBlk b_12 [u0_8, u1_9, I r23, I r33] 55, cOwn (α := Yr) 127 u0_8 r02, cOwn (α := Raw 3) 128 u1_9 rr2_10, cRo Bs3_11, cBlk b_7 [u0_2, u1_3, I r22, I r32] 26, cOwn (α := Int) 3 u0_6 r4, cOwn (α := Yr) 41 u0_2 r0, cOwn (α := Raw 3) 43 u1_3 rr2_4, cRo Bs3_5, cBlk b_1 [v_b_Years, v_b_Olds, I b_First, I b_Last] 26]) H rfl)) ?_
  rintro vq w37z ⟨r6, hr38z, hvq, H2_⟩
  subst hr38z
  subst vq
  try dsimp only at hM
  replace H : St w w37z [cBlk b_12 [u0_8, u1_9, I r23, I r33] 55, cOwn (α := Yr) 127 u0_8 r02, cOwn (α := Raw 3) 128 u1_9 rr2_10, cRo Bs3_11, cBlk b_7 [u0_2, u1_3, I r22, I r32] 26, cOwn (α := Int) 3 u0_6 r4, cOwn (α := Yr) 41 u0_2 r0, cOwn (α := Raw 3) 43 u1_3 rr2_4, cRo Bs3_5, cBlk b_1 [v_b_Years, v_b_Olds, I b_First, I b_Last] 26] R := H.back H2_ rfl
  clear H2_
  refine s_nil ⟨(H.pick [0, 1, 2, 3, 4, 5, 6, 7, 8, 9] (by decide) rfl), ?_⟩
  refine d_q rfl (fun w' H => x_cmp (kd := .i64) (a := r5) (b := r6) (r := r5 != r6) rfl rfl rfl) ?_
  refine d_nil ?_
  refine W.cond (r5 != r6) rfl (fun c39z => ?_) (fun c39z => ?_)
  ·replace hM := M.e_t hM c39z
   simp only [decide_eq_true_eq, decide_eq_false_iff_not, beq_iff_eq, bne_iff_ne, beq_eq_false_iff_ne, bne_eq_false_iff_eq, ne_eq, Decidable.not_not] at c39z
   refine W.seq ?_
   refine W.region rfl ?_
   refine s_val (x_as (v := B false) rfl) ?_
   refine s_nil ?_
   refine W.ret ?_
   have hr_ := M.e_pure hM
   exact ⟨_, resE_tmp rfl, ⟨false, hr_, rfl, (H.pick [] (by decide) rfl)⟩⟩
  ·replace hM := M.e_f hM c39z
   simp only [decide_eq_true_eq, decide_eq_false_iff_not, beq_iff_eq, bne_iff_ne, beq_eq_false_iff_ne, bne_eq_false_iff_eq, ne_eq, Decidable.not_not] at c39z
   refine W.skip ?_
   refine W.seq ?_
   refine W.region rfl ?_
   refine s_val (x_ld (p := .pointer (some ⟨b_7, 0, none⟩)) (v := .agg #[u0_2, u1_3, I r22, I r32]) rfl (ldb_ag (ds := [u0_2, u1_3, I r22, I r32]) Ag26 Sz26 (H.blk (k := 4) rfl) rfl rfl)) ?_
   refine s_val (x_mv (v := u0_6) rfl) ?_
   obtain ⟨r41z, hx40z, hM⟩ := M.e_bind hM
   refine s_call cf45 [.agg #[u0_2, u1_3, I r22, I r32], u0_6] rfl (often_Holds_ok r0 r1 r22 r32 r4 (Reads.of (k := 6) rfl ownLe) (ownSl (H.get (k := 6) rfl)) (Reads.sup (Reads.of (k := 7) rfl ownLe) (Reads.of (k := 8) rfl roLe)) (rowSl rfl (H.get (k := 7) rfl) (roLe _ (H.get (k := 8) rfl)) hf16z) (Reads.of (k := 5) rfl ownLe) (ownSl (H.get (k := 5) rfl)) hx40z _ (St.give (T := [cBlk b_12 [u0_8, u1_9, I r23, I r33] 55, cOwn (α := Yr) 127 u0_8 r02, cOwn (α := Raw 3) 128 u1_9 rr2_10, cRo Bs3_11, cBlk b_7 [u0_2, u1_3, I r22, I r32] 26, cOwn (α := Int) 3 u0_6 r4, cOwn (α := Yr) 41 u0_2 r0, cOwn (α := Raw 3) 43 u1_3 rr2_4, cRo Bs3_5, cBlk b_1 [v_b_Years, v_b_Olds, I b_First, I b_Last] 26]) H rfl)) ?_
   rintro vq w42z ⟨r03, r13, hr43z, hvq, H2_⟩
   subst hr43z
   subst vq
   try dsimp only at hM
   replace H : St w w42z [cBlk b_12 [u0_8, u1_9, I r23, I r33] 55, cOwn (α := Yr) 127 u0_8 r02, cOwn (α := Raw 3) 128 u1_9 rr2_10, cRo Bs3_11, cBlk b_7 [u0_2, u1_3, I r22, I r32] 26, cOwn (α := Int) 3 u0_6 r4, cOwn (α := Yr) 41 u0_2 r0, cOwn (α := Raw 3) 43 u1_3 rr2_4, cRo Bs3_5, cBlk b_1 [v_b_Years, v_b_Olds, I b_First, I b_Last] 26] R := H.back H2_ rfl
   clear H2_
   refine s_val (x_mv (v := .tuple #[B r03, I r13]) rfl) ?_
   refine s_val (x_ext (vs := [B r03, I r13]) (v := B r03) rfl rfl) ?_
   refine s_val (x_ext (vs := [B r03, I r13]) (v := I r13) rfl rfl) ?_
   refine s_val (x_as (v := B r03) rfl) ?_
   refine s_val (x_as (v := I r13) rfl) ?_
   refine s_nil ?_
   refine W.seq ?_
   refine W.region rfl ?_
   refine s_val (x_ld (p := .pointer (some ⟨b_12, 0, none⟩)) (v := .agg #[u0_8, u1_9, I r23, I r33]) rfl (ldb_ag (ds := [u0_8, u1_9, I r23, I r33]) Ag55 Sz55 (H.blk (k := 0) rfl) rfl rfl)) ?_
   refine s_val (x_mv (v := v_stages) rfl) ?_
   obtain ⟨r45z, hx44z, hM⟩ := M.e_bind hM
   refine s_call cf25 [.agg #[u0_8, u1_9, I r23, I r33], v_stages] rfl (nilometerref10_Holds_ok r02 r12 r23 r33 stages (Reads.of (k := 1) rfl ownLe) (ownSl (H.get (k := 1) rfl)) (Reads.sup (Reads.of (k := 2) rfl ownLe) (Reads.sup (hC_b_Olds.app _) (Reads.of (k := 3) rfl roLe))) (rowSl rfl (H.get (k := 2) rfl) (Cells.sup_le (hC_b_Olds.at H) (roLe _ (H.get (k := 3) rfl))) hf27z) (hC_stages.app _) hs_stages hx44z _ (St.give (T := [cBlk b_12 [u0_8, u1_9, I r23, I r33] 55, cOwn (α := Yr) 127 u0_8 r02, cOwn (α := Raw 3) 128 u1_9 rr2_10, cRo Bs3_11, cBlk b_7 [u0_2, u1_3, I r22, I r32] 26, cOwn (α := Int) 3 u0_6 r4, cOwn (α := Yr) 41 u0_2 r0, cOwn (α := Raw 3) 43 u1_3 rr2_4, cRo Bs3_5, cBlk b_1 [v_b_Years, v_b_Olds, I b_First, I b_Last] 26]) H rfl)) ?_
   rintro vq w46z ⟨r04, r14, hr47z, hvq, H2_⟩
   subst hr47z
   subst vq
   try dsimp only at hM
   replace H : St w w46z [cBlk b_12 [u0_8, u1_9, I r23, I r33] 55, cOwn (α := Yr) 127 u0_8 r02, cOwn (α := Raw 3) 128 u1_9 rr2_10, cRo Bs3_11, cBlk b_7 [u0_2, u1_3, I r22, I r32] 26, cOwn (α := Int) 3 u0_6 r4, cOwn (α := Yr) 41 u0_2 r0, cOwn (α := Raw 3) 43 u1_3 rr2_4, cRo Bs3_5, cBlk b_1 [v_b_Years, v_b_Olds, I b_First, I b_Last] 26] R := H.back H2_ rfl
   clear H2_
   refine s_val (x_mv (v := .tuple #[B r04, I r14]) rfl) ?_
   refine s_val (x_ext (vs := [B r04, I r14]) (v := B r04) rfl rfl) ?_
   refine s_val (x_ext (vs := [B r04, I r14]) (v := I r14) rfl rfl) ?_
   refine s_val (x_as (v := B r04) rfl) ?_
   refine s_val (x_as (v := I r14) rfl) ?_
   refine s_nil ?_
   refine W.seq ?_
   refine W.seq ?_
   refine W.region rfl ?_
   refine s_val (x_mv (v := I r13) rfl) ?_
   refine s_val (x_mv (v := I r14) rfl) ?_
   refine s_val (x_cmp (kd := .i64) (a := r13) (b := r14) (r := r13 != r14) rfl rfl rfl) ?_
   refine s_val (x_mv (v := B (r13 != r14)) rfl) ?_
   refine g_val (!(r13 != r14)) (gy_f rfl) (fun hg => x_mv (v := B r03) rfl) ?_
   refine g_val (!(r13 != r14)) (gy_f rfl) (fun hg => x_mv (v := B r04) rfl) ?_
   refine g_val (!(r13 != r14)) (gy_f rfl) (fun hg => x_eqb (a := r03) (b := r04) (r := (r03 != r04)) (gd_of (c := !(r13 != r14)) hg (B r03)) (gd_of (c := !(r13 != r14)) hg (B r04)) Try.underlying4 rfl) ?_
   refine s_val (x_por (b := r13 != r14) (r := (r03 != r04)) rfl rfl (fun hb => gd_of (c := !(r13 != r14)) (by first | exact hb | (rw [hb]; rfl) | simp_all) (B (r03 != r04)))) ?_
   refine s_nil ?_
   refine W.cond ((r13 != r14) || (r03 != r04)) rfl (fun c48z => ?_) (fun c48z => ?_)
   ·replace hM := M.e_t hM c48z
    refine W.seq ?_
    refine W.region rfl ?_
    refine s_val (x_as (v := B false) rfl) ?_
    refine s_nil ?_
    refine W.ret ?_
    have hr_ := M.e_pure hM
    exact ⟨_, resE_tmp rfl, ⟨false, hr_, rfl, (H.pick [] (by decide) rfl)⟩⟩
   ·replace hM := M.e_f hM c48z
    refine W.skip ?_
    refine W.seq ?_
    refine W.region rfl ?_
    refine s_val (x_ld (p := .pointer (some ⟨b_7, 0, none⟩)) (v := .agg #[u0_2, u1_3, I r22, I r32]) rfl (ldb_ag (ds := [u0_2, u1_3, I r22, I r32]) Ag26 Sz26 (H.blk (k := 4) rfl) rfl rfl)) ?_
    obtain ⟨r50z, hx49z, hM⟩ := M.e_bind hM
    refine s_call cf49 [.agg #[u0_2, u1_3, I r22, I r32]] rfl (often_Clash_ok r0 r1 r22 r32 (Reads.of (k := 6) rfl ownLe) (ownSl (H.get (k := 6) rfl)) (Reads.sup (Reads.of (k := 7) rfl ownLe) (Reads.of (k := 8) rfl roLe)) (rowSl rfl (H.get (k := 7) rfl) (roLe _ (H.get (k := 8) rfl)) hf16z) hx49z _ (St.give (T := [cBlk b_12 [u0_8, u1_9, I r23, I r33] 55, cOwn (α := Yr) 127 u0_8 r02, cOwn (α := Raw 3) 128 u1_9 rr2_10, cRo Bs3_11, cBlk b_7 [u0_2, u1_3, I r22, I r32] 26, cOwn (α := Int) 3 u0_6 r4, cOwn (α := Yr) 41 u0_2 r0, cOwn (α := Raw 3) 43 u1_3 rr2_4, cRo Bs3_5, cBlk b_1 [v_b_Years, v_b_Olds, I b_First, I b_Last] 26]) H rfl)) ?_
    rintro vq w51z ⟨r05, r15, hr52z, hvq, H2_⟩
    subst hr52z
    subst vq
    try dsimp only at hM
    replace H : St w w51z [cBlk b_12 [u0_8, u1_9, I r23, I r33] 55, cOwn (α := Yr) 127 u0_8 r02, cOwn (α := Raw 3) 128 u1_9 rr2_10, cRo Bs3_11, cBlk b_7 [u0_2, u1_3, I r22, I r32] 26, cOwn (α := Int) 3 u0_6 r4, cOwn (α := Yr) 41 u0_2 r0, cOwn (α := Raw 3) 43 u1_3 rr2_4, cRo Bs3_5, cBlk b_1 [v_b_Years, v_b_Olds, I b_First, I b_Last] 26] R := H.back H2_ rfl
    clear H2_
    refine s_val (x_mv (v := .tuple #[I r05, I r15]) rfl) ?_
    refine s_val (x_ext (vs := [I r05, I r15]) (v := I r05) rfl rfl) ?_
    refine s_val (x_ext (vs := [I r05, I r15]) (v := I r15) rfl rfl) ?_
    refine s_val (x_as (v := I r05) rfl) ?_
    refine s_val (x_as (v := I r15) rfl) ?_
    refine s_nil ?_
    refine W.seq ?_
    refine W.region rfl ?_
    refine s_val (x_ld (p := .pointer (some ⟨b_12, 0, none⟩)) (v := .agg #[u0_8, u1_9, I r23, I r33]) rfl (ldb_ag (ds := [u0_8, u1_9, I r23, I r33]) Ag55 Sz55 (H.blk (k := 0) rfl) rfl rfl)) ?_
    obtain ⟨r54z, hx53z, hM⟩ := M.e_bind hM
    refine s_call cf50 [.agg #[u0_8, u1_9, I r23, I r33]] rfl (nilometerref10_Clash_ok r02 r12 r23 r33 (Reads.of (k := 1) rfl ownLe) (ownSl (H.get (k := 1) rfl)) (Reads.sup (Reads.of (k := 2) rfl ownLe) (Reads.sup (hC_b_Olds.app _) (Reads.of (k := 3) rfl roLe))) (rowSl rfl (H.get (k := 2) rfl) (Cells.sup_le (hC_b_Olds.at H) (roLe _ (H.get (k := 3) rfl))) hf27z) hx53z _ (St.give (T := [cBlk b_12 [u0_8, u1_9, I r23, I r33] 55, cOwn (α := Yr) 127 u0_8 r02, cOwn (α := Raw 3) 128 u1_9 rr2_10, cRo Bs3_11, cBlk b_7 [u0_2, u1_3, I r22, I r32] 26, cOwn (α := Int) 3 u0_6 r4, cOwn (α := Yr) 41 u0_2 r0, cOwn (α := Raw 3) 43 u1_3 rr2_4, cRo Bs3_5, cBlk b_1 [v_b_Years, v_b_Olds, I b_First, I b_Last] 26]) H rfl)) ?_
    rintro vq w55z ⟨r06, r16, hr56z, hvq, H2_⟩
    subst hr56z
    subst vq
    try dsimp only at hM
    replace H : St w w55z [cBlk b_12 [u0_8, u1_9, I r23, I r33] 55, cOwn (α := Yr) 127 u0_8 r02, cOwn (α := Raw 3) 128 u1_9 rr2_10, cRo Bs3_11, cBlk b_7 [u0_2, u1_3, I r22, I r32] 26, cOwn (α := Int) 3 u0_6 r4, cOwn (α := Yr) 41 u0_2 r0, cOwn (α := Raw 3) 43 u1_3 rr2_4, cRo Bs3_5, cBlk b_1 [v_b_Years, v_b_Olds, I b_First, I b_Last] 26] R := H.back H2_ rfl
    clear H2_
    refine s_val (x_mv (v := .tuple #[I r06, I r16]) rfl) ?_
    refine s_val (x_ext (vs := [I r06, I r16]) (v := I r06) rfl rfl) ?_
    refine s_val (x_ext (vs := [I r06, I r16]) (v := I r16) rfl rfl) ?_
    refine s_val (x_as (v := I r06) rfl) ?_
    refine s_val (x_as (v := I r16) rfl) ?_
    refine s_nil ?_
    refine W.seq ?_
    refine W.seq ?_
    refine W.region rfl ?_
    refine s_val (x_mv (v := I r15) rfl) ?_
    refine s_val (x_mv (v := I r16) rfl) ?_
    refine s_val (x_cmp (kd := .i64) (a := r15) (b := r16) (r := r15 != r16) rfl rfl rfl) ?_
    refine s_val (x_mv (v := B (r15 != r16)) rfl) ?_
    refine g_val (!(r15 != r16)) (gy_f rfl) (fun hg => x_mv (v := I r05) rfl) ?_
    refine g_val (!(r15 != r16)) (gy_f rfl) (fun hg => x_mv (v := I r06) rfl) ?_
    refine g_val (!(r15 != r16)) (gy_f rfl) (fun hg => x_cmp (kd := .i64) (a := r05) (b := r06) (r := r05 != r06) (gd_of (c := !(r15 != r16)) hg (I r05)) (gd_of (c := !(r15 != r16)) hg (I r06)) rfl) ?_
    refine s_val (x_por (b := r15 != r16) (r := r05 != r06) rfl rfl (fun hb => gd_of (c := !(r15 != r16)) (by first | exact hb | (rw [hb]; rfl) | simp_all) (B (r05 != r06)))) ?_
    refine s_nil ?_
    refine W.cond ((r15 != r16) || (r05 != r06)) rfl (fun c57z => ?_) (fun c57z => ?_)
    ·replace hM := M.e_t hM c57z
     refine W.seq ?_
     refine W.region rfl ?_
     refine s_val (x_as (v := B false) rfl) ?_
     refine s_nil ?_
     refine W.ret ?_
     have hr_ := M.e_pure hM
     exact ⟨_, resE_tmp rfl, ⟨false, hr_, rfl, (H.pick [] (by decide) rfl)⟩⟩
    ·replace hM := M.e_f hM c57z
     refine W.skip ?_
     refine W.seq ?_
     refine W.region rfl ?_
     refine s_val (x_ld (p := .pointer (some ⟨b_7, 0, none⟩)) (v := .agg #[u0_2, u1_3, I r22, I r32]) rfl (ldb_ag (ds := [u0_2, u1_3, I r22, I r32]) Ag26 Sz26 (H.blk (k := 4) rfl) rfl rfl)) ?_
     refine s_val (x_mv (v := I year) rfl) ?_
     obtain ⟨r59z, hx58z, hM⟩ := M.e_bind hM
     refine s_call cf20 [.agg #[u0_2, u1_3, I r22, I r32], I year] rfl (often_Highest_ok r0 r1 r22 r32 year (Reads.of (k := 6) rfl ownLe) (ownSl (H.get (k := 6) rfl)) (Reads.sup (Reads.of (k := 7) rfl ownLe) (Reads.of (k := 8) rfl roLe)) (rowSl rfl (H.get (k := 7) rfl) (roLe _ (H.get (k := 8) rfl)) hf16z) hx58z _ (St.give (T := [cBlk b_12 [u0_8, u1_9, I r23, I r33] 55, cOwn (α := Yr) 127 u0_8 r02, cOwn (α := Raw 3) 128 u1_9 rr2_10, cRo Bs3_11, cBlk b_7 [u0_2, u1_3, I r22, I r32] 26, cOwn (α := Int) 3 u0_6 r4, cOwn (α := Yr) 41 u0_2 r0, cOwn (α := Raw 3) 43 u1_3 rr2_4, cRo Bs3_5, cBlk b_1 [v_b_Years, v_b_Olds, I b_First, I b_Last] 26]) H rfl)) ?_
     rintro vq w60z ⟨r00, r01, r17, hr61z, hvq, H2_⟩
     subst hr61z
     subst vq
     try dsimp only at hM
     replace H : St w w60z [cBlk b_12 [u0_8, u1_9, I r23, I r33] 55, cOwn (α := Yr) 127 u0_8 r02, cOwn (α := Raw 3) 128 u1_9 rr2_10, cRo Bs3_11, cBlk b_7 [u0_2, u1_3, I r22, I r32] 26, cOwn (α := Int) 3 u0_6 r4, cOwn (α := Yr) 41 u0_2 r0, cOwn (α := Raw 3) 43 u1_3 rr2_4, cRo Bs3_5, cBlk b_1 [v_b_Years, v_b_Olds, I b_First, I b_Last] 26] R := H.back H2_ rfl
     clear H2_
     refine s_val (x_mv (v := .tuple #[.agg #[I r00, I r01], I r17]) rfl) ?_
     refine s_val (x_ext (vs := [.agg #[I r00, I r01], I r17]) (v := .agg #[I r00, I r01]) rfl rfl) ?_
     refine s_val (x_ext (vs := [.agg #[I r00, I r01], I r17]) (v := I r17) rfl rfl) ?_
     refine t_alloc (cs := [I 0, I 0]) H Al35 rfl ?_
     intro b_13 w62z H
     refine t_st (k := 0) (b := b_13) (off := 0) (cs := [I 0, I 0]) (vs := [I r00, I r01]) (cs' := [I r00, I r01]) (v := .agg #[I r00, I r01]) (L' := [cBlk b_13 [I r00, I r01] 35, cBlk b_12 [u0_8, u1_9, I r23, I r33] 55, cOwn (α := Yr) 127 u0_8 r02, cOwn (α := Raw 3) 128 u1_9 rr2_10, cRo Bs3_11, cBlk b_7 [u0_2, u1_3, I r22, I r32] 26, cOwn (α := Int) 3 u0_6 r4, cOwn (α := Yr) 41 u0_2 r0, cOwn (α := Raw 3) 43 u1_3 rr2_4, cRo Bs3_5, cBlk b_1 [v_b_Years, v_b_Olds, I b_First, I b_Last] 26]) H rfl rfl rfl Sz35 rfl rfl rfl rfl rfl rfl ?_
     intro w63z H
     refine s_val (x_as (v := I r17) rfl) ?_
     refine s_nil ?_
     refine W.seq ?_
     refine W.region rfl ?_
     refine s_val (x_ld (p := .pointer (some ⟨b_12, 0, none⟩)) (v := .agg #[u0_8, u1_9, I r23, I r33]) rfl (ldb_ag (ds := [u0_8, u1_9, I r23, I r33]) Ag55 Sz55 (H.blk (k := 1) rfl) rfl rfl)) ?_
     refine s_val (x_mv (v := I year) rfl) ?_
     obtain ⟨r65z, hx64z, hM⟩ := M.e_bind hM
     refine s_call cf51 [.agg #[u0_8, u1_9, I r23, I r33], I year] rfl (nilometerref10_Highest_ok r02 r12 r23 r33 year (Reads.of (k := 2) rfl ownLe) (ownSl (H.get (k := 2) rfl)) (Reads.sup (Reads.of (k := 3) rfl ownLe) (Reads.sup (hC_b_Olds.app _) (Reads.of (k := 4) rfl roLe))) (rowSl rfl (H.get (k := 3) rfl) (Cells.sup_le (hC_b_Olds.at H) (roLe _ (H.get (k := 4) rfl))) hf27z) hx64z _ (St.give (T := [cBlk b_13 [I r00, I r01] 35, cBlk b_12 [u0_8, u1_9, I r23, I r33] 55, cOwn (α := Yr) 127 u0_8 r02, cOwn (α := Raw 3) 128 u1_9 rr2_10, cRo Bs3_11, cBlk b_7 [u0_2, u1_3, I r22, I r32] 26, cOwn (α := Int) 3 u0_6 r4, cOwn (α := Yr) 41 u0_2 r0, cOwn (α := Raw 3) 43 u1_3 rr2_4, cRo Bs3_5, cBlk b_1 [v_b_Years, v_b_Olds, I b_First, I b_Last] 26]) H rfl)) ?_
     rintro vq w66z ⟨r002, r012, r18, hr67z, hvq, H2_⟩
     subst hr67z
     subst vq
     try dsimp only at hM
     replace H : St w w66z [cBlk b_13 [I r00, I r01] 35, cBlk b_12 [u0_8, u1_9, I r23, I r33] 55, cOwn (α := Yr) 127 u0_8 r02, cOwn (α := Raw 3) 128 u1_9 rr2_10, cRo Bs3_11, cBlk b_7 [u0_2, u1_3, I r22, I r32] 26, cOwn (α := Int) 3 u0_6 r4, cOwn (α := Yr) 41 u0_2 r0, cOwn (α := Raw 3) 43 u1_3 rr2_4, cRo Bs3_5, cBlk b_1 [v_b_Years, v_b_Olds, I b_First, I b_Last] 26] R := H.back H2_ rfl
     clear H2_
     refine s_val (x_mv (v := .tuple #[.agg #[I r002, I r012], I r18]) rfl) ?_
     refine s_val (x_ext (vs := [.agg #[I r002, I r012], I r18]) (v := .agg #[I r002, I r012]) rfl rfl) ?_
     refine s_val (x_ext (vs := [.agg #[I r002, I r012], I r18]) (v := I r18) rfl rfl) ?_
     refine t_alloc (cs := [I 0, I 0]) H Al35 rfl ?_
     intro b_14 w68z H
     refine t_st (k := 0) (b := b_14) (off := 0) (cs := [I 0, I 0]) (vs := [I r002, I r012]) (cs' := [I r002, I r012]) (v := .agg #[I r002, I r012]) (L' := [cBlk b_14 [I r002, I r012] 35, cBlk b_13 [I r00, I r01] 35, cBlk b_12 [u0_8, u1_9, I r23, I r33] 55, cOwn (α := Yr) 127 u0_8 r02, cOwn (α := Raw 3) 128 u1_9 rr2_10, cRo Bs3_11, cBlk b_7 [u0_2, u1_3, I r22, I r32] 26, cOwn (α := Int) 3 u0_6 r4, cOwn (α := Yr) 41 u0_2 r0, cOwn (α := Raw 3) 43 u1_3 rr2_4, cRo Bs3_5, cBlk b_1 [v_b_Years, v_b_Olds, I b_First, I b_Last] 26]) H rfl rfl rfl Sz35 rfl rfl rfl rfl rfl rfl ?_
     intro w69z H
     refine s_val (x_as (v := I r18) rfl) ?_
     refine s_nil ?_
     refine W.seq ?_
     refine W.region rfl ?_
     refine s_val (x_mv (v := I r17) rfl) ?_
     refine s_val (x_mv (v := I r18) rfl) ?_
     refine s_val (x_cmp (kd := .i64) (a := r17) (b := r18) (r := r17 == r18) rfl rfl rfl) ?_
     refine s_val (x_mv (v := B (r17 == r18)) rfl) ?_
     refine g_val (r17 == r18) (gy_t rfl) (fun hg => x_ld (p := .pointer (some ⟨b_13, 0, none⟩)) (v := .agg #[I r00, I r01]) rfl (ldb_ag (ds := [I r00, I r01]) Ag35 Sz35 (H.blk (k := 1) rfl) rfl rfl)) ?_
     refine g_val (r17 == r18) (gy_t rfl) (fun hg => x_ld (p := .pointer (some ⟨b_14, 0, none⟩)) (v := .agg #[I r002, I r012]) rfl (ldb_ag (ds := [I r002, I r012]) Ag35 Sz35 (H.blk (k := 0) rfl) rfl rfl)) ?_
     refine g_val (r17 == r18) (gy_t rfl) (fun hg => x_eqS (eqT35 (⟨(r00 : Int), (r01 : Int)⟩ : Span) (⟨(r002 : Int), (r012 : Int)⟩ : Span) _) gdT35 (gd_of (c := r17 == r18) hg (.agg #[I r00, I r01])) (gd_of (c := r17 == r18) hg (.agg #[I r002, I r012]))) ?_
     refine s_val (x_pand (b := r17 == r18) (r := decide ((⟨(r00 : Int), (r01 : Int)⟩ : Span) = (⟨(r002 : Int), (r012 : Int)⟩ : Span))) rfl (fun hb => gd_of (c := r17 == r18) (by first | exact hb | (rw [hb]; rfl) | simp_all) (B (decide ((⟨(r00 : Int), (r01 : Int)⟩ : Span) = (⟨(r002 : Int), (r012 : Int)⟩ : Span))))) rfl) ?_
     refine s_val (x_mv (v := B ((r17 == r18) && (decide ((⟨(r00 : Int), (r01 : Int)⟩ : Span) = (⟨(r002 : Int), (r012 : Int)⟩ : Span))))) rfl) ?_
     refine g_val ((r17 == r18) && (decide ((⟨(r00 : Int), (r01 : Int)⟩ : Span) = (⟨(r002 : Int), (r012 : Int)⟩ : Span)))) (gy_t rfl) (fun hg => x_ld (p := .pointer (some ⟨b_7, 0, none⟩)) (v := .agg #[u0_2, u1_3, I r22, I r32]) rfl (ldb_ag (ds := [u0_2, u1_3, I r22, I r32]) Ag26 Sz26 (H.blk (k := 6) rfl) rfl rfl)) ?_
     refine g_val ((r17 == r18) && (decide ((⟨(r00 : Int), (r01 : Int)⟩ : Span) = (⟨(r002 : Int), (r012 : Int)⟩ : Span)))) (gy_t rfl) (fun hg => x_ld (p := .pointer (some ⟨b_1, 0, none⟩)) (v := .agg #[v_b_Years, v_b_Olds, I b_First, I b_Last]) rfl (ldb_ag (ds := [v_b_Years, v_b_Olds, I b_First, I b_Last]) Ag26 Sz26 (H.blk (k := 11) rfl) rfl rfl)) ?_
     obtain ⟨r7, hx70z, hM⟩ := M.e_bind hM
     refine t_gcall ((r17 == r18) && (decide ((⟨(r00 : Int), (r01 : Int)⟩ : Span) = (⟨(r002 : Int), (r012 : Int)⟩ : Span)))) (gy_t rfl) cf29 (B r7) (fun _ => [.agg #[u0_2, u1_3, I r22, I r32], .agg #[v_b_Years, v_b_Olds, I b_First, I b_Last]]) (fun hg => lst2 (gd_of (c := ((r17 == r18) && (decide ((⟨(r00 : Int), (r01 : Int)⟩ : Span) = (⟨(r002 : Int), (r012 : Int)⟩ : Span))))) hg (.agg #[u0_2, u1_3, I r22, I r32])) (gd_of (c := ((r17 == r18) && (decide ((⟨(r00 : Int), (r01 : Int)⟩ : Span) = (⟨(r002 : Int), (r012 : Int)⟩ : Span))))) hg (.agg #[v_b_Years, v_b_Olds, I b_First, I b_Last]))) H (fun hg => (nilometerlaw10_same_ok r0 r1 r22 r32 b_Years b_Olds b_First b_Last (Reads.of (k := 8) rfl ownLe) (ownSl (H.get (k := 8) rfl)) (Reads.sup (Reads.of (k := 9) rfl ownLe) (Reads.of (k := 10) rfl roLe)) (rowSl rfl (H.get (k := 9) rfl) (roLe _ (H.get (k := 10) rfl)) hf16z) (hC_b_Years.app _) hs_b_Years (hC_b_Olds.app _) hs_b_Olds (M.e_opt hx70z hg) _ (H.give (A := []) rfl)).mono fun v_ w_ ⟨y_, hr_, hv_, H_⟩ => by subst hr_; exact ⟨hv_, H.via H_⟩) ?_
     intro w71z H
     refine s_val (x_pand (b := ((r17 == r18) && (decide ((⟨(r00 : Int), (r01 : Int)⟩ : Span) = (⟨(r002 : Int), (r012 : Int)⟩ : Span))))) (r := r7) rfl (fun hb => gd_of (c := ((r17 == r18) && (decide ((⟨(r00 : Int), (r01 : Int)⟩ : Span) = (⟨(r002 : Int), (r012 : Int)⟩ : Span))))) (by first | exact hb | (rw [hb]; rfl) | simp_all) (B r7)) rfl) ?_
     refine s_val (x_mv (v := B (((r17 == r18) && (decide ((⟨(r00 : Int), (r01 : Int)⟩ : Span) = (⟨(r002 : Int), (r012 : Int)⟩ : Span)))) && r7)) rfl) ?_
     refine g_val (((r17 == r18) && (decide ((⟨(r00 : Int), (r01 : Int)⟩ : Span) = (⟨(r002 : Int), (r012 : Int)⟩ : Span)))) && r7) (gy_t rfl) (fun hg => x_mv (v := u0_6) rfl) ?_
     refine g_val (((r17 == r18) && (decide ((⟨(r00 : Int), (r01 : Int)⟩ : Span) = (⟨(r002 : Int), (r012 : Int)⟩ : Span)))) && r7) (gy_t rfl) (fun hg => x_mv (v := v_stages) rfl) ?_
     obtain ⟨r8, hx72z, hM⟩ := M.e_bind hM
     refine t_gcall (((r17 == r18) && (decide ((⟨(r00 : Int), (r01 : Int)⟩ : Span) = (⟨(r002 : Int), (r012 : Int)⟩ : Span)))) && r7) (gy_t rfl) cf43 (B r8) (fun _ => [u0_6, v_stages]) (fun hg => lst2 (gd_of (c := (((r17 == r18) && (decide ((⟨(r00 : Int), (r01 : Int)⟩ : Span) = (⟨(r002 : Int), (r012 : Int)⟩ : Span)))) && r7)) hg (u0_6)) (gd_of (c := (((r17 == r18) && (decide ((⟨(r00 : Int), (r01 : Int)⟩ : Span) = (⟨(r002 : Int), (r012 : Int)⟩ : Span)))) && r7)) hg (v_stages))) H (fun hg => (nilometerkit_Same_int_ok r4 stages (Reads.of (k := 7) rfl ownLe) (ownSl (H.get (k := 7) rfl)) (hC_stages.app _) hs_stages (M.e_opt hx72z hg) _ (H.give (A := []) rfl)).mono fun v_ w_ ⟨y_, hr_, hv_, H_⟩ => by subst hr_; exact ⟨hv_, H.via H_⟩) ?_
     intro w73z H
     refine s_val (x_pand (b := (((r17 == r18) && (decide ((⟨(r00 : Int), (r01 : Int)⟩ : Span) = (⟨(r002 : Int), (r012 : Int)⟩ : Span)))) && r7)) (r := r8) rfl (fun hb => gd_of (c := (((r17 == r18) && (decide ((⟨(r00 : Int), (r01 : Int)⟩ : Span) = (⟨(r002 : Int), (r012 : Int)⟩ : Span)))) && r7)) (by first | exact hb | (rw [hb]; rfl) | simp_all) (B r8)) rfl) ?_
     refine s_val (x_mv (v := B ((((r17 == r18) && (decide ((⟨(r00 : Int), (r01 : Int)⟩ : Span) = (⟨(r002 : Int), (r012 : Int)⟩ : Span)))) && r7) && r8)) rfl) ?_
     obtain ⟨r9, hx74z, hM⟩ := M.e_bind hM
     refine t_gcall ((((r17 == r18) && (decide ((⟨(r00 : Int), (r01 : Int)⟩ : Span) = (⟨(r002 : Int), (r012 : Int)⟩ : Span)))) && r7) && r8) (gy_t rfl) cf18 (B r9) (fun _ => []) (fun _ => rfl) H (fun hg => (nilometerlaw10_awake_ok (M.e_opt hx74z hg) _ (H.give (A := []) rfl)).mono fun v_ w_ ⟨y_, hr_, hv_, H_⟩ => by subst hr_; exact ⟨hv_, H.via H_⟩) ?_
     intro w75z H
     refine s_val (x_pand (b := ((((r17 == r18) && (decide ((⟨(r00 : Int), (r01 : Int)⟩ : Span) = (⟨(r002 : Int), (r012 : Int)⟩ : Span)))) && r7) && r8)) (r := r9) rfl (fun hb => gd_of (c := ((((r17 == r18) && (decide ((⟨(r00 : Int), (r01 : Int)⟩ : Span) = (⟨(r002 : Int), (r012 : Int)⟩ : Span)))) && r7) && r8)) (by first | exact hb | (rw [hb]; rfl) | simp_all) (B r9)) rfl) ?_
     refine s_val (x_as (v := B (((((r17 == r18) && (decide ((⟨(r00 : Int), (r01 : Int)⟩ : Span) = (⟨(r002 : Int), (r012 : Int)⟩ : Span)))) && r7) && r8) && r9)) rfl) ?_
     refine s_nil ?_
     refine W.ret ?_
     have hr_ := M.e_pure hM
     exact ⟨_, resE_tmp rfl, ⟨(((((r17 == r18) && (decide ((⟨(r00 : Int), (r01 : Int)⟩ : Span) = (⟨(r002 : Int), (r012 : Int)⟩ : Span)))) && r7) && r8) && r9), hr_, rfl, (H.pick [] (by decide) rfl)⟩⟩

end Go.Proofs.Ytcgalcbkkijkhaa
namespace Go.Nm
namespace M
variable {α β σ ρ : Type}
def Out (m : M α) (Q : α -> Prop) : Prop := ∃ r, m.Ends r /\ Q r
theorem o_of {m : M α} {a : α} {Q : α -> Prop} (h : m.Ends a) (q : Q a) : m.Out Q := ⟨a, h, q⟩
theorem o_pure {a : α} {Q : α -> Prop} (h : Q a) : (pure a).Out Q := ⟨a, i_pure, h⟩
theorem o_mono {m : M α} {P Q : α -> Prop} (h : m.Out P) (k : ∀ a, P a -> Q a) : m.Out Q := by
  obtain ⟨a, h1, h2⟩ := h
  exact ⟨a, h1, k a h2⟩
theorem o_bind {m : M α} {k : α -> M β} {P : α -> Prop} {Q : β -> Prop} (h : m.Out P) (h' : ∀ a, P a -> (k a).Out Q) : (bind m k).Out Q := by
  obtain ⟨a, h1, h2⟩ := h
  obtain ⟨b, h3, h4⟩ := h' a h2
  exact ⟨b, i_bind h1 h3, h4⟩
theorem o_bindE {m : M α} {k : α -> M β} {a : α} {Q : β -> Prop} (h : m.Ends a) (h' : (k a).Out Q) : (bind m k).Out Q := o_bind (o_of (Q := fun x => x = a) h rfl) (fun _ e => by subst e; exact h')
theorem o_grd {b : Bool} {k : M α} {Q : α -> Prop} (hb : b = true) (h : k.Out Q) : (grd b k).Out Q := by subst hb; exact h
theorem o_grdD {p : Prop} [Decidable p] {k : M α} {Q : α -> Prop} (hp : p) (h : k.Out Q) : (grd (decide p) k).Out Q := o_grd (decide_eq_true hp) h
theorem o_if {b : Bool} {x y : M α} {Q : α -> Prop} (h : b = true -> x.Out Q) (h' : b = false -> y.Out Q) : (bif b then x else y).Out Q := by
  cases b with
  | true => exact h rfl
  | false => exact h' rfl
theorem o_t {b : Bool} {x y : M α} {Q : α -> Prop} (hb : b = true) (h : x.Out Q) : (bif b then x else y).Out Q := by subst hb; exact h
theorem o_f {b : Bool} {x y : M α} {Q : α -> Prop} (hb : b = false) (h : y.Out Q) : (bif b then x else y).Out Q := by subst hb; exact h
/-- What a round leaves. -/
def Rd (J : Nat -> σ -> Prop) (Q : ρ -> Prop) (m : Nat) : σ ⊕ ρ -> Prop
  | .inl s => ∃ m', m' < m /\ J m' s
  | .inr r => Q r
theorem o_iter {body : σ -> M (σ ⊕ ρ)} {Q : ρ -> Prop} (J : Nat -> σ -> Prop) (round : ∀ m s, J m s -> (body s).Out (Rd J Q m)) : ∀ (m : Nat) (s : σ), J m s -> (iter body s).Out Q := by
  intro m
  induction m using Nat.strongRecOn with
  | _ m ih =>
    intro s hs
    obtain ⟨x, h1, h2⟩ := round m s hs
    cases x with
    | inl s' =>
      obtain ⟨m', hlt, hj⟩ := h2
      obtain ⟨r, h3, h4⟩ := ih m' hlt s' hj
      exact ⟨r, i_next h1 h3, h4⟩
    | inr r => exact ⟨r, i_stop h1, h2⟩
/-- A loop that counts from 0 to n. -/
theorem o_for {body : σ -> M (σ ⊕ ρ)} {Q : ρ -> Prop} (n : Nat) (J : Nat -> σ -> Prop) (round : ∀ i s, i < n -> J i s -> (body s).Out (fun x => match x with | .inl s' => J (i + 1) s' | .inr r => Q r))
    (last : ∀ s, J n s -> (body s).Out (fun x => match x with | .inl _ => False | .inr r => Q r)) {s : σ} (h : J 0 s) : (iter body s).Out Q := by
  refine o_iter (fun m s => ∃ i, i <= n /\ m = n - i /\ J i s) ?_ n s ⟨0, Nat.zero_le _, rfl, h⟩
  rintro m s ⟨i, hi, rfl, hj⟩
  by_cases e : i < n
  · refine o_mono (round i s e hj) ?_
    intro x hx
    cases x with
    | inl s' => exact ⟨n - (i + 1), by omega, i + 1, e, rfl, hx⟩
    | inr r => exact hx
  · obtain rfl : i = n := by omega
    refine o_mono (last s hj) ?_
    intro x hx
    cases x with
    | inl s' => exact hx.elim
    | inr r => exact hx
end M
theorem M.i_f {α : Type} {b : Bool} {x y : M α} {r : α} (hb : b = false) (h : y.Ends r) : (bif b then x else y).Ends r := by subst hb; exact h
theorem M.i_for {σ ρ : Type} {body : σ -> M (σ ⊕ ρ)} {r : ρ} (st : Nat -> σ) (n : Nat) (step : ∀ i, i < n -> (body (st i)).Ends (.inl (st (i + 1)))) (fin : (body (st n)).Ends (.inr r)) : (M.iter body (st 0)).Ends r := by
  refine M.i_loop (r := r) (fun m s => ∃ i, i <= n /\ m = n - i /\ s = st i) ?_ n (st 0) ⟨0, Nat.zero_le _, rfl, rfl⟩
  rintro m s ⟨i, hi, rfl, rfl⟩
  by_cases h : i < n
  · exact .inl ⟨_, n - (i + 1), by omega, step i h, i + 1, h, rfl, rfl⟩
  · obtain rfl : i = n := by omega
    exact .inr fin
theorem M.i_t {α : Type} {b : Bool} {x y : M α} {r : α} (hb : b = true) (h : x.Ends r) : (bif b then x else y).Ends r := by subst hb; exact h
theorem take_succ_D {α : Type} (l : List α) (i : Nat) (h : i < l.length) (d : α) : l.take i ++ [l.getD i d] = l.take (i + 1) := by
  rw [List.take_succ_eq_append_getElem h]
  simp [List.getD, h]
theorem getD_el {α : Type} (l : List α) {k : Nat} (h : k < l.length) (d : α) : l.getD k d = l[k] := by rw [List.getD_eq_getElem?_getD, List.getElem?_eq_getElem h, Option.getD_some]
theorem gA2 {p q : Prop} [Decidable p] [Decidable q] (hp : p) (hq : q) : (decide p && decide q) = true := by rw [decide_eq_true hp, decide_eq_true hq]; rfl
theorem mem_getD {α : Type} {l : List α} {x : α} (h : x ∈ l) (d : α) : ∃ i, i < l.length /\ l.getD i d = x := by
  obtain ⟨i, hi, e⟩ := List.getElem_of_mem h
  exact ⟨i, hi, by rw [getD_el l hi d]; exact e⟩
end Go.Nm
namespace Go.Nm
namespace Pk
/-- The first peak behind the flood of each one, and how many floods are over when a peak comes. -/
structure Fl (n : Nat) (nx kk : Nat -> Nat) : Prop where
  lt : ∀ i, i < n -> i < nx i
  le : ∀ i, i < n -> nx i <= n
  kle : ∀ m, kk m <= m
  iff : ∀ i m, i < n -> m <= n -> (i < kk m ↔ nx i <= m)
namespace Fl
variable {n : Nat} {nx kk : Nat -> Nat}
end Fl
/-- The greatest worth of the peaks ahead of one. -/
structure IsS (n : Nat) (v : Nat -> Int) (kk : Nat -> Nat) (S : Nat -> Int) : Prop where
  z : S 0 = 0
  s : ∀ i, i < n -> S (i + 1) = max (S i) (S (kk i) + v i)
/-- The greatest worth from a peak on. -/
structure IsB (n : Nat) (v : Nat -> Int) (nx : Nat -> Nat) (B : Nat -> Int) : Prop where
  z : B n = 0
  s : ∀ i, i < n -> B i = max (max 0 (B (i + 1))) (v i + B (nx i))
variable {n : Nat} {nx kk : Nat -> Nat} {v S B : Nat -> Int}
theorem IsS.mono (h : IsS n v kk S) : ∀ {a b : Nat}, a <= b -> b <= n -> S a <= S b := by
  intro a b hab
  induction hab with
  | refl => intro _; exact Int.le_refl _
  | @step m k ih =>
    intro hb
    have := ih (by omega)
    have e := h.s m (by omega)
    rw [Nat.succ_eq_add_one]
    omega
theorem IsB.anti (h : IsB n v nx B) : ∀ {a b : Nat}, a <= b -> b <= n -> B b <= B a := by
  intro a b hab
  induction hab with
  | refl => intro _; exact Int.le_refl _
  | @step m k ih =>
    intro hb
    have := ih (by omega)
    have e := h.s m (by omega)
    rw [Nat.succ_eq_add_one]
    omega
theorem IsB.pos (h : IsB n v nx B) {i : Nat} (hi : i <= n) : 0 <= B i := by
  have := h.anti hi (Nat.le_refl _)
  rw [h.z] at this
  exact this
/-- The sum of a function's values from a to b. -/
def sm (d : Nat -> Int) (a : Nat) : Nat -> Int
  | 0 => 0
  | k + 1 => sm d a k + d (a + k)
theorem sm_add (d : Nat -> Int) (a j k : Nat) : sm d a (j + k) = sm d a j + sm d (a + j) k := by
  induction k with
  | zero => simp [sm]
  | succ k ih => rw [← Nat.add_assoc]; simp only [sm]; rw [ih, Nat.add_assoc]; omega
end Pk
end Go.Nm
namespace Go.Nm
namespace Pk
def dayAt (l : List Pk) (i : Nat) : Int := (l.getD i default).day
def stAt (l : List Pk) (i : Nat) : Int := (l.getD i default).stage
/-- Days that rise. -/
def Up (l : List Pk) : Prop := ∀ i j, i < j -> j < l.length -> dayAt l i < dayAt l j
theorem Up.le {l : List Pk} (h : Up l) {i j : Nat} (hij : i <= j) (hj : j < l.length) : dayAt l i <= dayAt l j := by
  rcases Nat.lt_or_eq_of_le hij with e | e
  · have := h i j e hj
    omega
  · subst e; exact Int.le_refl _
theorem tw_lt {l : List Pk} {p : Pk -> Bool} : ∀ {j : Nat}, j < (l.takeWhile p).length ↔ j < l.length /\ ∀ k, k <= j -> p (l.getD k default) = true := by
  induction l with
  | nil => intro j; simp
  | cons a l ih =>
    intro j
    rw [List.takeWhile_cons]
    by_cases e : p a = true
    · rw [if_pos e]
      cases j with
      | zero => simp [e]
      | succ j =>
        simp only [List.length_cons, Nat.succ_lt_succ_iff, ih]
        refine and_congr_right fun _ => ⟨fun h k hk => ?_, fun h k hk => ?_⟩
        · cases k with
          | zero => simpa using e
          | succ k => simpa using h k (by omega)
        · simpa using h (k + 1) (by omega)
    · rw [if_neg e]
      simp only [List.length_nil, Nat.not_lt_zero, false_iff]
      intro h
      exact e (by simpa using h.2 0 (Nat.zero_le _))
theorem tw_le (l : List Pk) (p : Pk -> Bool) : (l.takeWhile p).length <= l.length := by
  induction l with
  | nil => simp
  | cons a l ih =>
    rw [List.takeWhile_cons]
    split
    · simpa using ih
    · simp
/-- The first peak whose day is not ahead of a day. -/
def fst (l : List Pk) (t : Int) : Nat := (l.takeWhile fun p => decide (p.day < t)).length
theorem fst_le (l : List Pk) (t : Int) : fst l t <= l.length := tw_le l _
theorem fst_lt {l : List Pk} (h : Up l) {t : Int} {j : Nat} (hj : j < l.length) : j < fst l t ↔ dayAt l j < t := by
  unfold fst
  rw [tw_lt]
  constructor
  · rintro ⟨_, k⟩
    simpa [dayAt] using k j (Nat.le_refl _)
  · intro e
    refine ⟨hj, fun k hk => ?_⟩
    have := h.le hk hj
    show decide (dayAt l k < t) = true
    exact decide_eq_true (by omega)
def nx (l : List Pk) (A : Int) (i : Nat) : Nat := fst l (dayAt l i + A)
def kk (l : List Pk) (A : Int) (m : Nat) : Nat := if m < l.length then fst l (dayAt l m - A + 1) else l.length
theorem fl {l : List Pk} (h : Up l) {A : Int} (hA : 1 <= A) : Fl l.length (nx l A) (kk l A) where
  lt i hi := (fst_lt h hi).2 (by omega)
  le i _ := fst_le _ _
  kle m := by
    unfold kk
    split
    · rename_i hm
      rcases Nat.lt_or_ge m (fst l (dayAt l m - A + 1)) with e | e
      · have := (fst_lt h hm).1 e
        omega
      · exact e
    · omega
  iff i m hi hm := by
    unfold kk nx
    split
    · rename_i hm
      rw [fst_lt h hi]
      have := fst_lt h (t := dayAt l i + A) hm
      omega
    · have := fst_le l (dayAt l i + A)
      omega
end Pk
end Go.Nm
namespace Go.Nm
namespace Pk
/-- The greatest worth of the peaks ahead of one. -/
def Sf (kk : Nat -> Nat) (v : Nat -> Int) : Nat -> Int
  | 0 => 0
  | i + 1 => max (Sf kk v i) (Sf kk v (min (kk i) i) + v i)
termination_by i => i
decreasing_by all_goals omega
theorem IsS.uniq {n : Nat} {nx kk : Nat -> Nat} {v S S' : Nat -> Int} (F : Fl n nx kk) (h : IsS n v kk S) (h' : IsS n v kk S') : ∀ i, i <= n -> S i = S' i := by
  intro i
  induction i using Nat.strongRecOn with
  | _ i ih =>
    intro hi
    cases i with
    | zero => rw [h.z, h'.z]
    | succ i =>
      have := F.kle i
      rw [h.s i (by omega), h'.s i (by omega), ih i (by omega) (by omega), ih (kk i) (by omega) (by omega)]
variable {n : Nat} {nx kk : Nat -> Nat} {v S : Nat -> Int}
/-- Dues behind so many peaks. -/
def Du (n : Nat) (kk : Nat -> Nat) (S : Nat -> Int) (i : Nat) (out : Nat -> Int) : Prop := ∀ m, m <= n -> sm out 0 m = S (min i (kk m))
theorem sm_range (d : Nat -> Int) {a b : Nat} (h : a <= b) : sm d a (b - a) = sm d 0 b - sm d 0 a := by
  have := sm_add d 0 a (b - a)
  rw [show a + (b - a) = b by omega, Nat.zero_add] at this
  omega
theorem sm_set (d : Nat -> Int) (p : Nat) (x : Int) (m : Nat) : sm (fun k => if k = p then d k + x else d k) 0 m = sm d 0 m + (if p < m then x else 0) := by
  induction m with
  | zero => simp [sm]
  | succ m ih =>
    simp only [sm, ih, Nat.zero_add]
    by_cases e : m = p
    · subst e; simp; omega
    · by_cases e' : p < m
      · rw [if_neg e, if_pos e', if_pos (by omega)]; omega
      · rw [if_neg e, if_neg e', if_neg (by omega)]; omega
theorem sm_zero (a m : Nat) : sm (fun _ => 0) a m = 0 := by
  induction m with
  | zero => rfl
  | succ m ih => simp [sm, ih]
theorem Du.z (hS : IsS n v kk S) : Du n kk S 0 (fun _ => 0) := by
  intro m _
  rw [Nat.zero_min, hS.z]
  exact sm_zero 0 m
/-- What a peak's days have when its turn comes. -/
theorem Du.has (F : Fl n nx kk) {i : Nat} {out : Nat -> Int} (h : Du n kk S i out) (hi : i < n) : sm out i (nx i - i) = S i - S (kk i) := by
  have l1 := F.lt i hi
  have l2 := F.le i hi
  have k1 := (F.iff i (nx i) hi l2).2 (Nat.le_refl _)
  have k2 := F.kle i
  rw [sm_range out (Nat.le_of_lt l1), h (nx i) l2, h i (by omega), Nat.min_eq_left (Nat.le_of_lt k1), Nat.min_eq_right k2]
theorem Du.step (F : Fl n nx kk) (hS : IsS n v kk S) {i : Nat} {out : Nat -> Int} (h : Du n kk S i out) (hi : i < n) {p : Nat} (hp : p + 1 = nx i) {x : Int} (hx : x = max 0 (v i - sm out i (nx i - i))) : Du n kk S (i + 1) (fun k => if k = p then out k + x else out k) := by
  intro m hm
  rw [sm_set, h m hm]
  rw [h.has F hi] at hx
  have e := hS.s i hi
  have q := F.iff i m hi hm
  by_cases c : i < kk m
  · have := q.1 c
    rw [if_pos (by omega), Nat.min_eq_left (by omega), Nat.min_eq_left (by omega)]
    omega
  · rw [if_neg (by omega), Nat.min_eq_right (by omega), Nat.min_eq_right (by omega)]
    omega
theorem kk_n (F : Fl n nx kk) : kk n = n := by
  have h1 := F.kle n
  rcases Nat.lt_or_ge (kk n) n with e | e
  · have := (F.iff (kk n) n e (Nat.le_refl _)).2 (F.le _ e)
    omega
  · omega
section
variable (F : Fl n nx kk) (hS : IsS n v kk S) {out : Nat -> Int} (h : Du n kk S n out)
include F h in
theorem Du.pre {m : Nat} (hm : m <= n) : sm out 0 m = S (kk m) := by
  rw [h m hm, Nat.min_eq_right (Nat.le_trans (F.kle m) hm)]
include F hS h
omit hS in
theorem Du.sum : sm out 0 n = S n := by rw [h.pre F (Nat.le_refl _), kk_n F]
theorem Du.at {p : Nat} (hp : p < n) : out p = S (kk (p + 1)) - S (kk p) := by
  have h1 := h.pre F (show p + 1 <= n from hp)
  have h2 := h.pre F (Nat.le_of_lt hp)
  simp only [sm, Nat.zero_add] at h1
  omega
end
end Pk
end Go.Nm
namespace Go.Nm
namespace Pk
/-- The first that is not 0. -/
def fe (f : Nat -> Int) : Nat -> Int
  | 0 => 0
  | n + 1 => if fe f n ≠ 0 then fe f n else f n
theorem fe_all {f : Nat -> Int} : ∀ {n : Nat}, fe f n = 0 ↔ ∀ i, i < n -> f i = 0
  | 0 => by simp [fe]
  | n + 1 => by
    have ih := fe_all (f := f) (n := n)
    unfold fe
    constructor
    · intro h i hi
      split at h
      · rename_i h1; exact absurd h h1
      · rename_i h1
        rcases Nat.lt_or_eq_of_le (Nat.le_of_lt_succ hi) with e | e
        · exact ih.1 (Classical.not_not.1 h1) i e
        · rw [e]; exact h
    · intro h
      have h1 := ih.2 fun i hi => h i (by omega)
      rw [if_neg (by rw [h1]; simp)]
      exact h n (by omega)
theorem fe_stop {f : Nat -> Int} {i : Nat} (h0 : fe f i = 0) (h : f i ≠ 0) : ∀ {n : Nat}, i < n -> fe f n = f i
  | 0, hn => by omega
  | n + 1, hn => by
    unfold fe
    rcases Nat.lt_or_eq_of_le (Nat.le_of_lt_succ hn) with e | e
    · have ih := fe_stop h0 h e
      rw [if_pos (by rw [ih]; exact h), ih]
    · subst e
      rw [if_neg (by rw [h0]; simp)]
def pkB (p : Pk) : Bool := (decide (0 <= p.day) && decide (p.day <= 4000)) && (decide (0 <= p.stage) && decide (p.stage <= 2000))
def errP (l : List Pk) (i : Nat) : Int := if pkB (l.getD i default) = false then 110 else if 0 < i /\ (l.getD i default).day <= (l.getD (i - 1) default).day then 9 else 0
def chkP (l : List Pk) : Int := if 40 < l.length then 3 else fe (errP l) l.length
/-- Peaks that are right. -/
structure Ok (l : List Pk) : Prop where
  few : l.length <= 40
  day : ∀ i, i < l.length -> 0 <= dayAt l i /\ dayAt l i <= 4000
  st : ∀ i, i < l.length -> 0 <= stAt l i /\ stAt l i <= 2000
  up : Up l
theorem chk_ok {l : List Pk} (h : chkP l = 0) : Ok l := by
  unfold chkP at h
  split at h
  · cases h
  · rename_i h40
    have k := fe_all.1 h
    have k1 : ∀ i, i < l.length -> pkB (l.getD i default) = true /\ (0 < i -> dayAt l (i - 1) < dayAt l i) := by
      intro i hi
      have := k i hi
      unfold errP at this
      split at this
      · cases this
      · rename_i h1
        split at this
        · cases this
        · rename_i h2
          refine ⟨by simpa using h1, fun h0 => ?_⟩
          unfold dayAt
          omega
    have k2 : ∀ i, i < l.length -> (0 <= dayAt l i /\ dayAt l i <= 4000) /\ (0 <= stAt l i /\ stAt l i <= 2000) := by
      intro i hi
      have := (k1 i hi).1
      simpa [pkB, dayAt, stAt] using this
    refine ⟨by omega, fun i hi => (k2 i hi).1, fun i hi => (k2 i hi).2, ?_⟩
    intro i j hij hj
    induction j with
    | zero => omega
    | succ j ih =>
      have h1 := (k1 (j + 1) hj).2 (by omega)
      simp only [Nat.add_sub_cancel] at h1
      rcases Nat.lt_or_eq_of_le (Nat.le_of_lt_succ hij) with e | e
      · have := ih e (by omega)
        omega
      · subst e; exact h1
def askP (l : List Pk) (A T : Int) : Int := if chkP l ≠ 0 then chkP l else if (1 <= A /\ A <= 60) /\ (0 <= T /\ T <= 2000) then 0 else 4
structure Asked (l : List Pk) (A T : Int) : Prop where
  ok : Ok l
  ap : 1 <= A /\ A <= 60
  th : 0 <= T /\ T <= 2000
end Pk
end Go.Nm
namespace Go.Proofs.Ytcgalcbkkijkhaa
open Go Go.Nm
theorem in_ends (x a b : Int) : (m_often_in x a b).Ends (decide (a <= x) && decide (x <= b)) := M.i_pure
theorem out_ends (x a b : Int) : (m_nilometerref10_outside x a b).Ends (!(decide (a <= x) && decide (x <= b))) := by
  have e : (decide (x < a) || decide (b < x)) = !(decide (a <= x) && decide (x <= b)) := by
    by_cases h1 : a <= x <;> by_cases h2 : x <= b <;> simp [h1, h2] <;> omega
  unfold m_nilometerref10_outside
  rw [e]
  exact M.i_pure
theorem gI2 {c : Bool} {p q : Prop} [Decidable p] [Decidable q] (h : c = true -> p /\ q) : (!c || (decide p && decide q)) = true := by
  cases c with
  | true => exact gA2 (h rfl).1 (h rfl).2
  | false => rfl
end Go.Proofs.Ytcgalcbkkijkhaa
namespace Go.Nm
namespace Pk
end Pk
end Go.Nm
namespace Go.Proofs.Ytcgalcbkkijkhaa
open Go Go.Nm
variable {l : List Pk} {A T : Int}
/-- What a peak has above the threshold. -/
def vP (l : List Pk) (T : Int) (i : Nat) : Int := Pk.stAt l i - T
end Go.Proofs.Ytcgalcbkkijkhaa
namespace Go.Nm
namespace Pk
def cA (c : List Int) (k : Nat) : Nat := Int.toNat (c.getD k 0)
/-- A choice: a strictly increasing list of peaks. -/
def Ris (n : Nat) (c : List Int) : Prop := ∀ k, k < c.length -> 0 <= c.getD k 0 /\ c.getD k 0 < n /\ (0 < k -> c.getD (k - 1) 0 < c.getD k 0)
/-- Of floods of their own, each above the threshold. -/
def Good (l : List Pk) (A T : Int) (c : List Int) : Prop := ∀ k, k < c.length -> T < stAt l (cA c k) /\ (0 < k -> A <= dayAt l (cA c k) - dayAt l (cA c (k - 1)))
def wS (l : List Pk) (T : Int) (c : List Int) : Nat -> Int
  | 0 => 0
  | k + 1 => wS l T c k + (stAt l (cA c k) - T)
theorem Ris.low {n : Nat} {c : List Int} (h : Ris n c) : ∀ k : Nat, k < c.length -> (k : Int) <= c.getD k 0
  | 0, hk => by have := (h 0 hk).1; omega
  | k + 1, hk => by
    have ih := h.low k (by omega)
    have := (h (k + 1) hk).2.2 (by omega)
    rw [Nat.add_sub_cancel] at this
    omega
theorem Ris.few {n : Nat} {c : List Int} (h : Ris n c) : c.length <= n := by
  rcases Nat.eq_zero_or_pos c.length with e | e
  · omega
  · have h1 := h.low (c.length - 1) (by omega)
    have h2 := h (c.length - 1) (by omega)
    omega
theorem Ris.mono {n : Nat} {c : List Int} (h : Ris n c) {j k : Nat} (hjk : j < k) (hk : k < c.length) : c.getD j 0 < c.getD k 0 := by
  induction k with
  | zero => omega
  | succ k ih =>
    have h1 := (h (k + 1) hk).2.2 (by omega)
    rw [Nat.add_sub_cancel] at h1
    rcases Nat.lt_or_eq_of_le (Nat.le_of_lt_succ hjk) with e | e
    · have := ih e (by omega)
      omega
    · rw [e]; exact h1
theorem Ris.at_ {n : Nat} {c : List Int} (h : Ris n c) {k : Nat} (hk : k < c.length) : cA c k < n := by
  have := h k hk
  unfold cA
  omega
/-- What is said of a worth. -/
structure WoE (l : List Pk) (A T : Int) (c : List Int) (y : Int × Int) : Prop where
  ask : askP l A T ≠ 0 -> y = (0, askP l A T)
  arg : askP l A T = 0 -> ¬ Ris l.length c -> y = (0, 2)
  bad : askP l A T = 0 -> Ris l.length c -> ¬ Good l A T c -> y = (0, 7)
  ok : askP l A T = 0 -> Ris l.length c -> Good l A T c -> y = (wS l T c c.length, 0)
theorem WoE.uniq {l : List Pk} {A T : Int} {c : List Int} {y y' : Int × Int} (h : WoE l A T c y) (h' : WoE l A T c y') : y = y' := by
  by_cases h0 : askP l A T = 0
  · by_cases h1 : Ris l.length c
    · by_cases h2 : Good l A T c
      · rw [h.ok h0 h1 h2, h'.ok h0 h1 h2]
      · rw [h.bad h0 h1 h2, h'.bad h0 h1 h2]
    · rw [h.arg h0 h1, h'.arg h0 h1]
  · rw [h.ask h0, h'.ask h0]
end Pk
end Go.Nm
namespace Go.Proofs.Ytcgalcbkkijkhaa
open Go Go.Nm
variable {l : List Pk} {A T : Int}
end Go.Proofs.Ytcgalcbkkijkhaa
namespace Go.Nm
namespace Pk
variable {l : List Pk} {A T : Int} {c : List Int}
theorem getD_app (c : List Int) (x : Int) (k : Nat) : (c ++ [x]).getD k 0 = if k < c.length then c.getD k 0 else if k = c.length then x else 0 := by
  simp only [List.getD_eq_getElem?_getD]
  by_cases h : k < c.length
  · rw [if_pos h, List.getElem?_append_left h]
  · rw [if_neg h, List.getElem?_append_right (by omega)]
    by_cases e : k = c.length
    · subst e; simp
    · rw [if_neg e, List.getElem?_eq_none (by simp; omega)]; rfl
theorem Ris.app {n : Nat} (h : Ris n c) {x : Nat} (hx : x < n) (hl : 0 < c.length -> cA c (c.length - 1) < x) : Ris n (c ++ [(x : Int)]) := by
  intro k hk
  rw [List.length_append, List.length_singleton] at hk
  rw [getD_app, getD_app]
  by_cases e : k < c.length
  · rw [if_pos e, if_pos (by omega)]
    exact h k e
  · obtain rfl : k = c.length := by omega
    rw [if_neg (by omega), if_pos rfl]
    refine ⟨by omega, by omega, fun h0 => ?_⟩
    rw [if_pos (by omega)]
    have h1 := hl h0
    have h2 := h (c.length - 1) (by omega)
    unfold cA at h1
    omega
theorem cA_app {k x : Nat} (h : k <= c.length) : cA (c ++ [(x : Int)]) k = if k < c.length then cA c k else x := by
  unfold cA
  rw [getD_app]
  by_cases e : k < c.length
  · rw [if_pos e, if_pos e]
  · rw [if_neg e, if_neg e, if_pos (by omega)]
    omega
theorem Good.app (h : Good l A T c) {x : Nat} (h1 : T < stAt l x) (h2 : 0 < c.length -> A <= dayAt l x - dayAt l (cA c (c.length - 1))) : Good l A T (c ++ [(x : Int)]) := by
  intro k hk
  rw [List.length_append, List.length_singleton] at hk
  rw [cA_app (by omega), cA_app (by omega)]
  by_cases e : k < c.length
  · rw [if_pos e, if_pos (by omega)]
    exact h k e
  · obtain rfl : k = c.length := by omega
    rw [if_neg (by omega)]
    refine ⟨h1, fun h0 => ?_⟩
    rw [if_pos (by omega)]
    exact h2 h0
end Pk
end Go.Nm
namespace Go.Proofs.Ytcgalcbkkijkhaa
open Go Go.Nm
variable {l : List Pk} {A T : Int}
/-- The greatest worth of a choice. -/
def mxP (l : List Pk) (A T : Int) : Int := Pk.Sf (Pk.kk l A) (vP l T) l.length
structure PiE (l : List Pk) (A T : Int) (y : List Int × Int × Int) : Prop where
  ask : Pk.askP l A T ≠ 0 -> y = ([], 0, Pk.askP l A T)
  ok : Pk.askP l A T = 0 -> y.2.2 = 0 /\ Pk.Ris l.length y.1 /\ Pk.Good l A T y.1 /\ Pk.wS l T y.1 y.1.length = mxP l A T /\ y.2.1 = mxP l A T
structure DuE (l : List Pk) (A T : Int) (y : List Int × Int) : Prop where
  ask : Pk.askP l A T ≠ 0 -> y = ([], Pk.askP l A T)
  ok : Pk.askP l A T = 0 -> y.2 = 0 /\ y.1.length = l.length /\ Pk.Du l.length (Pk.kk l A) (Pk.Sf (Pk.kk l A) (vP l T)) l.length (fun k => y.1.getD k 0)
end Go.Proofs.Ytcgalcbkkijkhaa
namespace Go.Proofs.Ytcgalcbkkijkhaa
open Go Go.Nm
theorem awake_ends : (m_nilometerlaw10_awake).Ends true := ⟨300, by kernel_rfl⟩
end Go.Proofs.Ytcgalcbkkijkhaa
namespace Go.Proofs.Ytcgalcbkkijkhaa
open Go Go.Nm
variable {l : List Pk} {A T : Int}
/-- Dues that prove something. -/
def Prv (l : List Pk) (A T : Int) (d : List Int) : Prop := ∀ i, i < l.length -> vP l T i <= Pk.sm (fun k => d.getD k 0) i (Pk.nx l A i - i)
def DuR (d : List Int) : Prop := ∀ i, i < d.length -> 0 <= d.getD i 0 /\ d.getD i 0 <= 2000
structure PrE (l : List Pk) (A T w : Int) (d : List Int) (y : Bool × Int) : Prop where
  ask : Pk.askP l A T ≠ 0 -> y = (false, Pk.askP l A T)
  len : Pk.askP l A T = 0 -> d.length ≠ l.length -> y = (false, 2)
  rng : Pk.askP l A T = 0 -> d.length = l.length -> ¬ DuR d -> y = (false, 4)
  ok : Pk.askP l A T = 0 -> d.length = l.length -> DuR d -> y.2 = 0 /\ (y.1 = true ↔ Prv l A T d /\ Pk.sm (fun k => d.getD k 0) 0 l.length <= w)
theorem PrE.uniq {w : Int} {d : List Int} {y y' : Bool × Int} (h : PrE l A T w d y) (h' : PrE l A T w d y') : y = y' := by
  by_cases h0 : Pk.askP l A T = 0
  · by_cases h1 : d.length = l.length
    · by_cases h2 : DuR d
      · obtain ⟨a1, a2⟩ := h.ok h0 h1 h2
        obtain ⟨b1, b2⟩ := h'.ok h0 h1 h2
        have e : y.1 = y'.1 := by
          cases c1 : y.1 <;> cases c2 : y'.1
          · rfl
          · rw [c1] at a2; rw [c2] at b2
            exact a2.2 (b2.1 rfl)
          · rw [c1] at a2; rw [c2] at b2
            exact (b2.2 (a2.1 rfl)).symm
          · rfl
        exact Prod.ext e (by rw [a1, b1])
      · rw [h.rng h0 h1 h2, h'.rng h0 h1 h2]
    · rw [h.len h0 h1, h'.len h0 h1]
  · rw [h.ask h0, h'.ask h0]
theorem index_int {s : List Int} {f : Int -> M Bool} {q : Int -> Bool} (hl : s.length <= 1000000) (h : ∀ x, x ∈ s -> (f x).Ends (q x)) : ∃ r, (m_slices_IndexFunc_int s f).Ends r /\ decide (0 <= r) = s.any q := by
  have out : (m_slices_IndexFunc_int s f).Out (fun r => decide (0 <= r) = s.any q) := by
    unfold m_slices_IndexFunc_int
    refine M.o_bind (P := fun y => match y with | .inl r => decide (0 <= r) = s.any q | .inr (_ : Unit) => s.any q = false) ?_ ?_
    · refine M.o_for s.length (fun i (k : Nat) => k = i /\ (s.take i).any q = false) ?_ ?_ ⟨rfl, by simp⟩
      · rintro i k hi ⟨rfl, hJ⟩
        simp only [m_slices_IndexFunc_int_b0]
        have hm : s.getD k 0 ∈ s := by rw [getD_el s hi]; exact List.getElem_mem hi
        refine M.o_t (decide_eq_true (by omega)) (M.o_grdD (by omega) (M.o_bindE (h _ hm) (M.o_if (fun hb => ?_) (fun hb => ?_))))
        · refine M.o_pure ?_
          dsimp only
          rw [show s.any q = true from List.any_eq_true.2 ⟨_, hm, hb⟩]
          exact decide_eq_true (by omega)
        · refine M.o_pure ⟨rfl, ?_⟩
          rw [← take_succ_D s k hi 0, List.any_append, hJ]
          simp only [List.any_cons, List.any_nil, Bool.or_false, Bool.false_or]
          exact hb
      · rintro k ⟨rfl, hJ⟩
        simp only [m_slices_IndexFunc_int_b0]
        rw [List.take_length] at hJ
        exact M.o_f (by simp) (M.o_pure hJ)
    · intro y hy
      cases y with
      | inl r => exact M.o_pure hy
      | inr u => exact M.o_pure (by show decide ((0 : Int) <= -1) = s.any q; rw [show s.any q = false from hy]; rfl)
  exact out
theorem every_int {s : List Int} {so : Int -> M Bool} {p : Int -> Bool} (hl : s.length <= 1000000) (h : ∀ x, x ∈ s -> (so x).Ends (p x)) : (m_often_every_int s so).Ends (s.all p) := by
  unfold m_often_every_int m_slices_ContainsFunc_int
  obtain ⟨r, h1, h2⟩ := index_int (s := s) (f := fun x => m_often_every_int__1 x so) (q := fun x => !(p x)) hl (fun x hx => by unfold m_often_every_int__1; exact M.i_bind (h x hx) M.i_pure)
  refine M.i_bind (M.i_bind h1 M.i_pure) ?_
  rw [h2, List.any_eq_not_all_not]
  simp only [Bool.not_not]
  exact M.i_pure
theorem dur_all {d : List Int} : (d.all fun n => decide (0 <= n) && decide (n <= 2000)) = true ↔ DuR d := by
  rw [List.all_eq_true]
  constructor
  · intro h i hi
    have := h (d.getD i 0) (by rw [getD_el d hi]; exact List.getElem_mem hi)
    rwa [Bool.and_eq_true, decide_eq_true_eq, decide_eq_true_eq] at this
  · intro h x hx
    obtain ⟨i, hi, rfl⟩ := mem_getD hx 0
    have := h i hi
    exact gA2 this.1 this.2
end Go.Proofs.Ytcgalcbkkijkhaa
namespace Go.Proofs.Ytcgalcbkkijkhaa
open Go Go.Nm
variable {l : List Pk} {A T : Int}
theorem copy_int {c : List Int} (h : c.length <= 1000000) : (m_nilometerkit_Copy_int c).Ends c := M.i_grd (decide_eq_true (by simp only [List.length_nil]; omega)) M.i_pure
theorem same_int (l : List Int) : (m_nilometerkit_Same_int l l).Ends true := by
  unfold m_nilometerkit_Same_int
  refine M.i_f (by simp) (M.i_bind (a := (.inr () : Unit ⊕ Unit)) ?_ M.i_pure)
  refine M.i_for (fun i => i) l.length (fun i hi => ?_) ?_
  · simp only [m_nilometerkit_Same_int_b0]
    exact M.i_t (decide_eq_true (by omega)) (M.i_grd (decide_eq_true (by omega)) (M.i_grd (decide_eq_true (by omega)) (M.i_f (by simp) M.i_pure)))
  · simp only [m_nilometerkit_Same_int_b0]
    exact M.i_f (by simp) M.i_pure
end Go.Proofs.Ytcgalcbkkijkhaa
namespace Go.Nm
namespace Bk
/-- What a recorded year says, where there is one. -/
def rec (ys : List Yr) (y : Int) : Span := match ys.find? (fun r => r.year == y) with
  | some r => ⟨r.lo, r.hi⟩
  | none => ⟨0, 2000⟩
/-- What an old note says besides. -/
def told (y : Int) (s : Span) (o : Old10) : Span := if o.src <= y /\ y <= o.dst then (if o.passed.contains y then ⟨max s.lo o.stage, s.hi⟩ else ⟨s.lo, min s.hi (o.stage - 1)⟩) else s
/-- The highest stages that a year can have: none if the least is above the greatest. -/
def kn (ys : List Yr) (os : List Old10) (y : Int) : Span := os.foldl (told y) (rec ys y)
/-- Whether a stage is one that a year can have, by what the notes say. -/
def can (ys : List Yr) (os : List Old10) (y x : Int) : Bool := (ys.all fun r => !(r.year == y && (decide (x < r.lo) || decide (x > r.hi)))) && (os.all fun o => !(decide (o.src <= y) && decide (y <= o.dst)) || (o.passed.contains y == decide (o.stage <= x)))
structure OkY (f l : Int) (ys : List Yr) : Prop where
  in_ : ∀ r ∈ ys, f <= r.year /\ r.year <= l /\ 0 <= r.lo /\ r.lo <= r.hi /\ r.hi <= 2000
  up : ys.Pairwise fun a b => a.year < b.year
structure OkO (f l : Int) (os : List Old10) : Prop where
  in_ : ∀ o ∈ os, f <= o.src /\ o.src <= o.dst /\ o.dst <= l /\ 1 <= o.stage /\ o.stage <= 2000
theorem rec_can {ys : List Yr} {f l y x : Int} (h : OkY f l ys) (h0 : 0 <= x) (h1 : x <= 2000) : (ys.all fun r => !(r.year == y && (decide (x < r.lo) || decide (x > r.hi)))) = true ↔ (rec ys y).lo <= x /\ x <= (rec ys y).hi := by
  have hu := h.up
  clear h
  unfold rec
  induction ys with
  | nil => simp; omega
  | cons r ys ih =>
    obtain ⟨h2, h3⟩ := List.pairwise_cons.1 hu
    rw [List.all_cons, List.find?_cons]
    by_cases e : r.year = y
    · subst e
      have k : (ys.all fun r' => !(r'.year == r.year && (decide (x < r'.lo) || decide (x > r'.hi)))) = true := by
        rw [List.all_eq_true]
        intro r' hr
        have := h2 r' hr
        have : (r'.year == r.year) = false := by rw [beq_eq_false_iff_ne]; omega
        rw [this]; rfl
      simp only [beq_self_eq_true, k, Bool.and_true, Bool.true_and, Bool.not_eq_true', Bool.or_eq_false_iff, decide_eq_false_iff_not]
      omega
    · have e' : (r.year == y) = false := by rw [beq_eq_false_iff_ne]; exact e
      simp only [e', Bool.false_and, Bool.not_false, Bool.true_and]
      exact ih hu.of_cons
theorem told_can (y x : Int) : ∀ (os : List Old10) (s : Span), ((s.lo <= x /\ x <= s.hi) /\ (os.all fun o => !(decide (o.src <= y) && decide (y <= o.dst)) || (o.passed.contains y == decide (o.stage <= x))) = true) ↔ (os.foldl (told y) s).lo <= x /\ x <= (os.foldl (told y) s).hi
  | [], s => by simp
  | o :: os, s => by
    rw [List.foldl_cons, ← told_can y x os (told y s o), List.all_cons, Bool.and_eq_true, ← and_assoc]
    refine and_congr_left fun _ => ?_
    unfold told
    by_cases h : o.src <= y /\ y <= o.dst
    · rw [if_pos h]
      simp only [h.1, h.2, decide_true, Bool.and_self, Bool.not_true, Bool.false_or, beq_iff_eq]
      by_cases c : o.passed.contains y = true
      · rw [if_pos c, c]
        by_cases d : o.stage <= x
        · simp only [d, decide_true, and_true]; omega
        · simp only [d, decide_false]; simp; omega
      · rw [if_neg c]
        rw [Bool.not_eq_true] at c
        rw [c]
        by_cases d : o.stage <= x
        · simp only [d, decide_true]; simp; omega
        · simp only [d, decide_false, and_true]; omega
    · rw [if_neg h]
      have : (!(decide (o.src <= y) && decide (y <= o.dst))) = true := by
        by_cases h1 : o.src <= y
        · by_cases h2 : y <= o.dst
          · exact absurd ⟨h1, h2⟩ h
          · simp [h2]
        · simp [h1]
      rw [this, Bool.true_or]
      simp
theorem can_iff {ys : List Yr} {os : List Old10} {f l y x : Int} (h : OkY f l ys) (h0 : 0 <= x) (h1 : x <= 2000) : can ys os y x = true ↔ (kn ys os y).lo <= x /\ x <= (kn ys os y).hi := by
  unfold can kn
  rw [Bool.and_eq_true, rec_can h h0 h1]
  exact told_can y x os (rec ys y)
theorem told_in {f l y : Int} {s : Span} : ∀ {os : List Old10}, (∀ o ∈ os, f <= o.src /\ o.src <= o.dst /\ o.dst <= l /\ 1 <= o.stage /\ o.stage <= 2000) -> 0 <= s.lo -> s.lo <= 2000 -> 0 <= s.hi -> s.hi <= 2000 →
    0 <= (os.foldl (told y) s).lo /\ (os.foldl (told y) s).lo <= 2000 /\ 0 <= (os.foldl (told y) s).hi /\ (os.foldl (told y) s).hi <= 2000
  | [], _, h1, h2, h3, h4 => ⟨h1, h2, h3, h4⟩
  | o :: os, h, h1, h2, h3, h4 => by
    have k := h o (by simp)
    rw [List.foldl_cons]
    have q : 0 <= (told y s o).lo /\ (told y s o).lo <= 2000 /\ 0 <= (told y s o).hi /\ (told y s o).hi <= 2000 := by
      unfold told
      split
      · split
        · dsimp only; omega
        · dsimp only; omega
      · exact ⟨h1, h2, h3, h4⟩
    exact told_in (fun o' ho => h o' (by simp [ho])) q.1 q.2.1 q.2.2.1 q.2.2.2
theorem rec_in {ys : List Yr} {f l : Int} (h : OkY f l ys) (y : Int) : 0 <= (rec ys y).lo /\ (rec ys y).lo <= 2000 /\ 0 <= (rec ys y).hi /\ (rec ys y).hi <= 2000 := by
  unfold rec
  cases e : ys.find? (fun r => r.year == y) with
  | none => dsimp only; omega
  | some r =>
    have := h.in_ r (List.mem_of_find?_eq_some e)
    dsimp only
    omega
theorem kn_in {ys : List Yr} {os : List Old10} {f l f' l' : Int} (h : OkY f l ys) (k : OkO f' l' os) (y : Int) : 0 <= (kn ys os y).lo /\ (kn ys os y).lo <= 2000 /\ 0 <= (kn ys os y).hi /\ (kn ys os y).hi <= 2000 := by
  obtain ⟨h1, h2, h3, h4⟩ := rec_in h y
  exact told_in k.in_ h1 h2 h3 h4
end Bk
end Go.Nm
namespace Go.Nm
/-- A loop that looks at one after the other, till one is not so. -/
theorem M.o_scan {ρ : Type} {body : Nat -> M (Nat ⊕ ρ)} {Q : ρ -> Prop} (n : Nat) (p : Nat -> Prop) (h : ∀ s, s < n -> (∀ k, k < s -> p k) -> (body s).Out (fun x => match x with | .inl s' => s' = s + 1 /\ p s | .inr r => Q r))
    (he : (∀ k, k < n -> p k) -> (body n).Out (fun x => match x with | .inl _ => False | .inr r => Q r)) : (M.iter body 0).Out Q := by
  refine M.o_for n (fun i (s : Nat) => s = i /\ ∀ k, k < i -> p k) ?_ ?_ ⟨rfl, fun k hk => by omega⟩
  · rintro i s hi ⟨rfl, hp⟩
    refine M.o_mono (h s hi hp) ?_
    intro x hx
    cases x with
    | inl s' =>
      refine ⟨hx.1, fun k hk => ?_⟩
      rcases Nat.lt_or_eq_of_le (Nat.le_of_lt_succ hk) with e | e
      · exact hp k e
      · subst e; exact hx.2
    | inr r => exact hx
  · rintro s ⟨rfl, hp⟩
    refine M.o_mono (he hp) ?_
    intro x hx
    cases x with
    | inl u => exact hx.elim
    | inr r => exact hx
theorem M.Out.ends {α : Type} {m : M α} {a : α} (h : m.Out (fun r => r = a)) : m.Ends a := by
  obtain ⟨r, h1, rfl⟩ := h
  exact h1
namespace Bk
def frB (f l : Int) : Bool := ((decide (0 <= f) && decide (f <= l)) && (decide (0 <= l) && decide (l <= 3000))) && decide (l - f < 1000)
def fewO (o : Old10) : Bool := decide ((o.passed.length : Int) <= 10)
def yrB (f l : Int) (r : Yr) : Bool := ((decide (f <= r.year) && decide (r.year <= l)) && (decide (0 <= r.lo) && decide (r.lo <= r.hi))) && (decide (0 <= r.hi) && decide (r.hi <= 2000))
def errY (f l : Int) (ys : List Yr) (i : Nat) : Int := if yrB f l (ys.getD i default) = false then 110 else if 0 < i /\ (ys.getD i default).year <= (ys.getD (i - 1) default).year then 9 else 0
/-- Strictly increasing, from a first to a last number. -/
def Rin (l : List Int) (a b : Int) : Prop := ∀ i, i < l.length -> (a <= l.getD i 0 /\ l.getD i 0 <= b) /\ (0 < i -> l.getD (i - 1) 0 < l.getD i 0)
instance (l : List Int) (a b : Int) : Decidable (Rin l a b) := inferInstanceAs (Decidable (∀ i, i < l.length -> _))
def oB (f l : Int) (o : Old10) : Bool := (((decide (f <= o.src) && decide (o.src <= o.dst)) && (decide (f <= o.dst) && decide (o.dst <= l))) && (decide (1 <= o.stage) && decide (o.stage <= 2000))) && decide (Rin o.passed o.src o.dst)
def chkB (ys : List Yr) (os : List Old10) (f l : Int) : Int :=
  if frB f l = false then 110 else if 60 < ys.length ∨ 8 < os.length ∨ os.all fewO = false then 3 else if Pk.fe (errY f l ys) ys.length ≠ 0 then Pk.fe (errY f l ys) ys.length else if os.all (oB f l) = false then 110 else 0
/-- Books that are right. -/
structure Ok (ys : List Yr) (os : List Old10) (f l : Int) : Prop where
  f0 : 0 <= f
  fl : f <= l
  l3 : l <= 3000
  ln : l - f < 1000
  y60 : ys.length <= 60
  o8 : os.length <= 8
  few : ∀ o ∈ os, o.passed.length <= 10
  y : OkY f l ys
  o : OkO f l os
  ris : ∀ o ∈ os, Rin o.passed o.src o.dst
theorem chk_ok {ys : List Yr} {os : List Old10} {f l : Int} (h : chkB ys os f l = 0) : Ok ys os f l := by
  unfold chkB at h
  split at h
  · cases h
  · rename_i h1
    rw [Bool.not_eq_false] at h1
    split at h
    · cases h
    · rename_i h2
      split at h
      · rename_i h3; exact absurd h h3
      · rename_i h3
        split at h
        · cases h
        · rename_i h4
          rw [Bool.not_eq_false] at h4
          have h1 : ((0 <= f /\ f <= l) /\ (0 <= l /\ l <= 3000)) /\ l - f < 1000 := by simpa [frB] using h1
          have hf : os.all fewO = true := by
            cases e : os.all fewO with
            | true => rfl
            | false => exact absurd (.inr (.inr e)) h2
          have k := Pk.fe_all.1 (Classical.not_not.1 h3)
          have k1 : ∀ i, i < ys.length -> yrB f l (ys.getD i default) = true /\ (0 < i -> (ys.getD (i - 1) default).year < (ys.getD i default).year) := by
            intro i hi
            have := k i hi
            unfold errY at this
            split at this
            · cases this
            · rename_i h1
              split at this
              · cases this
              · rename_i h2
                refine ⟨by simpa using h1, fun h0 => ?_⟩
                omega
          refine ⟨h1.1.1.1, h1.1.1.2, h1.1.2.2, h1.2, by omega, by omega, fun o ho => ?_, ⟨fun r hr => ?_, ?_⟩, ⟨fun o ho => ?_⟩, fun o ho => ?_⟩
          · have := List.all_eq_true.1 hf o ho
            unfold fewO at this
            have := of_decide_eq_true this
            omega
          · obtain ⟨i, hi, rfl⟩ := List.getElem_of_mem hr
            have := (k1 i hi).1
            rw [List.getD_eq_getElem?_getD, List.getElem?_eq_getElem hi, Option.getD_some] at this
            have : ((f <= ys[i].year /\ ys[i].year <= l) /\ (0 <= ys[i].lo /\ ys[i].lo <= ys[i].hi)) /\ (0 <= ys[i].hi /\ ys[i].hi <= 2000) := by simpa [yrB] using this
            omega
          · have hup : ∀ i j, i < j -> j < ys.length -> (ys.getD i default).year < (ys.getD j default).year := by
              intro i j hij hj
              induction j with
              | zero => omega
              | succ j ih =>
                have h1 := (k1 (j + 1) hj).2 (by omega)
                simp only [Nat.add_sub_cancel] at h1
                rcases Nat.lt_or_eq_of_le (Nat.le_of_lt_succ hij) with e | e
                · have := ih e (by omega)
                  omega
                · subst e; exact h1
            rw [List.pairwise_iff_getElem]
            intro i j hi hj hij
            have := hup i j hij hj
            rwa [List.getD_eq_getElem?_getD, List.getElem?_eq_getElem hi, Option.getD_some, List.getD_eq_getElem?_getD, List.getElem?_eq_getElem hj, Option.getD_some] at this
          · have := List.all_eq_true.1 h4 o ho
            have : (((f <= o.src /\ o.src <= o.dst) /\ (f <= o.dst /\ o.dst <= l)) /\ (1 <= o.stage /\ o.stage <= 2000)) /\ Rin o.passed o.src o.dst := by simpa [oB] using this
            omega
          · have := List.all_eq_true.1 h4 o ho
            have : (((f <= o.src /\ o.src <= o.dst) /\ (f <= o.dst /\ o.dst <= l)) /\ (1 <= o.stage /\ o.stage <= 2000)) /\ Rin o.passed o.src o.dst := by simpa [oB] using this
            exact this.2
end Bk
end Go.Nm
namespace Go.Proofs.Ytcgalcbkkijkhaa
open Go Go.Nm
theorem index_old {s : List Old10} {f : Old10 -> M Bool} {q : Old10 -> Bool} (hl : s.length <= 1000000) (h : ∀ x, x ∈ s -> (f x).Ends (q x)) : (m_slices_IndexFunc_often_Old s f).Out (fun r => decide (0 <= r) = s.any q) := by
  unfold m_slices_IndexFunc_often_Old
  refine M.o_bind (P := fun y => match y with | .inl i => 0 <= i /\ s.any q = true | .inr (_ : Unit) => s.any q = false) ?_ ?_
  · refine M.o_scan s.length (fun k => q (s.getD k default) = false) ?_ ?_
    · intro k hk hp
      simp only [m_slices_IndexFunc_often_Old_b0]
      have e : s.getD k default = s[k] := by rw [List.getD_eq_getElem?_getD, List.getElem?_eq_getElem hk, Option.getD_some]
      refine M.o_t (decide_eq_true (by omega)) (M.o_grdD (by omega) (M.o_bindE (h _ (by rw [e]; exact List.getElem_mem hk)) (M.o_if (fun hb => ?_) (fun hb => ?_))))
      · exact M.o_pure ⟨by omega, List.any_eq_true.2 ⟨_, by rw [e]; exact List.getElem_mem hk, hb⟩⟩
      · exact M.o_pure ⟨rfl, hb⟩
    · intro hp
      simp only [m_slices_IndexFunc_often_Old_b0]
      refine M.o_f (by simp) (M.o_pure ?_)
      rw [List.any_eq_false]
      intro x hx
      obtain ⟨i, hi, rfl⟩ := List.getElem_of_mem hx
      have := hp i hi
      rw [List.getD_eq_getElem?_getD, List.getElem?_eq_getElem hi, Option.getD_some] at this
      simp [this]
  · intro y hy
    cases y with
    | inl i => exact M.o_pure (by rw [hy.2]; exact decide_eq_true hy.1)
    | inr u => exact M.o_pure (by rw [hy]; decide)
theorem every_old {s : List Old10} {so : Old10 -> M Bool} {p : Old10 -> Bool} (hl : s.length <= 1000000) (h : ∀ x, x ∈ s -> (so x).Ends (p x)) : (m_often_every_often_Old s so).Ends (s.all p) := by
  unfold m_often_every_often_Old m_slices_ContainsFunc_often_Old
  obtain ⟨r, h1, h2⟩ := index_old (s := s) (f := fun x => m_often_every_often_Old__1 x so) (q := fun x => !(p x)) hl (fun x hx => by unfold m_often_every_often_Old__1; exact M.i_bind (h x hx) M.i_pure)
  refine M.i_bind (M.i_bind h1 M.i_pure) ?_
  rw [h2, List.any_eq_not_all_not]
  simp only [Bool.not_not]
  exact M.i_pure
theorem rising_ends (l : List Int) (a b : Int) (hb : b <= 1000000) (ha : -1000000 <= a) : (m_often_rising l a b).Ends (decide (Bk.Rin l a b)) := by
  refine M.Out.ends ?_
  unfold m_often_rising
  refine M.o_bind (P := fun y => match y with | .inl (_ : Unit) => ¬ Bk.Rin l a b | .inr (_ : Unit) => Bk.Rin l a b) ?_ ?_
  · refine M.o_for l.length (fun i (s : Int × Nat) => s.2 = i /\ a <= s.1 /\ s.1 = (if i = 0 then a else l.getD (i - 1) 0 + 1) /\ ∀ k, k < i -> (a <= l.getD k 0 /\ l.getD k 0 <= b) /\ (0 < k -> l.getD (k - 1) 0 < l.getD k 0)) ?_ ?_ ⟨rfl, Int.le_refl _, rfl, fun k hk => by omega⟩
    · rintro i ⟨x, s⟩ hi ⟨e1, e2, e3, e4⟩
      dsimp only at e1 e2 e3
      subst e1
      simp only [m_often_rising_b0]
      refine M.o_t (decide_eq_true (by omega)) (M.o_grdD (by omega) (M.o_bindE (in_ends _ _ _) (M.o_if (fun hc => ?_) (fun hc => ?_))))
      · rw [Bool.not_eq_true', Bool.and_eq_false_iff, decide_eq_false_iff_not, decide_eq_false_iff_not] at hc
        refine M.o_pure fun hR => ?_
        have := hR s hi
        split at e3 <;> omega
      · rw [Bool.not_eq_false', Bool.and_eq_true, decide_eq_true_eq, decide_eq_true_eq] at hc
        refine M.o_grd (gA2 (by omega) (by omega)) (M.o_pure ⟨rfl, by dsimp only; omega, by rw [if_neg (by omega), Nat.add_sub_cancel], fun k hk => ?_⟩)
        rcases Nat.lt_or_eq_of_le (Nat.le_of_lt_succ hk) with e | e
        · exact e4 k e
        · subst e
          split at e3 <;> omega
    · rintro ⟨x, s⟩ ⟨e1, e2, e3, e4⟩
      dsimp only at e1 e2 e3
      subst e1
      simp only [m_often_rising_b0]
      exact M.o_f (by simp) (M.o_pure e4)
  · intro y hy
    cases y with
    | inl u => exact M.o_pure (decide_eq_false hy).symm
    | inr u => exact M.o_pure (decide_eq_true hy).symm
theorem unl_ends (l : List Int) (a b : Int) (hl : l.length <= 1000000) : (m_nilometerref10_unlisted l a b).Ends (!(decide (Bk.Rin l a b))) := by
  refine M.Out.ends ?_
  unfold m_nilometerref10_unlisted
  refine M.o_bind (P := fun y => match y with | .inl (_ : Unit) => ¬ Bk.Rin l a b | .inr (_ : Unit) => Bk.Rin l a b) ?_ ?_
  · refine M.o_scan l.length (fun k => (a <= l.getD k 0 /\ l.getD k 0 <= b) /\ (0 < k -> l.getD (k - 1) 0 < l.getD k 0)) ?_ ?_
    · intro s hi hp
      simp only [m_nilometerref10_unlisted_b0]
      refine M.o_t (decide_eq_true (by omega)) (M.o_grdD (by omega) (M.o_bindE (out_ends _ _ _) ?_))
      refine M.o_grd (gI2 fun h => by rw [Bool.and_eq_true, decide_eq_true_eq] at h; omega) (M.o_grd (gI2 fun h => by rw [Bool.and_eq_true, decide_eq_true_eq] at h; omega) ?_)
      rw [show Int.toNat ((s : Int) - 1) = s - 1 by omega]
      refine M.o_if (fun hc => ?_) (fun hc => ?_)
      · refine M.o_pure fun hR => ?_
        have := hR s hi
        rw [Bool.or_eq_true, Bool.not_eq_true', Bool.and_eq_false_iff, Bool.and_eq_true, decide_eq_false_iff_not, decide_eq_false_iff_not, decide_eq_true_eq, decide_eq_true_eq] at hc
        omega
      · rw [Bool.or_eq_false_iff, Bool.not_eq_false', Bool.and_eq_false_iff, Bool.and_eq_true, decide_eq_false_iff_not, decide_eq_false_iff_not, decide_eq_true_eq, decide_eq_true_eq] at hc
        exact M.o_pure ⟨rfl, by omega⟩
    · intro hp
      simp only [m_nilometerref10_unlisted_b0]
      exact M.o_f (by simp) (M.o_pure hp)
  · intro y hy
    cases y with
    | inl u => exact M.o_pure (by rw [decide_eq_false hy]; rfl)
    | inr u => exact M.o_pure (by rw [decide_eq_true hy]; rfl)
theorem yr_ends (ys : List Yr) (os : List Old10) (f l : Int) (r : Yr) : (m_often_Book_allowed_t41 ys os f l r).Ends (Bk.yrB f l r) := by
  unfold m_often_Book_allowed_t41 Bk.yrB
  generalize ha : (decide (f <= r.year) && decide (r.year <= l)) = A
  generalize hb : (decide (0 <= r.lo) && decide (r.lo <= r.hi)) = B
  generalize hc : (decide (0 <= r.hi) && decide (r.hi <= 2000)) = C
  have a1 := in_ends r.year f l
  have b1 := in_ends r.lo 0 r.hi
  have c1 := in_ends r.hi 0 2000
  rw [ha] at a1; rw [hb] at b1; rw [hc] at c1
  refine M.i_bind a1 (M.i_bind (a := A && B) (M.i_opt (fun h => by rw [h]; exact b1) (fun h => by rw [h]; rfl)) (M.i_bind (a := (A && (A && B)) && C) (M.i_opt (fun h => by rw [h]; exact c1) (fun h => by rw [h]; rfl)) ?_))
  cases A <;> cases B <;> cases C <;> exact M.i_pure
theorem old_ends {ys : List Yr} {os : List Old10} {f l : Int} (hl : l <= 3000) (hf : 0 <= f) (o : Old10) : (m_often_Check_2 o ys os f l).Ends (Bk.oB f l o) := by
  unfold m_often_Check_2 m_often_Book_allowed_t43 Bk.oB
  generalize ha : (decide (f <= o.src) && decide (o.src <= o.dst)) = A
  generalize hb : (decide (f <= o.dst) && decide (o.dst <= l)) = B
  generalize hc : (decide (1 <= o.stage) && decide (o.stage <= 2000)) = C
  have a1 := in_ends o.src f o.dst
  have b1 := in_ends o.dst f l
  have c1 := in_ends o.stage 1 2000
  rw [ha] at a1; rw [hb] at b1; rw [hc] at c1
  have d1 : A = true -> B = true -> (m_often_rising o.passed o.src o.dst).Ends (decide (Bk.Rin o.passed o.src o.dst)) := by
    rintro rfl rfl
    rw [Bool.and_eq_true, decide_eq_true_eq, decide_eq_true_eq] at ha hb
    exact rising_ends _ _ _ (by omega) (by omega)
  generalize (decide (Bk.Rin o.passed o.src o.dst)) = E at d1
  refine M.i_bind (M.i_bind a1 (M.i_bind (a := A && B) (M.i_opt (fun h => by rw [h]; exact b1) (fun h => by rw [h]; rfl)) (M.i_bind (a := (A && (A && B)) && C) (M.i_opt (fun h => by rw [h]; exact c1) (fun h => by rw [h]; rfl)) (M.i_bind (a := (((A && (A && B)) && ((A && (A && B)) && C))) && E) (M.i_opt (fun h => ?_) (fun h => by rw [h]; rfl)) M.i_pure)))) ?_
  · rw [h]
    have : A = true /\ B = true := by cases A <;> cases B <;> simp_all
    exact d1 this.1 this.2
  · cases A <;> cases B <;> cases C <;> cases E <;> exact M.i_pure
theorem check_ends (ys : List Yr) (os : List Old10) (f l : Int) (hy : ys.length <= 1000000) (ho : os.length <= 1000000) : (m_often_Check ys os f l).Ends (Bk.chkB ys os f l) := by
  unfold m_often_Check Bk.chkB
  refine M.i_bind (in_ends _ _ _) (M.i_bind (a := (decide (0 <= f) && decide (f <= l)) && (decide (0 <= l) && decide (l <= 3000))) (M.i_opt (fun h => by rw [Bool.not_not] at h; rw [h]; exact in_ends _ _ _) (fun h => by rw [Bool.not_not] at h; rw [h]; rfl)) ?_)
  have e1 : ((!(decide (0 <= f) && decide (f <= l))) || !((decide (0 <= f) && decide (f <= l)) && (decide (0 <= l) && decide (l <= 3000)))) = !((decide (0 <= f) && decide (f <= l)) && (decide (0 <= l) && decide (l <= 3000))) := by
    cases (decide (0 <= f) && decide (f <= l)) <;> rfl
  rw [e1]
  refine M.i_grd (gI2 fun h => ?_) ?_
  · rw [Bool.not_not, Bool.and_eq_true, Bool.and_eq_true, Bool.and_eq_true, decide_eq_true_eq, decide_eq_true_eq, decide_eq_true_eq, decide_eq_true_eq] at h
    omega
  have e2 : ((!((decide (0 <= f) && decide (f <= l)) && (decide (0 <= l) && decide (l <= 3000)))) || decide (1000 <= l - f)) = !(Bk.frB f l) := by
    unfold Bk.frB
    rw [Bool.eq_iff_iff]
    simp only [Bool.or_eq_true, Bool.not_eq_true', Bool.and_eq_false_iff, decide_eq_true_eq, decide_eq_false_iff_not]
    omega
  rw [e2]
  refine M.i_if (fun h1 => ?_) (fun h1 => ?_)
  · rw [Bool.not_eq_true'] at h1
    rw [if_pos h1]
    exact M.i_pure
  · rw [Bool.not_eq_false'] at h1
    rw [if_neg (by rw [h1]; simp)]
    have hfl : 0 <= f /\ l <= 3000 := by
      have h1 : ((0 <= f /\ f <= l) /\ (0 <= l /\ l <= 3000)) /\ l - f < 1000 := by simpa [Bk.frB] using h1
      exact ⟨h1.1.1.1, h1.1.2.2⟩
    have few := every_old (s := os) (so := fun xqz => m_often_Check_1 xqz) (p := Bk.fewO) ho (fun o _ => M.i_pure)
    by_cases hm : 60 < ys.length ∨ 8 < os.length
    · have e3 : (decide (60 < (ys.length : Int)) || decide (8 < (os.length : Int))) = true := by
        rw [Bool.or_eq_true, decide_eq_true_eq, decide_eq_true_eq]; omega
      rw [e3, if_pos (hm.elim (fun h => .inl h) (fun h => .inr (.inl h)))]
      exact M.i_bind (a := false) (M.i_opt (fun h => by cases h) (fun _ => rfl)) (M.i_t rfl M.i_pure)
    · have e3 : (decide (60 < (ys.length : Int)) || decide (8 < (os.length : Int))) = false := by
        rw [Bool.or_eq_false_iff, decide_eq_false_iff_not, decide_eq_false_iff_not]; omega
      rw [e3]
      refine M.i_bind (M.i_opt (fun _ => few) (fun h => by cases h)) ?_
      cases hf : os.all Bk.fewO with
      | false =>
        rw [if_pos (.inr (.inr rfl))]
        exact M.i_t rfl M.i_pure
      | true =>
        rw [if_neg (fun h => h.elim (fun h => hm (.inl h)) (fun h => h.elim (fun h => hm (.inr h)) (fun h => by cases h)))]
        refine M.i_f rfl ?_
        have out : (M.iter (m_often_Check_b0 ys os f l) 0).Out (fun y => (match y with | .inl s => s ≠ 0 /\ s = Pk.fe (Bk.errY f l ys) ys.length | .inr (_ : Unit) => Pk.fe (Bk.errY f l ys) ys.length = 0)) := by
          refine M.o_for ys.length (fun i s => s = i /\ Pk.fe (Bk.errY f l ys) i = 0) ?_ ?_ ⟨rfl, rfl⟩
          · rintro i s hi ⟨rfl, h0⟩
            simp only [m_often_Check_b0]
            refine M.o_t (decide_eq_true (by omega)) (M.o_grdD (by omega) (M.o_bindE (yr_ends _ _ _ _ _) (M.o_if (fun h1 => ?_) (fun h1 => ?_))))
            · have e : Bk.errY f l ys s = 110 := by unfold Bk.errY; rw [if_pos (by simpa using h1)]
              exact M.o_pure ⟨by decide, by rw [Pk.fe_stop h0 (by rw [e]; decide) hi, e]⟩
            · have h1 : Bk.yrB f l (ys.getD s default) = true := by simpa using h1
              refine M.o_grd (gI2 fun h => by have := of_decide_eq_true h; omega) (M.o_grd (gI2 fun h => by have := of_decide_eq_true h; omega) ?_)
              rw [show Int.toNat ((s : Int) - 1) = s - 1 by omega]
              refine M.o_if (fun h2 => ?_) (fun h2 => ?_)
              · rw [Bool.and_eq_true, decide_eq_true_eq, decide_eq_true_eq] at h2
                have e : Bk.errY f l ys s = 9 := by unfold Bk.errY; rw [if_neg (by rw [h1]; simp), if_pos ⟨by omega, h2.2⟩]
                exact M.o_pure ⟨by decide, by rw [Pk.fe_stop h0 (by rw [e]; decide) hi, e]⟩
              · refine M.o_pure ⟨rfl, ?_⟩
                have e : Bk.errY f l ys s = 0 := by
                  unfold Bk.errY
                  rw [if_neg (by rw [h1]; simp), if_neg]
                  intro hh
                  rw [Bool.and_eq_false_iff, decide_eq_false_iff_not, decide_eq_false_iff_not] at h2
                  omega
                show (if Pk.fe (Bk.errY f l ys) s ≠ 0 then _ else _) = _
                rw [if_neg (by rw [h0]; simp), e]
          · rintro s ⟨rfl, h0⟩
            simp only [m_often_Check_b0]
            exact M.o_f (by simp) (M.o_pure h0)
        obtain ⟨y, g1, g2⟩ := out
        refine M.i_bind g1 ?_
        cases y with
        | inl s =>
          dsimp only at g2 ⊢
          rw [← g2.2, if_pos g2.1]; exact M.i_pure
        | inr u =>
          dsimp only at g2 ⊢
          rw [g2, if_neg (by simp)]
          refine M.i_bind (every_old ho fun o _ => old_ends hfl.2 hfl.1 o) ?_
          cases os.all (Bk.oB f l) with
          | true => exact M.i_f rfl M.i_pure
          | false => exact M.i_t rfl M.i_pure
theorem ref_check (ys : List Yr) (os : List Old10) (f l : Int) (hy : ys.length <= 1000000) (ho : os.length <= 1000000) : (m_nilometerref10_Check ys os f l).Ends (Bk.chkB ys os f l) := by
  unfold m_nilometerref10_Check Bk.chkB
  have e0 : ((decide (0 <= f) && decide (f <= 3000)) && (decide (0 <= l) && decide (l <= 3000)) && decide (f <= l)) = ((decide (0 <= f) && decide (f <= l)) && (decide (0 <= l) && decide (l <= 3000))) := by
    rw [Bool.eq_iff_iff]; simp only [Bool.and_eq_true, decide_eq_true_eq]; omega
  refine M.i_bind (out_ends _ _ _) (M.i_bind (a := (decide (0 <= f) && decide (f <= 3000)) && !(decide (0 <= l) && decide (l <= 3000))) (M.i_opt (fun h => by rw [Bool.not_not] at h; rw [h]; exact out_ends _ _ _) (fun h => by rw [Bool.not_not] at h; rw [h]; rfl)) ?_)
  have e1 : (((!(decide (0 <= f) && decide (f <= 3000))) || ((decide (0 <= f) && decide (f <= 3000)) && !(decide (0 <= l) && decide (l <= 3000)))) || decide (l < f)) = !((decide (0 <= f) && decide (f <= l)) && (decide (0 <= l) && decide (l <= 3000))) := by
    rw [← e0, show decide (l < f) = !(decide (f <= l)) by rw [← decide_not]; exact decide_eq_decide.2 (by omega)]
    cases (decide (0 <= f) && decide (f <= 3000)) <;> cases (decide (0 <= l) && decide (l <= 3000)) <;> cases (decide (f <= l)) <;> rfl
  rw [e1]
  refine M.i_grd (gI2 fun h => ?_) ?_
  · rw [Bool.not_not, Bool.and_eq_true, Bool.and_eq_true, Bool.and_eq_true, decide_eq_true_eq, decide_eq_true_eq, decide_eq_true_eq, decide_eq_true_eq] at h
    omega
  have e2 : ((!((decide (0 <= f) && decide (f <= l)) && (decide (0 <= l) && decide (l <= 3000)))) || decide (999 < l - f)) = !(Bk.frB f l) := by
    unfold Bk.frB
    rw [Bool.eq_iff_iff]
    simp only [Bool.or_eq_true, Bool.not_eq_true', Bool.and_eq_false_iff, decide_eq_true_eq, decide_eq_false_iff_not]
    omega
  rw [e2]
  refine M.i_if (fun h1 => ?_) (fun h1 => ?_)
  · rw [Bool.not_eq_true'] at h1
    rw [if_pos h1]
    exact M.i_pure
  · rw [Bool.not_eq_false'] at h1
    rw [if_neg (by rw [h1]; simp)]
    by_cases hm : 60 < ys.length ∨ 8 < os.length
    · have e3 : (decide (60 < (ys.length : Int)) || decide (8 < (os.length : Int))) = true := by
        rw [Bool.or_eq_true, decide_eq_true_eq, decide_eq_true_eq]; omega
      rw [if_pos (hm.elim (fun h => .inl h) (fun h => .inr (.inl h)))]
      exact M.i_t e3 M.i_pure
    · have e3 : (decide (60 < (ys.length : Int)) || decide (8 < (os.length : Int))) = false := by
        rw [Bool.or_eq_false_iff, decide_eq_false_iff_not, decide_eq_false_iff_not]; omega
      refine M.i_f e3 ?_
      have out0 : (M.iter (m_nilometerref10_Check_b0 os) 0).Out (fun y => (match y with | .inl (_ : Unit) => os.all Bk.fewO = false | .inr (_ : Unit) => os.all Bk.fewO = true)) := by
        refine M.o_scan os.length (fun k => Bk.fewO (os.getD k default) = true) ?_ ?_
        · intro s hi hp
          simp only [m_nilometerref10_Check_b0]
          have e : os.getD s default = os[s] := by rw [List.getD_eq_getElem?_getD, List.getElem?_eq_getElem hi, Option.getD_some]
          refine M.o_t (decide_eq_true (by omega)) (M.o_grdD (by omega) (M.o_if (fun hb => ?_) (fun hb => ?_)))
          · refine M.o_pure ?_
            rw [List.all_eq_false]
            refine ⟨os[s], List.getElem_mem hi, ?_⟩
            have := of_decide_eq_true hb
            rw [← e]
            unfold Bk.fewO
            rw [decide_eq_true_eq]
            omega
          · have := of_decide_eq_false hb
            exact M.o_pure ⟨rfl, decide_eq_true (by omega)⟩
        · intro hp
          simp only [m_nilometerref10_Check_b0]
          refine M.o_f (by simp) (M.o_pure ?_)
          rw [List.all_eq_true]
          intro x hx
          obtain ⟨i, hi, rfl⟩ := List.getElem_of_mem hx
          have := hp i hi
          rwa [List.getD_eq_getElem?_getD, List.getElem?_eq_getElem hi, Option.getD_some] at this
      obtain ⟨y0, g1, g2⟩ := out0
      refine M.i_bind g1 ?_
      cases y0 with
      | inl u =>
        dsimp only at g2 ⊢
        rw [if_pos (.inr (.inr g2))]
        exact M.i_pure
      | inr u =>
        dsimp only at g2 ⊢
        rw [if_neg (fun h => h.elim (fun h => hm (.inl h)) (fun h => h.elim (fun h => hm (.inr h)) (fun h => by rw [g2] at h; cases h)))]
        have gf : os.all Bk.fewO = true := g2
        have out : (M.iter (m_nilometerref10_Check_b1 ys f l) 0).Out (fun y => (match y with | .inl s => s ≠ 0 /\ s = Pk.fe (Bk.errY f l ys) ys.length | .inr (_ : Unit) => Pk.fe (Bk.errY f l ys) ys.length = 0)) := by
          refine M.o_for ys.length (fun i s => s = i /\ Pk.fe (Bk.errY f l ys) i = 0) ?_ ?_ ⟨rfl, rfl⟩
          · rintro i s hi ⟨rfl, h0⟩
            simp only [m_nilometerref10_Check_b1]
            have e5 : ((((!(decide (f <= (ys.getD s default).year) && decide ((ys.getD s default).year <= l))) || decide ((ys.getD s default).lo < 0)) || decide (2000 < (ys.getD s default).hi)) || decide ((ys.getD s default).hi < (ys.getD s default).lo)) = !(Bk.yrB f l (ys.getD s default)) := by
              unfold Bk.yrB
              rw [Bool.eq_iff_iff]
              simp only [Bool.or_eq_true, Bool.not_eq_true', Bool.and_eq_false_iff, decide_eq_true_eq, decide_eq_false_iff_not]
              omega
            refine M.o_t (decide_eq_true (by omega)) (M.o_grdD (by omega) (M.o_bindE (out_ends _ _ _) ?_))
            rw [e5]
            refine M.o_if (fun h1 => ?_) (fun h1 => ?_)
            · have e : Bk.errY f l ys s = 110 := by unfold Bk.errY; rw [if_pos (by simpa using h1)]
              exact M.o_pure ⟨by decide, by rw [Pk.fe_stop h0 (by rw [e]; decide) hi, e]⟩
            · have h1 : Bk.yrB f l (ys.getD s default) = true := by simpa using h1
              refine M.o_grd (gI2 fun h => by have := of_decide_eq_true h; omega) (M.o_grd (gI2 fun h => by have := of_decide_eq_true h; omega) ?_)
              rw [show Int.toNat ((s : Int) - 1) = s - 1 by omega]
              refine M.o_if (fun h2 => ?_) (fun h2 => ?_)
              · rw [Bool.and_eq_true, decide_eq_true_eq, decide_eq_true_eq] at h2
                have e : Bk.errY f l ys s = 9 := by unfold Bk.errY; rw [if_neg (by rw [h1]; simp), if_pos ⟨by omega, h2.2⟩]
                exact M.o_pure ⟨by decide, by rw [Pk.fe_stop h0 (by rw [e]; decide) hi, e]⟩
              · refine M.o_pure ⟨rfl, ?_⟩
                have e : Bk.errY f l ys s = 0 := by
                  unfold Bk.errY
                  rw [if_neg (by rw [h1]; simp), if_neg]
                  intro hh
                  rw [Bool.and_eq_false_iff, decide_eq_false_iff_not, decide_eq_false_iff_not] at h2
                  omega
                show (if Pk.fe (Bk.errY f l ys) s ≠ 0 then _ else _) = _
                rw [if_neg (by rw [h0]; simp), e]
          · rintro s ⟨rfl, h0⟩
            simp only [m_nilometerref10_Check_b1]
            exact M.o_f (by simp) (M.o_pure h0)
        obtain ⟨y, g1, g2⟩ := out
        refine M.i_bind g1 ?_
        cases y with
        | inl s =>
          dsimp only at g2 ⊢
          rw [← g2.2, if_pos g2.1]; exact M.i_pure
        | inr u =>
          dsimp only at g2 ⊢
          rw [g2, if_neg (by simp)]
          have out2 : (M.iter (m_nilometerref10_Check_b2 os f l) 0).Out (fun y => (match y with | .inl (_ : Unit) => os.all (Bk.oB f l) = false | .inr (_ : Unit) => os.all (Bk.oB f l) = true)) := by
            refine M.o_scan os.length (fun k => Bk.oB f l (os.getD k default) = true) ?_ ?_
            · intro s hi hp
              simp only [m_nilometerref10_Check_b2]
              have e : os.getD s default = os[s] := by rw [List.getD_eq_getElem?_getD, List.getElem?_eq_getElem hi, Option.getD_some]
              generalize ho' : os.getD s default = o at *
              refine M.o_t (decide_eq_true (by omega)) (M.o_grdD (by omega) (M.o_bindE (out_ends _ _ _) ?_))
              have hfo := List.all_eq_true.1 gf os[s] (List.getElem_mem hi)
              rw [← e] at hfo
              have hfo : (o.passed.length : Int) <= 10 := of_decide_eq_true hfo
              have hd := unl_ends o.passed o.src o.dst (by omega)
              have hq : Bk.oB f l o = ((((decide (f <= o.src) && decide (o.src <= l)) && (decide (f <= o.dst) && decide (o.dst <= l))) && (!(decide (o.dst < o.src)))) && (decide (1 <= o.stage) && decide (o.stage <= 2000)) && decide (Bk.Rin o.passed o.src o.dst)) := by
                unfold Bk.oB
                refine congrArg (fun z => z && decide (Bk.Rin o.passed o.src o.dst)) ?_
                rw [Bool.eq_iff_iff]
                simp only [Bool.and_eq_true, Bool.not_eq_true', decide_eq_true_eq, decide_eq_false_iff_not]
                omega
              have b1 := out_ends o.dst f l
              have c1 := out_ends o.stage 1 2000
              generalize (decide (f <= o.src) && decide (o.src <= l)) = A at *
              generalize (decide (f <= o.dst) && decide (o.dst <= l)) = B at *
              generalize (decide (1 <= o.stage) && decide (o.stage <= 2000)) = C at *
              generalize (decide (o.dst < o.src)) = D at *
              generalize (decide (Bk.Rin o.passed o.src o.dst)) = E at *
              refine M.o_bindE (a := A && !B) (M.i_opt (fun h => by rw [Bool.not_not] at h; rw [h]; exact b1) (fun h => by rw [Bool.not_not] at h; rw [h]; rfl)) ?_
              refine M.o_bindE (a := (!((!A || (A && !B)) || D)) && !C) (M.i_opt (fun h => by rw [h]; exact c1) (fun h => by rw [h]; rfl)) ?_
              refine M.o_bindE (a := (!(((!A || (A && !B)) || D) || ((!((!A || (A && !B)) || D)) && !C))) && !E) (M.i_opt (fun h => by rw [h]; exact hd) (fun h => by rw [h]; rfl)) ?_
              have hz : ((((!A || (A && !B)) || D) || ((!((!A || (A && !B)) || D)) && !C)) || ((!(((!A || (A && !B)) || D) || ((!((!A || (A && !B)) || D)) && !C))) && !E)) = !(Bk.oB f l o) := by
                rw [hq]
                cases A <;> cases B <;> cases C <;> cases D <;> cases E <;> rfl
              rw [hz]
              refine M.o_if (fun hb => ?_) (fun hb => ?_)
              · refine M.o_pure ?_
                rw [List.all_eq_false]
                exact ⟨os[s], List.getElem_mem hi, by rw [← e]; simpa using hb⟩
              · exact M.o_pure ⟨rfl, by simpa using hb⟩
            · intro hp
              simp only [m_nilometerref10_Check_b2]
              refine M.o_f (by simp) (M.o_pure ?_)
              rw [List.all_eq_true]
              intro x hx
              obtain ⟨i, hi, rfl⟩ := List.getElem_of_mem hx
              have := hp i hi
              rwa [List.getD_eq_getElem?_getD, List.getElem?_eq_getElem hi, Option.getD_some] at this
          obtain ⟨z, g3, g4⟩ := out2
          refine M.i_bind g3 ?_
          cases z with
          | inl u =>
            dsimp only at g4 ⊢
            rw [if_pos g4]; exact M.i_pure
          | inr u =>
            dsimp only at g4 ⊢
            rw [if_neg (by rw [g4]; simp)]; exact M.i_pure
end Go.Proofs.Ytcgalcbkkijkhaa
