/- Part 4 of the texts on which the proof rests. Conditions: none. -/
import Derived.Test.YtcgalcbkkijkhaaZM3
set_option linter.unusedVariables false
set_option linter.unusedSimpArgs false
set_option linter.unusedSectionVars false
section
set_option maxRecDepth 100000
set_option maxHeartbeats 16000000
namespace Go.Proofs.Ytcgalcbkkijkhaa
open Go Go.Nm
def zan (stage : Int) : (Int × Int) -> (Int × Span) -> M ((Int × Int) ⊕ Unit) := fun (s, s2) (x, x2) =>
  M.bind (zbp) fun (_ : Unit) =>
  M.bind (zbL x2) fun r2 =>
  M.bind (za2 stage r2) fun r3 =>
  bif r3 then (
  M.grd (decide ((-9223372036854775808 : Int) <= (s + 1)) && decide ((s + 1) <= (9223372036854775807 : Int))) <|
  M.bind (zba) fun (_ : Unit) =>
  M.bind (zaX x2) fun r4 =>
  M.bind (za2 stage r4) fun r5 =>
  bif r5 then (
  M.grd (decide ((-9223372036854775808 : Int) <= (s2 + 1)) && decide ((s2 + 1) <= (9223372036854775807 : Int))) <|
  M.pure (.inl (s + 1, s2 + 1)))
  else (
  M.pure (.inl (s + 1, s2))))
  else (
  M.bind (zba) fun (_ : Unit) =>
  M.bind (zaX x2) fun r4 =>
  M.bind (za2 stage r4) fun r5 =>
  bif r5 then (
  M.grd (decide ((-9223372036854775808 : Int) <= (s2 + 1)) && decide ((s2 + 1) <= (9223372036854775807 : Int))) <|
  M.pure (.inl (s, s2 + 1)))
  else (
  M.pure (.inl (s, s2))))
def zae (b_Years : List Yr) (b_Olds : List Old10) (b_First : Int) (b_Last : Int) (from_ : Int) (to_ : Int) (stage : Int) : M (Int × Int × Int) :=
  M.bind (zaL b_Years b_Olds b_First b_Last from_ to_ stage 0 2000) fun x_ => match x_ with
  | (.inl r1) => (
  bif r1 != 0 then (
  M.pure (0, 0, r1))
  else (
  M.fail))
  | (.inr (r02, r03, r04, r12)) => (
  bif r12 != 0 then (
  M.fail)
  else (
  M.bind (zai b_Years b_Olds r02 r03 r04 from_ to_) fun (r00, r10) =>
  M.bind (zak (M.yl (zan stage)) (.inl (0, 0)) r00 r10 b_Years b_Olds r02 r03 r04) fun x_ => match x_ with
  | .inl (s, s2) => (
  M.pure (s, s2, 0))
  | .inr _ => M.fail))
theorem zah {R : List Chunk} {C_b_Years : Cells} {v_b_Years : Value} {C_b_Olds : Cells} {v_b_Olds : Value} (b_Years : List Yr) (b_Olds : List Old10) (b_First : Int) (b_Last : Int) (from_ : Int) (to_ : Int) (stage : Int) (hC_b_Years : Reads R C_b_Years) (hs_b_Years : Sl C_b_Years v_b_Years b_Years) (hC_b_Olds : Reads R C_b_Olds) (hs_b_Olds : Sl C_b_Olds v_b_Olds b_Olds) {r : (Int × Int × Int)} (hM : (zae b_Years b_Olds b_First b_Last from_ to_ stage).Ends r) (w : World) (H : St w w [] R) : Ret Try.prog 15 #[.agg #[v_b_Years, v_b_Olds, I b_First, I b_Last], I from_, I to_, I stage] w fun v w' => ∃ (y0 : Int) (y1 : Int) (y2 : Int), (y0, y1, y2) = r /\ v = .tuple #[.agg #[I y0, I y1], I y2] /\ St w w' [] R := by
 refine ret_of_WD Try.func15 rfl rfl rfl ?_
 replace H : St w w [cMk ([])] R := H.mk0
 have hl_b_Years := hs_b_Years.len_le
 have hl_b_Olds := hs_b_Olds.len_le
 unfold zae at hM
 refine WD.seq ?_
 refine WD.of ?_
 refine W.region rfl ?_
 refine t_box (v := .agg #[v_b_Years, v_b_Olds, I b_First, I b_Last]) (cs := [v_b_Years, v_b_Olds, I b_First, I b_Last]) H rfl rfl ?_
 intro b_1 w1z H
 refine t_alloc (cs := [I 0, I 0]) H Al35 rfl ?_
 intro b_2 w2z H
 refine s_val (x_as (v := I 0) rfl) ?_
 refine s_nil ?_
 refine WD.seq ?_
 refine WD.of ?_
 refine W.region rfl ?_
 refine s_val (x_ld (p := .pointer (some ⟨b_1, 0, none⟩)) (v := .agg #[v_b_Years, v_b_Olds, I b_First, I b_Last]) rfl (ldb_ag (ds := [v_b_Years, v_b_Olds, I b_First, I b_Last]) Ag26 Sz26 (H.blk (k := 1) rfl) rfl rfl)) ?_
 refine s_val (x_mv (v := I from_) rfl) ?_
 refine s_val (x_mv (v := I to_) rfl) ?_
 refine s_val (x_mv (v := I stage) rfl) ?_
 obtain ⟨r4z, hx3z, hM⟩ := M.e_bind hM
 refine s_call cf52 [.agg #[v_b_Years, v_b_Olds, I b_First, I b_Last], I from_, I to_, I stage, I 0, I 2000] rfl (zcb b_Years b_Olds b_First b_Last from_ to_ stage 0 2000 (hC_b_Years.app _) hs_b_Years (hC_b_Olds.app _) hs_b_Olds hx3z _ (St.give (T := [cBlk b_2 [I 0, I 0] 35, cBlk b_1 [v_b_Years, v_b_Olds, I b_First, I b_Last] 26, cMk ([])]) H rfl)) ?_
 rintro vq w5z (⟨r1, hr6z, hvq, H2_⟩ | ⟨r02, r03, r04, r12, nb0_3, nb1_4, hr7z, hvq, H2_⟩)
 ·subst hr6z
  subst vq
  try dsimp only at hM
  replace H : St w w5z [cBlk b_2 [I 0, I 0] 35, cBlk b_1 [v_b_Years, v_b_Olds, I b_First, I b_Last] 26, cMk ([])] R := H.back H2_ rfl
  clear H2_
  refine s_val (x_mv (v := .tuple #[.pointer none, I r1]) rfl) ?_
  refine s_val (x_ext (vs := [.pointer none, I r1]) (v := .pointer none) rfl rfl) ?_
  refine s_val (x_ext (vs := [.pointer none, I r1]) (v := I r1) rfl rfl) ?_
  refine s_val (x_as (v := .pointer none) rfl) ?_
  refine s_val (x_as (v := I r1) rfl) ?_
  refine s_nil ?_
  refine WD.seq ?_
  refine WD.seq ?_
  refine WD.of ?_
  refine W.region rfl ?_
  refine s_val (x_mv (v := I r1) rfl) ?_
  refine s_val (x_cmp (kd := .i64) (a := r1) (b := 0) (r := r1 != 0) rfl rfl rfl) ?_
  refine s_nil ?_
  refine WD.cond (r1 != 0) rfl (fun c8z => ?_) (fun c8z => ?_)
  ·replace hM := M.e_t hM c8z
   simp only [decide_eq_true_eq, decide_eq_false_iff_not, beq_iff_eq, bne_iff_ne, beq_eq_false_iff_ne, bne_eq_false_iff_eq, ne_eq, Decidable.not_not] at c8z
   refine WD.seq ?_
   refine WD.of ?_
   refine W.region rfl ?_
   refine s_val (x_bld (ps := []) (zs := [I 0, I 0]) (L' := [I 0, I 0]) rfl Try.underlying35 Al35 rfl (Bd35 Try.underlying35) (.nil)) ?_
   refine s_val (x_mv (v := I r1) rfl) ?_
   refine t_st (k := 0) (b := b_2) (off := 0) (cs := [I 0, I 0]) (vs := [I 0, I 0]) (cs' := [I 0, I 0]) (v := .agg #[I 0, I 0]) (L' := [cBlk b_2 [I 0, I 0] 35, cBlk b_1 [v_b_Years, v_b_Olds, I b_First, I b_Last] 26, cMk ([])]) H rfl rfl rfl Sz35 rfl rfl rfl rfl rfl rfl ?_
   intro w9z H
   refine s_val (x_as (v := I r1) rfl) ?_
   refine s_nil ?_
   refine WD.of ?_
   refine W.ret ?_
   refine bodyD_r (H.pick [2, 0, 1] (by decide) rfl) ?_
   intro w10z H
   replace H : St w w10z [cBlk b_2 [I 0, I 0] 35, cBlk b_1 [v_b_Years, v_b_Olds, I b_First, I b_Last] 26] R := H
   have hb11z := (H.blk (k := 0) rfl)
   have hr_ := M.e_pure hM
   exact ⟨_, (resE_ofn (vs := [.agg #[I 0, I 0], I r1]) rfl rfl (.cell (v := .agg #[I 0, I 0]) rfl (run_loadVar_ag (ds := [I 0, I 0]) Ag35 Sz35 hb11z rfl rfl) <| .tmp (v := I r1) rfl <| .nil)), ⟨0, 0, r1, hr_, rfl, (H.pick [] (by decide) rfl)⟩⟩
  replace hM := M.e_f hM c8z
  exact (M.e_fail hM).elim
 subst hr7z
 subst vq
 try dsimp only at hM
 replace H : St w w5z [cBlk nb0_3 [v_b_Years, v_b_Olds, I r02, I r03, .map (some nb1_4)] 126, cMl I encSp nb1_4 r04, cBlk b_2 [I 0, I 0] 35, cBlk b_1 [v_b_Years, v_b_Olds, I b_First, I b_Last] 26, cMk ([])] R := H.back H2_ rfl
 clear H2_
 refine s_val (x_mv (v := .tuple #[.pointer (some ⟨nb0_3, 0, none⟩), I r12]) rfl) ?_
 refine s_val (x_ext (vs := [.pointer (some ⟨nb0_3, 0, none⟩), I r12]) (v := .pointer (some ⟨nb0_3, 0, none⟩)) rfl rfl) ?_
 refine s_val (x_ext (vs := [.pointer (some ⟨nb0_3, 0, none⟩), I r12]) (v := I r12) rfl rfl) ?_
 refine s_val (x_as (v := .pointer (some ⟨nb0_3, 0, none⟩)) rfl) ?_
 refine s_val (x_as (v := I r12) rfl) ?_
 refine s_nil ?_
 refine WD.seq ?_
 refine WD.seq ?_
 refine WD.of ?_
 refine W.region rfl ?_
 refine s_val (x_mv (v := I r12) rfl) ?_
 refine s_val (x_cmp (kd := .i64) (a := r12) (b := 0) (r := r12 != 0) rfl rfl rfl) ?_
 refine s_nil ?_
 refine WD.cond (r12 != 0) rfl (fun c12z => ?_) (fun c12z => ?_)
 ·replace hM := M.e_t hM c12z
  exact (M.e_fail hM).elim
 replace hM := M.e_f hM c12z
 simp only [decide_eq_true_eq, decide_eq_false_iff_not, beq_iff_eq, bne_iff_ne, beq_eq_false_iff_ne, bne_eq_false_iff_eq, ne_eq, Decidable.not_not] at c12z
 refine WD.of ?_
 refine W.skip ?_
 refine WD.seq ?_
 refine WD.of ?_
 refine W.region rfl ?_
 refine s_val (x_mv (v := I stage) rfl) ?_
 refine s_val (x_bld (ps := [(0, I stage)]) (zs := [I 0]) (L' := [I stage]) rfl Try.underlying107 Al107 rfl (Bd107 Try.underlying107) (.cons (cs := [I stage]) rfl rfl rfl rfl rfl <| .nil)) ?_
 refine s_val (x_mf (fs := [.agg #[I stage]]) (cs := []) rfl rfl) ?_
 refine t_alloc (cs := [.nilFunc]) H Al105 rfl ?_
 intro b_5 w13z H
 refine t_st (k := 0) (b := b_5) (off := 0) (cs := [.nilFunc]) (vs := [.func (.func 53) #[.agg #[I stage]] #[]]) (cs' := [.func (.func 53) #[.agg #[I stage]] #[]]) (v := .func (.func 53) #[.agg #[I stage]] #[]) (L' := [cBlk b_5 [.func (.func 53) #[.agg #[I stage]] #[]] 105, cBlk nb0_3 [v_b_Years, v_b_Olds, I r02, I r03, .map (some nb1_4)] 126, cMl I encSp nb1_4 r04, cBlk b_2 [I 0, I 0] 35, cBlk b_1 [v_b_Years, v_b_Olds, I b_First, I b_Last] 26, cMk ([])]) H rfl rfl rfl Sz105 rfl rfl rfl rfl rfl rfl ?_
 intro w14z H
 refine s_nil ?_
 refine WD.seq ?_
 refine WD.of ?_
 refine W.region rfl ?_
 refine t_alloc (cs := [I 0, I 0]) H Al35 rfl ?_
 intro b_6 w15z H
 refine s_nil ?_
 refine WD.seq ?_
 refine WD.seq ?_
 refine WD.of ?_
 refine W.region rfl ?_
 refine s_val (x_mv (v := .pointer (some ⟨nb0_3, 0, none⟩)) rfl) ?_
 refine s_val (x_mv (v := I from_) rfl) ?_
 refine s_val (x_mv (v := I to_) rfl) ?_
 obtain ⟨r17z, hx16z, hM⟩ := M.e_bind hM
 refine s_call cf54 [.pointer (some ⟨nb0_3, 0, none⟩), I from_, I to_] rfl (za3 b_Years b_Olds r02 r03 r04 from_ to_ (hC_b_Years.app _) hs_b_Years (hC_b_Olds.app _) hs_b_Olds (Has.here (k := 3) rfl) (Has.here (k := 2) rfl) hx16z _ (St.give (T := [cBlk b_6 [I 0, I 0] 35, cBlk b_5 [.func (.func 53) #[.agg #[I stage]] #[]] 105, cBlk nb0_3 [v_b_Years, v_b_Olds, I r02, I r03, .map (some nb1_4)] 126, cMl I encSp nb1_4 r04, cBlk b_2 [I 0, I 0] 35, cBlk b_1 [v_b_Years, v_b_Olds, I b_First, I b_Last] 26, cMk ([])]) H rfl)) ?_
 rintro vq w18z ⟨r00, r10, nb0_7, nb1_8, nb2_9, hr19z, hvq, H2_⟩
 subst hr19z
 subst vq
 try dsimp only at hM
 replace H : St w w18z [cBlk nb0_7 [I r00] 3, cBlk nb1_8 [I r10] 3, cBlk nb2_9 [.pointer (some ⟨nb0_3, 0, none⟩)] 102, cBlk b_6 [I 0, I 0] 35, cBlk b_5 [.func (.func 53) #[.agg #[I stage]] #[]] 105, cBlk nb0_3 [v_b_Years, v_b_Olds, I r02, I r03, .map (some nb1_4)] 126, cMl I encSp nb1_4 r04, cBlk b_2 [I 0, I 0] 35, cBlk b_1 [v_b_Years, v_b_Olds, I b_First, I b_Last] 26, cMk ([])] R := H.back H2_ rfl
 clear H2_
 refine s_nil ?_
 refine WD.block ?_
 obtain ⟨t20z, hx21z, hM⟩ := M.e_bind hM
 refine WD.range (L := [cBlk b_6 [I 0, I 0] 35, cBlk nb0_7 [I r00] 3, cBlk nb1_8 [I r10] 3, cBlk nb2_9 [.pointer (some ⟨nb0_3, 0, none⟩)] 102, cBlk b_5 [.func (.func 53) #[.agg #[I stage]] #[]] 105, cBlk nb0_3 [v_b_Years, v_b_Olds, I r02, I r03, .map (some nb1_4)] 126, cMl I encSp nb1_4 r04, cBlk b_2 [I 0, I 0] 35, cBlk b_1 [v_b_Years, v_b_Olds, I b_First, I b_Last] 26]) [.pointer (some ⟨nb0_7, 0, none⟩), .pointer (some ⟨nb1_8, 0, none⟩), .pointer (some ⟨nb2_9, 0, none⟩)] (H.pick [9, 3, 0, 1, 2, 4, 5, 6, 7, 8] (by decide) rfl) rfl cf90 ?_
 intro l22z D23z r24z w25z hr26z H
 have hYC : YieldC Try.prog ([cMk (D23z :: ([])), cBlk nb0_7 [I r00] 3, cBlk nb1_8 [I r10] 3, cBlk nb2_9 [.pointer (some ⟨nb0_3, 0, none⟩)] 102, cBlk b_5 [.func (.func 53) #[.agg #[I stage]] #[]] 105, cBlk nb0_3 [v_b_Years, v_b_Olds, I r02, I r03, .map (some nb1_4)] 126, cMl I encSp nb1_4 r04, cBlk b_2 [I 0, I 0] 35, cBlk b_1 [v_b_Years, v_b_Olds, I b_First, I b_Last] 26] ++ R) arISpan (yJ l22z r24z (fun (s, s2) Ls_ => Ls_ = [cBlk b_6 [I s, I s2] 35]) (fun (_ : Unit) _ => False) (fun _ => .ret)) (.func (.yield l22z) #[] #[]) (M.yl (zan stage)) := by
  refine YieldC.mk2 hr26z (fun (s, s2) Ls_ => Ls_ = [cBlk b_6 [I s, I s2] 35]) (fun (_ : Unit) _ => False) (fun _ => .ret) (zan stage) (by rintro ⟨s, s2⟩ _ h_; obtain ⟨rfl⟩ := h_; rfl) (fun _ _ h_ => h_.elim) rfl (arISpan_len rfl) ?_
  intro C_ vs_ x_ hA_
  obtain ⟨x, x2⟩ := x_
  obtain rfl := hA_
  intro w R hR_ Ls_ s_ r hY_ hM H
  obtain ⟨s, s2⟩ := s_
  obtain ⟨rfl⟩ := hY_
  replace H : St w w [cBlk b_6 [I s, I s2] 35, cMk (D23z :: ([])), cBlk nb0_7 [I r00] 3, cBlk nb1_8 [I r10] 3, cBlk nb2_9 [.pointer (some ⟨nb0_3, 0, none⟩)] 102, cBlk b_5 [.func (.func 53) #[.agg #[I stage]] #[]] 105, cBlk nb0_3 [v_b_Years, v_b_Olds, I r02, I r03, .map (some nb1_4)] 126, cMl I encSp nb1_4 r04, cBlk b_2 [I 0, I 0] 35, cBlk b_1 [v_b_Years, v_b_Olds, I b_First, I b_Last] 26] R := H
  refine W.region rfl ?_
  refine t_alloc (cs := [I 0, I 0]) H Al35 rfl ?_
  intro b_10 w27z H
  refine t_st (k := 0) (b := b_10) (off := 0) (cs := [I 0, I 0]) (vs := [I x2.lo, I x2.hi]) (cs' := [I x2.lo, I x2.hi]) (v := .agg #[I x2.lo, I x2.hi]) (L' := [cBlk b_10 [I x2.lo, I x2.hi] 35, cBlk b_6 [I s, I s2] 35, cMk (D23z :: ([])), cBlk nb0_7 [I r00] 3, cBlk nb1_8 [I r10] 3, cBlk nb2_9 [.pointer (some ⟨nb0_3, 0, none⟩)] 102, cBlk b_5 [.func (.func 53) #[.agg #[I stage]] #[]] 105, cBlk nb0_3 [v_b_Years, v_b_Olds, I r02, I r03, .map (some nb1_4)] 126, cMl I encSp nb1_4 r04, cBlk b_2 [I 0, I 0] 35, cBlk b_1 [v_b_Years, v_b_Olds, I b_First, I b_Last] 26]) H rfl rfl rfl Sz35 rfl rfl rfl rfl rfl rfl ?_
  intro w28z H
  refine s_nil ?_
  refine ⟨rfl, [cBlk b_10 [I x2.lo, I x2.hi] 35], H.pick [0, 1, 2, 3, 4, 5, 6, 7, 8, 9, 10] (by decide) rfl, ?_⟩
  clear H hR_
  intro w R hR_ H
  replace hC_b_Years := hC_b_Years.sub hR_
  replace hC_b_Olds := hC_b_Olds.sub hR_
  replace hM : (zan stage (s, s2) (x, x2)).Ends r := hM
  simp only [zan] at hM
  replace H : St w w [cBlk b_10 [I x2.lo, I x2.hi] 35, cBlk b_6 [I s, I s2] 35, cMk (D23z :: ([])), cBlk nb0_7 [I r00] 3, cBlk nb1_8 [I r10] 3, cBlk nb2_9 [.pointer (some ⟨nb0_3, 0, none⟩)] 102, cBlk b_5 [.func (.func 53) #[.agg #[I stage]] #[]] 105, cBlk nb0_3 [v_b_Years, v_b_Olds, I r02, I r03, .map (some nb1_4)] 126, cMl I encSp nb1_4 r04, cBlk b_2 [I 0, I 0] 35, cBlk b_1 [v_b_Years, v_b_Olds, I b_First, I b_Last] 26] R := H
  refine W.block ?_
  refine W.seq ?_
  refine W.seq ?_
  refine W.draw (fun W => St w W [cBlk b_10 [I x2.lo, I x2.hi] 35, cBlk b_6 [I s, I s2] 35, cMk (D23z :: ([])), cBlk nb0_7 [I r00] 3, cBlk nb1_8 [I r10] 3, cBlk nb2_9 [.pointer (some ⟨nb0_3, 0, none⟩)] 102, cBlk b_5 [.func (.func 53) #[.agg #[I stage]] #[]] 105, cBlk nb0_3 [v_b_Years, v_b_Olds, I r02, I r03, .map (some nb1_4)] 126, cMl I encSp nb1_4 r04, cBlk b_2 [I 0, I 0] 35, cBlk b_1 [v_b_Years, v_b_Olds, I b_First, I b_Last] 26] R) [(0, true), (3, true), (1, false), (2, true), (4, false), (5, false)] mixed (by decide +kernel) rfl ?_
  intro w29z hx_
  replace H : St w w29z [cBlk b_10 [I x2.lo, I x2.hi] 35, cBlk b_6 [I s, I s2] 35, cMk (D23z :: ([])), cBlk nb0_7 [I r00] 3, cBlk nb1_8 [I r10] 3, cBlk nb2_9 [.pointer (some ⟨nb0_3, 0, none⟩)] 102, cBlk b_5 [.func (.func 53) #[.agg #[I stage]] #[]] 105, cBlk nb0_3 [v_b_Years, v_b_Olds, I r02, I r03, .map (some nb1_4)] 126, cMl I encSp nb1_4 r04, cBlk b_2 [I 0, I 0] 35, cBlk b_1 [v_b_Years, v_b_Olds, I b_First, I b_Last] 26] R := H.ext hx_
  clear hx_
  refine ⟨(H.pick [0, 1, 2, 3, 4, 5, 6, 7, 8, 9, 10] (by decide) rfl), ?_⟩
  refine d_q rfl (fun w' H => x_ld (p := .pointer (some ⟨b_5, 0, none⟩)) (v := .func (.func 53) #[.agg #[I stage]] #[]) rfl (ldb_sc Sc105 (H.blk (k := 6) rfl) rfl)) ?_
  refine d_q rfl (fun w' H => x_ld (p := .pointer (some ⟨b_10, 0, none⟩)) (v := .agg #[I x2.lo, I x2.hi]) rfl (ldb_ag (ds := [I x2.lo, I x2.hi]) Ag35 Sz35 (H.blk (k := 0) rfl) rfl rfl)) ?_
  refine d_l rfl ?_
  obtain ⟨r31z, hx30z, hM⟩ := M.e_bind hM
  refine s_call cf55 [] rfl (zb7 hx30z _ (St.give (T := [cBlk b_10 [I x2.lo, I x2.hi] 35, cBlk b_6 [I s, I s2] 35, cMk (D23z :: ([])), cBlk nb0_7 [I r00] 3, cBlk nb1_8 [I r10] 3, cBlk nb2_9 [.pointer (some ⟨nb0_3, 0, none⟩)] 102, cBlk b_5 [.func (.func 53) #[.agg #[I stage]] #[]] 105, cBlk nb0_3 [v_b_Years, v_b_Olds, I r02, I r03, .map (some nb1_4)] 126, cMl I encSp nb1_4 r04, cBlk b_2 [I 0, I 0] 35, cBlk b_1 [v_b_Years, v_b_Olds, I b_First, I b_Last] 26]) H rfl)) ?_
  rintro vq w32z ⟨hr33z, hvq, H2_⟩
  subst hr33z
  subst vq
  try dsimp only at hM
  replace H : St w w32z [cBlk b_10 [I x2.lo, I x2.hi] 35, cBlk b_6 [I s, I s2] 35, cMk (D23z :: ([])), cBlk nb0_7 [I r00] 3, cBlk nb1_8 [I r10] 3, cBlk nb2_9 [.pointer (some ⟨nb0_3, 0, none⟩)] 102, cBlk b_5 [.func (.func 53) #[.agg #[I stage]] #[]] 105, cBlk nb0_3 [v_b_Years, v_b_Olds, I r02, I r03, .map (some nb1_4)] 126, cMl I encSp nb1_4 r04, cBlk b_2 [I 0, I 0] 35, cBlk b_1 [v_b_Years, v_b_Olds, I b_First, I b_Last] 26] R := H.back H2_ rfl
  clear H2_
  refine s_nil ⟨(H.pick [0, 1, 2, 3, 4, 5, 6, 7, 8, 9, 10] (by decide) rfl), ?_⟩
  refine d_q rfl (fun w' H => x_fd (cs := [.func (.func 91) #[] #[]]) (v := .func (.func 91) #[] #[]) Fd113_0 Sc111 rfl rfl) ?_
  refine d_l rfl ?_
  obtain ⟨r35z, hx34z, hM⟩ := M.e_bind hM
  refine s_callv (f := 91) rfl cf91 [.agg #[I x2.lo, I x2.hi]] rfl (zbg x2 hx34z _ (St.give (T := [cBlk b_10 [I x2.lo, I x2.hi] 35, cBlk b_6 [I s, I s2] 35, cMk (D23z :: ([])), cBlk nb0_7 [I r00] 3, cBlk nb1_8 [I r10] 3, cBlk nb2_9 [.pointer (some ⟨nb0_3, 0, none⟩)] 102, cBlk b_5 [.func (.func 53) #[.agg #[I stage]] #[]] 105, cBlk nb0_3 [v_b_Years, v_b_Olds, I r02, I r03, .map (some nb1_4)] 126, cMl I encSp nb1_4 r04, cBlk b_2 [I 0, I 0] 35, cBlk b_1 [v_b_Years, v_b_Olds, I b_First, I b_Last] 26]) H rfl)) ?_
  rintro vq w36z ⟨r2, hr37z, hvq, H2_⟩
  subst hr37z
  subst vq
  try dsimp only at hM
  replace H : St w w36z [cBlk b_10 [I x2.lo, I x2.hi] 35, cBlk b_6 [I s, I s2] 35, cMk (D23z :: ([])), cBlk nb0_7 [I r00] 3, cBlk nb1_8 [I r10] 3, cBlk nb2_9 [.pointer (some ⟨nb0_3, 0, none⟩)] 102, cBlk b_5 [.func (.func 53) #[.agg #[I stage]] #[]] 105, cBlk nb0_3 [v_b_Years, v_b_Olds, I r02, I r03, .map (some nb1_4)] 126, cMl I encSp nb1_4 r04, cBlk b_2 [I 0, I 0] 35, cBlk b_1 [v_b_Years, v_b_Olds, I b_First, I b_Last] 26] R := H.back H2_ rfl
  clear H2_
  refine s_nil ⟨(H.pick [0, 1, 2, 3, 4, 5, 6, 7, 8, 9, 10] (by decide) rfl), ?_⟩
  refine d_l rfl ?_
  obtain ⟨r39z, hx38z, hM⟩ := M.e_bind hM
  refine s_callm (f := 53) (fs := [.agg #[I stage]]) rfl cf53 [I r2] rfl (zbM stage r2 hx38z _ (St.give (T := [cBlk b_10 [I x2.lo, I x2.hi] 35, cBlk b_6 [I s, I s2] 35, cMk (D23z :: ([])), cBlk nb0_7 [I r00] 3, cBlk nb1_8 [I r10] 3, cBlk nb2_9 [.pointer (some ⟨nb0_3, 0, none⟩)] 102, cBlk b_5 [.func (.func 53) #[.agg #[I stage]] #[]] 105, cBlk nb0_3 [v_b_Years, v_b_Olds, I r02, I r03, .map (some nb1_4)] 126, cMl I encSp nb1_4 r04, cBlk b_2 [I 0, I 0] 35, cBlk b_1 [v_b_Years, v_b_Olds, I b_First, I b_Last] 26]) H rfl)) ?_
  rintro vq w40z ⟨r3, hr41z, hvq, H2_⟩
  subst hr41z
  subst vq
  try dsimp only at hM
  replace H : St w w40z [cBlk b_10 [I x2.lo, I x2.hi] 35, cBlk b_6 [I s, I s2] 35, cMk (D23z :: ([])), cBlk nb0_7 [I r00] 3, cBlk nb1_8 [I r10] 3, cBlk nb2_9 [.pointer (some ⟨nb0_3, 0, none⟩)] 102, cBlk b_5 [.func (.func 53) #[.agg #[I stage]] #[]] 105, cBlk nb0_3 [v_b_Years, v_b_Olds, I r02, I r03, .map (some nb1_4)] 126, cMl I encSp nb1_4 r04, cBlk b_2 [I 0, I 0] 35, cBlk b_1 [v_b_Years, v_b_Olds, I b_First, I b_Last] 26] R := H.back H2_ rfl
  clear H2_
  refine s_nil ⟨(H.pick [0, 1, 2, 3, 4, 5, 6, 7, 8, 9, 10] (by decide) rfl), ?_⟩
  refine d_nil ?_
  refine W.cond r3 rfl (fun c42z => ?_) (fun c42z => ?_)
  ·replace hM := M.e_t hM c42z
   refine W.region rfl ?_
   refine s_val (x_fa (a := .pointer (some ⟨b_6, 0, none⟩)) (v := .pointer (some ⟨b_6, 0, none⟩)) rfl (fa_blk (o := 0) Fd35_0 Sz3)) ?_
   refine s_val (x_ld (p := .pointer (some ⟨b_6, 0, none⟩)) (v := I s) rfl (ldb_sc Sc3 (H.blk (k := 1) rfl) rfl)) ?_
   obtain ⟨sd43z, hM⟩ := M.e_grd hM
   simp only [Bool.and_eq_true, decide_eq_true_eq] at sd43z
   refine s_val (x_ari (a := s) (b := 1) (r := s + 1) rfl rfl rfl (by omega)) ?_
   refine s_val (x_fa (a := .pointer (some ⟨b_6, 0, none⟩)) (v := .pointer (some ⟨b_6, 0, none⟩)) rfl (fa_blk (o := 0) Fd35_0 Sz3)) ?_
   refine t_st (k := 1) (b := b_6) (off := 0) (cs := [I s, I s2]) (vs := [I (s + 1)]) (cs' := [I (s + 1), I s2]) (v := I (s + 1)) (L' := [cBlk b_10 [I x2.lo, I x2.hi] 35, cBlk b_6 [I (s + 1), I s2] 35, cMk (D23z :: ([])), cBlk nb0_7 [I r00] 3, cBlk nb1_8 [I r10] 3, cBlk nb2_9 [.pointer (some ⟨nb0_3, 0, none⟩)] 102, cBlk b_5 [.func (.func 53) #[.agg #[I stage]] #[]] 105, cBlk nb0_3 [v_b_Years, v_b_Olds, I r02, I r03, .map (some nb1_4)] 126, cMl I encSp nb1_4 r04, cBlk b_2 [I 0, I 0] 35, cBlk b_1 [v_b_Years, v_b_Olds, I b_First, I b_Last] 26]) H rfl rfl rfl Sz3 rfl rfl rfl rfl rfl rfl ?_
   intro w44z H
   refine s_nil ?_
   refine W.seq ?_
   refine W.draw (fun W => St w W [cBlk b_10 [I x2.lo, I x2.hi] 35, cBlk b_6 [I (s + 1), I s2] 35, cMk (D23z :: ([])), cBlk nb0_7 [I r00] 3, cBlk nb1_8 [I r10] 3, cBlk nb2_9 [.pointer (some ⟨nb0_3, 0, none⟩)] 102, cBlk b_5 [.func (.func 53) #[.agg #[I stage]] #[]] 105, cBlk nb0_3 [v_b_Years, v_b_Olds, I r02, I r03, .map (some nb1_4)] 126, cMl I encSp nb1_4 r04, cBlk b_2 [I 0, I 0] 35, cBlk b_1 [v_b_Years, v_b_Olds, I b_First, I b_Last] 26] R) [(0, true), (3, true), (1, false), (2, true), (4, false), (5, false)] mixed (by decide +kernel) rfl ?_
   intro w45z hx_
   replace H : St w w45z [cBlk b_10 [I x2.lo, I x2.hi] 35, cBlk b_6 [I (s + 1), I s2] 35, cMk (D23z :: ([])), cBlk nb0_7 [I r00] 3, cBlk nb1_8 [I r10] 3, cBlk nb2_9 [.pointer (some ⟨nb0_3, 0, none⟩)] 102, cBlk b_5 [.func (.func 53) #[.agg #[I stage]] #[]] 105, cBlk nb0_3 [v_b_Years, v_b_Olds, I r02, I r03, .map (some nb1_4)] 126, cMl I encSp nb1_4 r04, cBlk b_2 [I 0, I 0] 35, cBlk b_1 [v_b_Years, v_b_Olds, I b_First, I b_Last] 26] R := H.ext hx_
   clear hx_
   refine ⟨(H.pick [0, 1, 2, 3, 4, 5, 6, 7, 8, 9, 10] (by decide) rfl), ?_⟩
   refine d_q rfl (fun w' H => x_ld (p := .pointer (some ⟨b_5, 0, none⟩)) (v := .func (.func 53) #[.agg #[I stage]] #[]) rfl (ldb_sc Sc105 (H.blk (k := 6) rfl) rfl)) ?_
   refine d_q rfl (fun w' H => x_ld (p := .pointer (some ⟨b_10, 0, none⟩)) (v := .agg #[I x2.lo, I x2.hi]) rfl (ldb_ag (ds := [I x2.lo, I x2.hi]) Ag35 Sz35 (H.blk (k := 0) rfl) rfl rfl)) ?_
   refine d_l rfl ?_
   obtain ⟨r47z, hx46z, hM⟩ := M.e_bind hM
   refine s_call cf56 [] rfl (zbJ hx46z _ (St.give (T := [cBlk b_10 [I x2.lo, I x2.hi] 35, cBlk b_6 [I (s + 1), I s2] 35, cMk (D23z :: ([])), cBlk nb0_7 [I r00] 3, cBlk nb1_8 [I r10] 3, cBlk nb2_9 [.pointer (some ⟨nb0_3, 0, none⟩)] 102, cBlk b_5 [.func (.func 53) #[.agg #[I stage]] #[]] 105, cBlk nb0_3 [v_b_Years, v_b_Olds, I r02, I r03, .map (some nb1_4)] 126, cMl I encSp nb1_4 r04, cBlk b_2 [I 0, I 0] 35, cBlk b_1 [v_b_Years, v_b_Olds, I b_First, I b_Last] 26]) H rfl)) ?_
   rintro vq w48z ⟨hr49z, hvq, H2_⟩
   subst hr49z
   subst vq
   try dsimp only at hM
   replace H : St w w48z [cBlk b_10 [I x2.lo, I x2.hi] 35, cBlk b_6 [I (s + 1), I s2] 35, cMk (D23z :: ([])), cBlk nb0_7 [I r00] 3, cBlk nb1_8 [I r10] 3, cBlk nb2_9 [.pointer (some ⟨nb0_3, 0, none⟩)] 102, cBlk b_5 [.func (.func 53) #[.agg #[I stage]] #[]] 105, cBlk nb0_3 [v_b_Years, v_b_Olds, I r02, I r03, .map (some nb1_4)] 126, cMl I encSp nb1_4 r04, cBlk b_2 [I 0, I 0] 35, cBlk b_1 [v_b_Years, v_b_Olds, I b_First, I b_Last] 26] R := H.back H2_ rfl
   clear H2_
   refine s_nil ⟨(H.pick [0, 1, 2, 3, 4, 5, 6, 7, 8, 9, 10] (by decide) rfl), ?_⟩
   refine d_q rfl (fun w' H => x_fd (cs := [.func (.func 92) #[] #[]]) (v := .func (.func 92) #[] #[]) Fd113_0 Sc111 rfl rfl) ?_
   refine d_l rfl ?_
   obtain ⟨r51z, hx50z, hM⟩ := M.e_bind hM
   refine s_callv (f := 92) rfl cf92 [.agg #[I x2.lo, I x2.hi]] rfl (za5 x2 hx50z _ (St.give (T := [cBlk b_10 [I x2.lo, I x2.hi] 35, cBlk b_6 [I (s + 1), I s2] 35, cMk (D23z :: ([])), cBlk nb0_7 [I r00] 3, cBlk nb1_8 [I r10] 3, cBlk nb2_9 [.pointer (some ⟨nb0_3, 0, none⟩)] 102, cBlk b_5 [.func (.func 53) #[.agg #[I stage]] #[]] 105, cBlk nb0_3 [v_b_Years, v_b_Olds, I r02, I r03, .map (some nb1_4)] 126, cMl I encSp nb1_4 r04, cBlk b_2 [I 0, I 0] 35, cBlk b_1 [v_b_Years, v_b_Olds, I b_First, I b_Last] 26]) H rfl)) ?_
   rintro vq w52z ⟨r4, hr53z, hvq, H2_⟩
   subst hr53z
   subst vq
   try dsimp only at hM
   replace H : St w w52z [cBlk b_10 [I x2.lo, I x2.hi] 35, cBlk b_6 [I (s + 1), I s2] 35, cMk (D23z :: ([])), cBlk nb0_7 [I r00] 3, cBlk nb1_8 [I r10] 3, cBlk nb2_9 [.pointer (some ⟨nb0_3, 0, none⟩)] 102, cBlk b_5 [.func (.func 53) #[.agg #[I stage]] #[]] 105, cBlk nb0_3 [v_b_Years, v_b_Olds, I r02, I r03, .map (some nb1_4)] 126, cMl I encSp nb1_4 r04, cBlk b_2 [I 0, I 0] 35, cBlk b_1 [v_b_Years, v_b_Olds, I b_First, I b_Last] 26] R := H.back H2_ rfl
   clear H2_
   refine s_nil ⟨(H.pick [0, 1, 2, 3, 4, 5, 6, 7, 8, 9, 10] (by decide) rfl), ?_⟩
   refine d_l rfl ?_
   obtain ⟨r55z, hx54z, hM⟩ := M.e_bind hM
   refine s_callm (f := 53) (fs := [.agg #[I stage]]) rfl cf53 [I r4] rfl (zbM stage r4 hx54z _ (St.give (T := [cBlk b_10 [I x2.lo, I x2.hi] 35, cBlk b_6 [I (s + 1), I s2] 35, cMk (D23z :: ([])), cBlk nb0_7 [I r00] 3, cBlk nb1_8 [I r10] 3, cBlk nb2_9 [.pointer (some ⟨nb0_3, 0, none⟩)] 102, cBlk b_5 [.func (.func 53) #[.agg #[I stage]] #[]] 105, cBlk nb0_3 [v_b_Years, v_b_Olds, I r02, I r03, .map (some nb1_4)] 126, cMl I encSp nb1_4 r04, cBlk b_2 [I 0, I 0] 35, cBlk b_1 [v_b_Years, v_b_Olds, I b_First, I b_Last] 26]) H rfl)) ?_
   rintro vq w56z ⟨r5, hr57z, hvq, H2_⟩
   subst hr57z
   subst vq
   try dsimp only at hM
   replace H : St w w56z [cBlk b_10 [I x2.lo, I x2.hi] 35, cBlk b_6 [I (s + 1), I s2] 35, cMk (D23z :: ([])), cBlk nb0_7 [I r00] 3, cBlk nb1_8 [I r10] 3, cBlk nb2_9 [.pointer (some ⟨nb0_3, 0, none⟩)] 102, cBlk b_5 [.func (.func 53) #[.agg #[I stage]] #[]] 105, cBlk nb0_3 [v_b_Years, v_b_Olds, I r02, I r03, .map (some nb1_4)] 126, cMl I encSp nb1_4 r04, cBlk b_2 [I 0, I 0] 35, cBlk b_1 [v_b_Years, v_b_Olds, I b_First, I b_Last] 26] R := H.back H2_ rfl
   clear H2_
   refine s_nil ⟨(H.pick [0, 1, 2, 3, 4, 5, 6, 7, 8, 9, 10] (by decide) rfl), ?_⟩
   refine d_nil ?_
   refine W.cond r5 rfl (fun c58z => ?_) (fun c58z => ?_)
   ·replace hM := M.e_t hM c58z
    refine W.region rfl ?_
    refine s_val (x_fa (a := .pointer (some ⟨b_6, 0, none⟩)) (v := .pointer (some ⟨b_6, 1, none⟩)) rfl (fa_blk (o := 0) Fd35_1 Sz3)) ?_
    refine s_val (x_ld (p := .pointer (some ⟨b_6, 1, none⟩)) (v := I s2) rfl (ldb_sc Sc3 (H.blk (k := 1) rfl) rfl)) ?_
    obtain ⟨sd59z, hM⟩ := M.e_grd hM
    simp only [Bool.and_eq_true, decide_eq_true_eq] at sd59z
    refine s_val (x_ari (a := s2) (b := 1) (r := s2 + 1) rfl rfl rfl (by omega)) ?_
    refine s_val (x_fa (a := .pointer (some ⟨b_6, 0, none⟩)) (v := .pointer (some ⟨b_6, 1, none⟩)) rfl (fa_blk (o := 0) Fd35_1 Sz3)) ?_
    refine t_st (k := 1) (b := b_6) (off := 1) (cs := [I (s + 1), I s2]) (vs := [I (s2 + 1)]) (cs' := [I (s + 1), I (s2 + 1)]) (v := I (s2 + 1)) (L' := [cBlk b_10 [I x2.lo, I x2.hi] 35, cBlk b_6 [I (s + 1), I (s2 + 1)] 35, cMk (D23z :: ([])), cBlk nb0_7 [I r00] 3, cBlk nb1_8 [I r10] 3, cBlk nb2_9 [.pointer (some ⟨nb0_3, 0, none⟩)] 102, cBlk b_5 [.func (.func 53) #[.agg #[I stage]] #[]] 105, cBlk nb0_3 [v_b_Years, v_b_Olds, I r02, I r03, .map (some nb1_4)] 126, cMl I encSp nb1_4 r04, cBlk b_2 [I 0, I 0] 35, cBlk b_1 [v_b_Years, v_b_Olds, I b_First, I b_Last] 26]) H rfl rfl rfl Sz3 rfl rfl rfl rfl rfl rfl ?_
    intro w60z H
    refine s_nil ?_
    exact ⟨(s + 1, s2 + 1), [cBlk b_6 [I (s + 1), I (s2 + 1)] 35], (M.e_pure hM).symm, rfl, H.pick [1, 2, 3, 4, 5, 6, 7, 8, 9, 10] (by decide) rfl⟩
   replace hM := M.e_f hM c58z
   refine W.skip ?_
   exact ⟨(s + 1, s2), [cBlk b_6 [I (s + 1), I s2] 35], (M.e_pure hM).symm, rfl, H.pick [1, 2, 3, 4, 5, 6, 7, 8, 9, 10] (by decide) rfl⟩
  replace hM := M.e_f hM c42z
  refine W.skip ?_
  refine W.seq ?_
  refine W.draw (fun W => St w W [cBlk b_10 [I x2.lo, I x2.hi] 35, cBlk b_6 [I s, I s2] 35, cMk (D23z :: ([])), cBlk nb0_7 [I r00] 3, cBlk nb1_8 [I r10] 3, cBlk nb2_9 [.pointer (some ⟨nb0_3, 0, none⟩)] 102, cBlk b_5 [.func (.func 53) #[.agg #[I stage]] #[]] 105, cBlk nb0_3 [v_b_Years, v_b_Olds, I r02, I r03, .map (some nb1_4)] 126, cMl I encSp nb1_4 r04, cBlk b_2 [I 0, I 0] 35, cBlk b_1 [v_b_Years, v_b_Olds, I b_First, I b_Last] 26] R) [(0, true), (3, true), (1, false), (2, true), (4, false), (5, false)] mixed (by decide +kernel) rfl ?_
  intro w61z hx_
  replace H : St w w61z [cBlk b_10 [I x2.lo, I x2.hi] 35, cBlk b_6 [I s, I s2] 35, cMk (D23z :: ([])), cBlk nb0_7 [I r00] 3, cBlk nb1_8 [I r10] 3, cBlk nb2_9 [.pointer (some ⟨nb0_3, 0, none⟩)] 102, cBlk b_5 [.func (.func 53) #[.agg #[I stage]] #[]] 105, cBlk nb0_3 [v_b_Years, v_b_Olds, I r02, I r03, .map (some nb1_4)] 126, cMl I encSp nb1_4 r04, cBlk b_2 [I 0, I 0] 35, cBlk b_1 [v_b_Years, v_b_Olds, I b_First, I b_Last] 26] R := H.ext hx_
  clear hx_
  refine ⟨(H.pick [0, 1, 2, 3, 4, 5, 6, 7, 8, 9, 10] (by decide) rfl), ?_⟩
  refine d_q rfl (fun w' H => x_ld (p := .pointer (some ⟨b_5, 0, none⟩)) (v := .func (.func 53) #[.agg #[I stage]] #[]) rfl (ldb_sc Sc105 (H.blk (k := 6) rfl) rfl)) ?_
  refine d_q rfl (fun w' H => x_ld (p := .pointer (some ⟨b_10, 0, none⟩)) (v := .agg #[I x2.lo, I x2.hi]) rfl (ldb_ag (ds := [I x2.lo, I x2.hi]) Ag35 Sz35 (H.blk (k := 0) rfl) rfl rfl)) ?_
  refine d_l rfl ?_
  obtain ⟨r63z, hx62z, hM⟩ := M.e_bind hM
  refine s_call cf56 [] rfl (zbJ hx62z _ (St.give (T := [cBlk b_10 [I x2.lo, I x2.hi] 35, cBlk b_6 [I s, I s2] 35, cMk (D23z :: ([])), cBlk nb0_7 [I r00] 3, cBlk nb1_8 [I r10] 3, cBlk nb2_9 [.pointer (some ⟨nb0_3, 0, none⟩)] 102, cBlk b_5 [.func (.func 53) #[.agg #[I stage]] #[]] 105, cBlk nb0_3 [v_b_Years, v_b_Olds, I r02, I r03, .map (some nb1_4)] 126, cMl I encSp nb1_4 r04, cBlk b_2 [I 0, I 0] 35, cBlk b_1 [v_b_Years, v_b_Olds, I b_First, I b_Last] 26]) H rfl)) ?_
  rintro vq w64z ⟨hr65z, hvq, H2_⟩
  subst hr65z
  subst vq
  try dsimp only at hM
  replace H : St w w64z [cBlk b_10 [I x2.lo, I x2.hi] 35, cBlk b_6 [I s, I s2] 35, cMk (D23z :: ([])), cBlk nb0_7 [I r00] 3, cBlk nb1_8 [I r10] 3, cBlk nb2_9 [.pointer (some ⟨nb0_3, 0, none⟩)] 102, cBlk b_5 [.func (.func 53) #[.agg #[I stage]] #[]] 105, cBlk nb0_3 [v_b_Years, v_b_Olds, I r02, I r03, .map (some nb1_4)] 126, cMl I encSp nb1_4 r04, cBlk b_2 [I 0, I 0] 35, cBlk b_1 [v_b_Years, v_b_Olds, I b_First, I b_Last] 26] R := H.back H2_ rfl
  clear H2_
  refine s_nil ⟨(H.pick [0, 1, 2, 3, 4, 5, 6, 7, 8, 9, 10] (by decide) rfl), ?_⟩
  refine d_q rfl (fun w' H => x_fd (cs := [.func (.func 92) #[] #[]]) (v := .func (.func 92) #[] #[]) Fd113_0 Sc111 rfl rfl) ?_
  refine d_l rfl ?_
  obtain ⟨r67z, hx66z, hM⟩ := M.e_bind hM
  refine s_callv (f := 92) rfl cf92 [.agg #[I x2.lo, I x2.hi]] rfl (za5 x2 hx66z _ (St.give (T := [cBlk b_10 [I x2.lo, I x2.hi] 35, cBlk b_6 [I s, I s2] 35, cMk (D23z :: ([])), cBlk nb0_7 [I r00] 3, cBlk nb1_8 [I r10] 3, cBlk nb2_9 [.pointer (some ⟨nb0_3, 0, none⟩)] 102, cBlk b_5 [.func (.func 53) #[.agg #[I stage]] #[]] 105, cBlk nb0_3 [v_b_Years, v_b_Olds, I r02, I r03, .map (some nb1_4)] 126, cMl I encSp nb1_4 r04, cBlk b_2 [I 0, I 0] 35, cBlk b_1 [v_b_Years, v_b_Olds, I b_First, I b_Last] 26]) H rfl)) ?_
  rintro vq w68z ⟨r4, hr69z, hvq, H2_⟩
  subst hr69z
  subst vq
  try dsimp only at hM
  replace H : St w w68z [cBlk b_10 [I x2.lo, I x2.hi] 35, cBlk b_6 [I s, I s2] 35, cMk (D23z :: ([])), cBlk nb0_7 [I r00] 3, cBlk nb1_8 [I r10] 3, cBlk nb2_9 [.pointer (some ⟨nb0_3, 0, none⟩)] 102, cBlk b_5 [.func (.func 53) #[.agg #[I stage]] #[]] 105, cBlk nb0_3 [v_b_Years, v_b_Olds, I r02, I r03, .map (some nb1_4)] 126, cMl I encSp nb1_4 r04, cBlk b_2 [I 0, I 0] 35, cBlk b_1 [v_b_Years, v_b_Olds, I b_First, I b_Last] 26] R := H.back H2_ rfl
  clear H2_
  refine s_nil ⟨(H.pick [0, 1, 2, 3, 4, 5, 6, 7, 8, 9, 10] (by decide) rfl), ?_⟩
  refine d_l rfl ?_
  obtain ⟨r71z, hx70z, hM⟩ := M.e_bind hM
  refine s_callm (f := 53) (fs := [.agg #[I stage]]) rfl cf53 [I r4] rfl (zbM stage r4 hx70z _ (St.give (T := [cBlk b_10 [I x2.lo, I x2.hi] 35, cBlk b_6 [I s, I s2] 35, cMk (D23z :: ([])), cBlk nb0_7 [I r00] 3, cBlk nb1_8 [I r10] 3, cBlk nb2_9 [.pointer (some ⟨nb0_3, 0, none⟩)] 102, cBlk b_5 [.func (.func 53) #[.agg #[I stage]] #[]] 105, cBlk nb0_3 [v_b_Years, v_b_Olds, I r02, I r03, .map (some nb1_4)] 126, cMl I encSp nb1_4 r04, cBlk b_2 [I 0, I 0] 35, cBlk b_1 [v_b_Years, v_b_Olds, I b_First, I b_Last] 26]) H rfl)) ?_
  rintro vq w72z ⟨r5, hr73z, hvq, H2_⟩
  subst hr73z
  subst vq
  try dsimp only at hM
  replace H : St w w72z [cBlk b_10 [I x2.lo, I x2.hi] 35, cBlk b_6 [I s, I s2] 35, cMk (D23z :: ([])), cBlk nb0_7 [I r00] 3, cBlk nb1_8 [I r10] 3, cBlk nb2_9 [.pointer (some ⟨nb0_3, 0, none⟩)] 102, cBlk b_5 [.func (.func 53) #[.agg #[I stage]] #[]] 105, cBlk nb0_3 [v_b_Years, v_b_Olds, I r02, I r03, .map (some nb1_4)] 126, cMl I encSp nb1_4 r04, cBlk b_2 [I 0, I 0] 35, cBlk b_1 [v_b_Years, v_b_Olds, I b_First, I b_Last] 26] R := H.back H2_ rfl
  clear H2_
  refine s_nil ⟨(H.pick [0, 1, 2, 3, 4, 5, 6, 7, 8, 9, 10] (by decide) rfl), ?_⟩
  refine d_nil ?_
  refine W.cond r5 rfl (fun c74z => ?_) (fun c74z => ?_)
  ·replace hM := M.e_t hM c74z
   refine W.region rfl ?_
   refine s_val (x_fa (a := .pointer (some ⟨b_6, 0, none⟩)) (v := .pointer (some ⟨b_6, 1, none⟩)) rfl (fa_blk (o := 0) Fd35_1 Sz3)) ?_
   refine s_val (x_ld (p := .pointer (some ⟨b_6, 1, none⟩)) (v := I s2) rfl (ldb_sc Sc3 (H.blk (k := 1) rfl) rfl)) ?_
   obtain ⟨sd75z, hM⟩ := M.e_grd hM
   simp only [Bool.and_eq_true, decide_eq_true_eq] at sd75z
   refine s_val (x_ari (a := s2) (b := 1) (r := s2 + 1) rfl rfl rfl (by omega)) ?_
   refine s_val (x_fa (a := .pointer (some ⟨b_6, 0, none⟩)) (v := .pointer (some ⟨b_6, 1, none⟩)) rfl (fa_blk (o := 0) Fd35_1 Sz3)) ?_
   refine t_st (k := 1) (b := b_6) (off := 1) (cs := [I s, I s2]) (vs := [I (s2 + 1)]) (cs' := [I s, I (s2 + 1)]) (v := I (s2 + 1)) (L' := [cBlk b_10 [I x2.lo, I x2.hi] 35, cBlk b_6 [I s, I (s2 + 1)] 35, cMk (D23z :: ([])), cBlk nb0_7 [I r00] 3, cBlk nb1_8 [I r10] 3, cBlk nb2_9 [.pointer (some ⟨nb0_3, 0, none⟩)] 102, cBlk b_5 [.func (.func 53) #[.agg #[I stage]] #[]] 105, cBlk nb0_3 [v_b_Years, v_b_Olds, I r02, I r03, .map (some nb1_4)] 126, cMl I encSp nb1_4 r04, cBlk b_2 [I 0, I 0] 35, cBlk b_1 [v_b_Years, v_b_Olds, I b_First, I b_Last] 26]) H rfl rfl rfl Sz3 rfl rfl rfl rfl rfl rfl ?_
   intro w76z H
   refine s_nil ?_
   exact ⟨(s, s2 + 1), [cBlk b_6 [I s, I (s2 + 1)] 35], (M.e_pure hM).symm, rfl, H.pick [1, 2, 3, 4, 5, 6, 7, 8, 9, 10] (by decide) rfl⟩
  replace hM := M.e_f hM c74z
  refine W.skip ?_
  exact ⟨(s, s2), [cBlk b_6 [I s, I s2] 35], (M.e_pure hM).symm, rfl, H.pick [1, 2, 3, 4, 5, 6, 7, 8, 9, 10] (by decide) rfl⟩
 replace H : St w w25z (cAll (cObj l22z (.loop r24z) :: [cBlk b_6 [I 0, I 0] 35]) :: [cMk (D23z :: ([])), cBlk nb0_7 [I r00] 3, cBlk nb1_8 [I r10] 3, cBlk nb2_9 [.pointer (some ⟨nb0_3, 0, none⟩)] 102, cBlk b_5 [.func (.func 53) #[.agg #[I stage]] #[]] 105, cBlk nb0_3 [v_b_Years, v_b_Olds, I r02, I r03, .map (some nb1_4)] 126, cMl I encSp nb1_4 r04, cBlk b_2 [I 0, I 0] 35, cBlk b_1 [v_b_Years, v_b_Olds, I b_First, I b_Last] 26]) R := St.bundleB (A := cObj l22z (.loop r24z) :: [cBlk b_6 [I 0, I 0] 35]) (T := [cMk (D23z :: ([])), cBlk nb0_7 [I r00] 3, cBlk nb1_8 [I r10] 3, cBlk nb2_9 [.pointer (some ⟨nb0_3, 0, none⟩)] 102, cBlk b_5 [.func (.func 53) #[.agg #[I stage]] #[]] 105, cBlk nb0_3 [v_b_Years, v_b_Olds, I r02, I r03, .map (some nb1_4)] 126, cMl I encSp nb1_4 r04, cBlk b_2 [I 0, I 0] 35, cBlk b_1 [v_b_Years, v_b_Olds, I b_First, I b_Last] 26]) rfl (H.pick [0, 2, 1, 3, 4, 5, 6, 7, 8, 9, 10] (by decide) rfl)
 refine (zaS (M.yl (zan stage)) (.inl (0, 0)) r00 r10 b_Years b_Olds r02 r03 r04 hYC ⟨_, rfl, rfl⟩ (Has.here (k := 1) rfl) (Has.here (k := 2) rfl) (hC_b_Years.app _) hs_b_Years (hC_b_Olds.app _) hs_b_Olds (Has.here (k := 6) rfl) (Has.here (k := 5) rfl) (Has.here (k := 3) rfl) hx21z _ (St.give (A := [cAll (cObj l22z (.loop r24z) :: [cBlk b_6 [I 0, I 0] 35])]) (T := [cMk (D23z :: ([])), cBlk nb0_7 [I r00] 3, cBlk nb1_8 [I r10] 3, cBlk nb2_9 [.pointer (some ⟨nb0_3, 0, none⟩)] 102, cBlk b_5 [.func (.func 53) #[.agg #[I stage]] #[]] 105, cBlk nb0_3 [v_b_Years, v_b_Olds, I r02, I r03, .map (some nb1_4)] 126, cMl I encSp nb1_4 r04, cBlk b_2 [I 0, I 0] 35, cBlk b_1 [v_b_Years, v_b_Olds, I b_First, I b_Last] 26]) H rfl)).mono ?_
 rintro vq w77z ⟨t81z, Ls79z, hq82z, hvq, H2_, hY80z⟩
 subst hq82z
 replace H := H.back H2_ rfl
 clear H2_ hYC
 rcases t81z with ⟨s, s2⟩ | _
 ·try dsimp only at hM
  obtain ⟨_, rfl, rfl⟩ := hY80z
  refine ⟨_, [cBlk b_6 [I s, I s2] 35, cBlk nb0_7 [I r00] 3, cBlk nb1_8 [I r10] 3, cBlk nb2_9 [.pointer (some ⟨nb0_3, 0, none⟩)] 102, cBlk b_5 [.func (.func 53) #[.agg #[I stage]] #[]] 105, cBlk nb0_3 [v_b_Years, v_b_Olds, I r02, I r03, .map (some nb1_4)] 126, cMl I encSp nb1_4 r04, cBlk b_2 [I 0, I 0] 35, cBlk b_1 [v_b_Years, v_b_Olds, I b_First, I b_Last] 26], H.unbundle.pick [0, 2, 1, 3, 4, 5, 6, 7, 8, 9, 10] (by decide) rfl, hr26z.nb, ?_⟩
  intro w78z H
  rw [hr26z.pd]
  replace H : St w w78z [cMk (D23z :: ([])), cBlk b_6 [I s, I s2] 35, cBlk nb0_7 [I r00] 3, cBlk nb1_8 [I r10] 3, cBlk nb2_9 [.pointer (some ⟨nb0_3, 0, none⟩)] 102, cBlk b_5 [.func (.func 53) #[.agg #[I stage]] #[]] 105, cBlk nb0_3 [v_b_Years, v_b_Olds, I r02, I r03, .map (some nb1_4)] 126, cMl I encSp nb1_4 r04, cBlk b_2 [I 0, I 0] 35, cBlk b_1 [v_b_Years, v_b_Olds, I b_First, I b_Last] 26] R := H
  try simp only []
  refine WD.seq ?_
  refine WD.of ?_
  refine W.region rfl ?_
  refine s_val (x_ld (p := .pointer (some ⟨b_6, 0, none⟩)) (v := .agg #[I s, I s2]) rfl (ldb_ag (ds := [I s, I s2]) Ag35 Sz35 (H.blk (k := 1) rfl) rfl rfl)) ?_
  refine t_st (k := 8) (b := b_2) (off := 0) (cs := [I 0, I 0]) (vs := [I s, I s2]) (cs' := [I s, I s2]) (v := .agg #[I s, I s2]) (L' := [cMk (D23z :: ([])), cBlk b_6 [I s, I s2] 35, cBlk nb0_7 [I r00] 3, cBlk nb1_8 [I r10] 3, cBlk nb2_9 [.pointer (some ⟨nb0_3, 0, none⟩)] 102, cBlk b_5 [.func (.func 53) #[.agg #[I stage]] #[]] 105, cBlk nb0_3 [v_b_Years, v_b_Olds, I r02, I r03, .map (some nb1_4)] 126, cMl I encSp nb1_4 r04, cBlk b_2 [I s, I s2] 35, cBlk b_1 [v_b_Years, v_b_Olds, I b_First, I b_Last] 26]) H rfl rfl rfl Sz35 rfl rfl rfl rfl rfl rfl ?_
  intro w83z H
  refine s_val (x_as (v := I 0) rfl) ?_
  refine s_nil ?_
  refine WD.of ?_
  refine W.ret ?_
  refine bodyD_r (H.pick [0, 1, 2, 3, 4, 5, 6, 7, 8, 9] (by decide) rfl) ?_
  intro w84z H
  replace H : St w w84z [cBlk b_6 [I s, I s2] 35, cBlk nb0_7 [I r00] 3, cBlk nb1_8 [I r10] 3, cBlk nb2_9 [.pointer (some ⟨nb0_3, 0, none⟩)] 102, cBlk b_5 [.func (.func 53) #[.agg #[I stage]] #[]] 105, cBlk nb0_3 [v_b_Years, v_b_Olds, I r02, I r03, .map (some nb1_4)] 126, cMl I encSp nb1_4 r04, cBlk b_2 [I s, I s2] 35, cBlk b_1 [v_b_Years, v_b_Olds, I b_First, I b_Last] 26] R := H
  have hb85z := (H.blk (k := 7) rfl)
  have hr_ := M.e_pure hM
  exact ⟨_, (resE_ofn (vs := [.agg #[I s, I s2], I 0]) rfl rfl (.cell (v := .agg #[I s, I s2]) rfl (run_loadVar_ag (ds := [I s, I s2]) Ag35 Sz35 hb85z rfl rfl) <| .tmp (v := I 0) rfl <| .nil)), ⟨s, s2, 0, hr_, rfl, (H.pick [] (by decide) rfl)⟩⟩
 obtain ⟨_, _, h_⟩ := hY80z; exact h_.elim

def zbK : (Int × Int) -> M ((Int × Int) ⊕ Int) := fun (a, b) =>
  bif b != 0 then (
  M.grd (decide ((0 : Int) <= a) && decide ((0 : Int) < b)) <|
  M.pure (.inl (b, a % b)))
  else (
  M.pure (.inr a))
def zbB (n : Int) (of_ : Int) : M (Int × Int) :=
  M.bind (M.iter (zbK) (n, of_)) fun a2 =>
  M.grd (decide (0 <= n) && decide (n <= (9223372036854775807 : Int)) && decide ((0 : Int) < a2)) <|
  M.grd (decide (0 <= of_) && decide (of_ <= (9223372036854775807 : Int)) && decide ((0 : Int) < a2)) <|
  M.pure ((n / a2), (of_ / a2))
theorem zbS {R : List Chunk}  (n : Int) (of_ : Int)  {r : (Int × Int)} (hM : (zbB n of_).Ends r) (w : World) (H : St w w [] R) : Ret Try.prog 69 #[I n, I of_] w fun v w' => ∃ (y0 : Int) (y1 : Int), (y0, y1) = r /\ v = .agg #[I y0, I y1] /\ St w w' [] R := by
 refine ret_of_W Try.func69 rfl rfl rfl ?_
 refine W.seq ?_
 refine W.region rfl ?_
 refine t_alloc (cs := [I 0, I 0]) H Al63 rfl ?_
 intro b_1 w1z H
 refine s_nil ?_
 refine W.seq ?_
 refine W.region rfl ?_
 refine s_val (x_mv (v := I n) rfl) ?_
 refine s_val (x_mv (v := I of_) rfl) ?_
 refine s_val (x_as (v := I n) rfl) ?_
 refine s_val (x_as (v := I of_) rfl) ?_
 refine s_nil ?_
 refine W.seq ?_
 refine W.block ?_
 obtain ⟨ex2z, hi3z, hk4z⟩ := M.e_bind hM
 obtain ⟨m0_, hi3z⟩ := M.e_iter hi3z
 refine W.loop (fun m σ W => ∃ (a : Int) (b : Int) (ρ : Env), σ = upds ρ [(0, I n), (1, I of_), (4, .pointer (some ⟨b_1, 0, none⟩)), (5, I a), (6, I b)] /\ M.iterN (zbK) m (a, b) = some ex2z /\ St w W [cBlk b_1 [I 0, I 0] 63] R) ?_ ?_
 ·exact ⟨_, n, of_, _, upds_of _ _ ⟨rfl, rfl, rfl, rfl, rfl, trivial⟩, hi3z, H⟩
 rintro m7z σ w5z ⟨a, b, ρ, rfl, hI6z, H⟩
 obtain ⟨m8z, lt9z, x10z, hM, hN11z⟩ := M.e_iterN hI6z
 simp only [zbK] at hM
 clear hI6z
 refine W.seq ?_
 refine W.seq ?_
 refine W.region rfl ?_
 refine s_val (x_mv (v := I b) rfl) ?_
 refine s_val (x_cmp (kd := .i64) (a := b) (b := 0) (r := b != 0) rfl rfl rfl) ?_
 refine s_nil ?_
 refine W.cond (b != 0) rfl (fun c12z => ?_) (fun c12z => ?_)
 ·replace hM := M.e_t hM c12z
  simp only [decide_eq_true_eq, decide_eq_false_iff_not, beq_iff_eq, bne_iff_ne, beq_eq_false_iff_ne, bne_eq_false_iff_eq, ne_eq, Decidable.not_not] at c12z
  refine W.skip ?_
  refine W.block ?_
  refine W.draw (fun W => St w W [cBlk b_1 [I 0, I 0] 63] R) [(0, true), (1, true), (2, true), (3, true), (4, true), (5, true)] mixed (by decide +kernel) rfl ?_
  intro w13z hx_
  replace H : St w w13z [cBlk b_1 [I 0, I 0] 63] R := H.ext hx_
  clear hx_
  refine ⟨(H.pick [0] (by decide) rfl), ?_⟩
  refine d_q rfl (fun w' H => x_mv (v := I b) rfl) ?_
  refine d_q rfl (fun w' H => x_mv (v := I a) rfl) ?_
  refine d_q rfl (fun w' H => x_mv (v := I b) rfl) ?_
  obtain ⟨sd14z, hM⟩ := M.e_grd hM
  simp only [Bool.and_eq_true, decide_eq_true_eq] at sd14z
  refine d_q rfl (fun w' H => x_rem' (a := a) (b := b) rfl rfl (by omega)) ?_
  refine d_q rfl (fun w' H => x_as (v := I b) rfl) ?_
  refine d_q rfl (fun w' H => x_as (v := I (a % b)) rfl) ?_
  refine d_nil ?_
  exact ⟨m8z, lt9z, b, a % b, _, upds_of _ _ ⟨rfl, rfl, rfl, rfl, rfl, trivial⟩, M.e_inl hM hN11z, H⟩
 replace hM := M.e_f hM c12z
 simp only [decide_eq_true_eq, decide_eq_false_iff_not, beq_iff_eq, bne_iff_ne, beq_eq_false_iff_ne, bne_eq_false_iff_eq, ne_eq, Decidable.not_not] at c12z
 refine W.exit ?_
 have hX15z := M.e_inr hM hN11z
 subst hX15z
 replace hM := hk4z
 try dsimp only at hM
 refine W.seq ?_
 refine W.draw (fun W => St w W [] R) [(0, true), (1, true), (2, true), (3, true), (4, true), (5, true), (6, true), (7, false)] mixed (by decide +kernel) rfl ?_
 intro w16z hx_
 replace H : St w w16z [cBlk b_1 [I 0, I 0] 63] R := H.ext hx_
 clear hx_
 refine ⟨(H.pick [] (by decide) rfl), ?_⟩
 refine d_q rfl (fun w' H => x_mv (v := I n) rfl) ?_
 refine d_q rfl (fun w' H => x_mv (v := I a) rfl) ?_
 obtain ⟨sd17z, hM⟩ := M.e_grd hM
 simp only [Bool.and_eq_true, decide_eq_true_eq] at sd17z
 refine d_q rfl (fun w' H => x_quo (a := n) (b := a) rfl rfl (by omega)) ?_
 refine d_q rfl (fun w' H => x_mv (v := I of_) rfl) ?_
 refine d_q rfl (fun w' H => x_mv (v := I a) rfl) ?_
 obtain ⟨sd18z, hM⟩ := M.e_grd hM
 simp only [Bool.and_eq_true, decide_eq_true_eq] at sd18z
 refine d_q rfl (fun w' H => x_quo (a := of_) (b := a) rfl rfl (by omega)) ?_
 refine d_q rfl (fun w' H => x_bld (ps := [(0, I (n / a)), (1, I (of_ / a))]) (zs := [I 0, I 0]) (L' := [I (n / a), I (of_ / a)]) rfl Try.underlying63 Al63 rfl (Bd63 Try.underlying63) (.cons (cs := [I (n / a)]) rfl rfl rfl rfl rfl <| .cons (cs := [I (of_ / a)]) rfl rfl rfl rfl rfl <| .nil)) ?_
 refine d_l rfl ?_
 refine t_st (k := 0) (b := b_1) (off := 0) (cs := [I 0, I 0]) (vs := [I (n / a), I (of_ / a)]) (cs' := [I (n / a), I (of_ / a)]) (v := .agg #[I (n / a), I (of_ / a)]) (L' := [cBlk b_1 [I (n / a), I (of_ / a)] 63]) H rfl rfl rfl Sz63 rfl rfl rfl rfl rfl rfl ?_
 intro w19z H
 refine s_nil ⟨(H.pick [] (by decide) rfl), ?_⟩
 refine d_nil ?_
 refine W.ret ?_
 have hb20z := (H.blk (k := 0) rfl)
 have hr_ := M.e_pure hM
 exact ⟨_, (resE_of1 (v := .agg #[I (n / a), I (of_ / a)]) rfl (.cell (v := .agg #[I (n / a), I (of_ / a)]) rfl (run_loadVar_ag (ds := [I (n / a), I (of_ / a)]) Ag63 Sz63 hb20z rfl rfl) <| .nil)), ⟨(n / a), (of_ / a), hr_, rfl, (H.pick [] (by decide) rfl)⟩⟩

def zbN (b_Years : List Yr) (b_Olds : List Old10) (b_First : Int) (b_Last : Int) (stage : Int) : M (Int × Int × Int × Int × Int) :=
  M.bind (zae b_Years b_Olds b_First b_Last b_First b_Last stage) fun (r00, r01, r1) =>
  bif r1 != 0 then (
  M.pure (0, 0, 0, 0, r1))
  else (
  M.grd (decide ((-9223372036854775808 : Int) <= (b_Last - b_First)) && decide ((b_Last - b_First) <= (9223372036854775807 : Int))) <|
  M.grd (decide ((-9223372036854775808 : Int) <= ((b_Last - b_First) + 1)) && decide (((b_Last - b_First) + 1) <= (9223372036854775807 : Int))) <|
  M.bind (zbB r00 ((b_Last - b_First) + 1)) fun (r0, r12) =>
  M.bind (zbB r01 ((b_Last - b_First) + 1)) fun (r02, r13) =>
  M.pure (r0, r12, r02, r13, 0))
theorem zcG {R : List Chunk} {C_b_Years : Cells} {v_b_Years : Value} {C_b_Olds : Cells} {v_b_Olds : Value} (b_Years : List Yr) (b_Olds : List Old10) (b_First : Int) (b_Last : Int) (stage : Int) (hC_b_Years : Reads R C_b_Years) (hs_b_Years : Sl C_b_Years v_b_Years b_Years) (hC_b_Olds : Reads R C_b_Olds) (hs_b_Olds : Sl C_b_Olds v_b_Olds b_Olds) {r : (Int × Int × Int × Int × Int)} (hM : (zbN b_Years b_Olds b_First b_Last stage).Ends r) (w : World) (H : St w w [] R) : Ret Try.prog 26 #[.agg #[v_b_Years, v_b_Olds, I b_First, I b_Last], I stage] w fun v w' => ∃ (y0 : Int) (y1 : Int) (y2 : Int) (y3 : Int) (y4 : Int), (y0, y1, y2, y3, y4) = r /\ v = .tuple #[.agg #[I y0, I y1], .agg #[I y2, I y3], I y4] /\ St w w' [] R := by
 refine ret_of_W Try.func26 rfl rfl rfl ?_
 refine W.seq ?_
 refine W.region rfl ?_
 refine t_box (v := .agg #[v_b_Years, v_b_Olds, I b_First, I b_Last]) (cs := [v_b_Years, v_b_Olds, I b_First, I b_Last]) H rfl rfl ?_
 intro b_1 w1z H
 refine t_alloc (cs := [I 0, I 0]) H Al63 rfl ?_
 intro b_2 w2z H
 refine t_alloc (cs := [I 0, I 0]) H Al63 rfl ?_
 intro b_3 w3z H
 refine s_val (x_as (v := I 0) rfl) ?_
 refine s_nil ?_
 refine W.seq ?_
 refine W.region rfl ?_
 refine s_val (x_ld (p := .pointer (some ⟨b_1, 0, none⟩)) (v := .agg #[v_b_Years, v_b_Olds, I b_First, I b_Last]) rfl (ldb_ag (ds := [v_b_Years, v_b_Olds, I b_First, I b_Last]) Ag26 Sz26 (H.blk (k := 2) rfl) rfl rfl)) ?_
 refine s_val (x_fa (a := .pointer (some ⟨b_1, 0, none⟩)) (v := .pointer (some ⟨b_1, 2, none⟩)) rfl (fa_blk (o := 0) Fd26_2 Sz3)) ?_
 refine s_val (x_ld (p := .pointer (some ⟨b_1, 2, none⟩)) (v := I b_First) rfl (ldb_sc Sc3 (H.blk (k := 2) rfl) rfl)) ?_
 refine s_val (x_fa (a := .pointer (some ⟨b_1, 0, none⟩)) (v := .pointer (some ⟨b_1, 3, none⟩)) rfl (fa_blk (o := 0) Fd26_3 Sz3)) ?_
 refine s_val (x_ld (p := .pointer (some ⟨b_1, 3, none⟩)) (v := I b_Last) rfl (ldb_sc Sc3 (H.blk (k := 2) rfl) rfl)) ?_
 refine s_val (x_mv (v := I stage) rfl) ?_
 obtain ⟨r5z, hx4z, hM⟩ := M.e_bind hM
 refine s_call cf15 [.agg #[v_b_Years, v_b_Olds, I b_First, I b_Last], I b_First, I b_Last, I stage] rfl (zah b_Years b_Olds b_First b_Last b_First b_Last stage (hC_b_Years.app _) hs_b_Years (hC_b_Olds.app _) hs_b_Olds hx4z _ (St.give (T := [cBlk b_3 [I 0, I 0] 63, cBlk b_2 [I 0, I 0] 63, cBlk b_1 [v_b_Years, v_b_Olds, I b_First, I b_Last] 26]) H rfl)) ?_
 rintro vq w6z ⟨r00, r01, r1, hr7z, hvq, H2_⟩
 subst hr7z
 subst vq
 try dsimp only at hM
 replace H : St w w6z [cBlk b_3 [I 0, I 0] 63, cBlk b_2 [I 0, I 0] 63, cBlk b_1 [v_b_Years, v_b_Olds, I b_First, I b_Last] 26] R := H.back H2_ rfl
 clear H2_
 refine s_val (x_mv (v := .tuple #[.agg #[I r00, I r01], I r1]) rfl) ?_
 refine s_val (x_ext (vs := [.agg #[I r00, I r01], I r1]) (v := .agg #[I r00, I r01]) rfl rfl) ?_
 refine s_val (x_ext (vs := [.agg #[I r00, I r01], I r1]) (v := I r1) rfl rfl) ?_
 refine t_alloc (cs := [I 0, I 0]) H Al35 rfl ?_
 intro b_4 w8z H
 refine t_st (k := 0) (b := b_4) (off := 0) (cs := [I 0, I 0]) (vs := [I r00, I r01]) (cs' := [I r00, I r01]) (v := .agg #[I r00, I r01]) (L' := [cBlk b_4 [I r00, I r01] 35, cBlk b_3 [I 0, I 0] 63, cBlk b_2 [I 0, I 0] 63, cBlk b_1 [v_b_Years, v_b_Olds, I b_First, I b_Last] 26]) H rfl rfl rfl Sz35 rfl rfl rfl rfl rfl rfl ?_
 intro w9z H
 refine s_val (x_as (v := I r1) rfl) ?_
 refine s_nil ?_
 refine W.seq ?_
 refine W.seq ?_
 refine W.region rfl ?_
 refine s_val (x_mv (v := I r1) rfl) ?_
 refine s_val (x_cmp (kd := .i64) (a := r1) (b := 0) (r := r1 != 0) rfl rfl rfl) ?_
 refine s_nil ?_
 refine W.cond (r1 != 0) rfl (fun c10z => ?_) (fun c10z => ?_)
 ·replace hM := M.e_t hM c10z
  simp only [decide_eq_true_eq, decide_eq_false_iff_not, beq_iff_eq, bne_iff_ne, beq_eq_false_iff_ne, bne_eq_false_iff_eq, ne_eq, Decidable.not_not] at c10z
  refine W.seq ?_
  refine W.drawT (fun W => St w W [cBlk b_4 [I r00, I r01] 35, cBlk b_1 [v_b_Years, v_b_Olds, I b_First, I b_Last] 26] R) (.q 2 (.l2 0 (.l2 1 (.l 3 (.l 4 (.q 5 .nil))) 3 (.l 1 (.l 4 (.q 5 .nil)))) 1 (.l 0 (.l 3 (.l 4 (.q 5 .nil)))))) mixed (by decide +kernel) rfl ?_
  intro w11z hx_
  replace H : St w w11z [cBlk b_4 [I r00, I r01] 35, cBlk b_3 [I 0, I 0] 63, cBlk b_2 [I 0, I 0] 63, cBlk b_1 [v_b_Years, v_b_Olds, I b_First, I b_Last] 26] R := H.ext hx_
  clear hx_
  refine ⟨(H.pick [0, 3] (by decide) rfl), ?_⟩
  refine t_q rfl (fun w' H => x_mv (v := I r1) rfl) ?_
  refine t_l2 rfl rfl ?_ ?_
  ·skip
   refine s_val (x_ld (p := .pointer (some ⟨b_2, 0, none⟩)) (v := .agg #[I 0, I 0]) rfl (ldb_ag (ds := [I 0, I 0]) Ag63 Sz63 (H.blk (k := 2) rfl) rfl rfl)) ?_
   refine s_nil ⟨(H.pick [0, 3] (by decide) rfl), ?_⟩
   refine t_l2 rfl rfl ?_ ?_
   ·skip
    refine s_val (x_ld (p := .pointer (some ⟨b_3, 0, none⟩)) (v := .agg #[I 0, I 0]) rfl (ldb_ag (ds := [I 0, I 0]) Ag63 Sz63 (H.blk (k := 1) rfl) rfl rfl)) ?_
    refine s_nil ⟨(H.pick [0, 3] (by decide) rfl), ?_⟩
    refine t_l rfl ?_
    refine t_st (k := 2) (b := b_2) (off := 0) (cs := [I 0, I 0]) (vs := [I 0, I 0]) (cs' := [I 0, I 0]) (v := .agg #[I 0, I 0]) (L' := [cBlk b_4 [I r00, I r01] 35, cBlk b_3 [I 0, I 0] 63, cBlk b_2 [I 0, I 0] 63, cBlk b_1 [v_b_Years, v_b_Olds, I b_First, I b_Last] 26]) H rfl rfl rfl Sz63 rfl rfl rfl rfl rfl rfl ?_
    intro w14z H
    refine s_nil ⟨(H.pick [0, 3] (by decide) rfl), ?_⟩
    refine t_l rfl ?_
    refine t_st (k := 1) (b := b_3) (off := 0) (cs := [I 0, I 0]) (vs := [I 0, I 0]) (cs' := [I 0, I 0]) (v := .agg #[I 0, I 0]) (L' := [cBlk b_4 [I r00, I r01] 35, cBlk b_3 [I 0, I 0] 63, cBlk b_2 [I 0, I 0] 63, cBlk b_1 [v_b_Years, v_b_Olds, I b_First, I b_Last] 26]) H rfl rfl rfl Sz63 rfl rfl rfl rfl rfl rfl ?_
    intro w15z H
    refine s_nil ⟨(H.pick [0, 3] (by decide) rfl), ?_⟩
    refine t_q rfl (fun w' H => x_as (v := I r1) rfl) ?_
    refine t_nil ?_
    refine W.ret ?_
    have hb16z := (H.blk (k := 2) rfl)
    have hb17z := (H.blk (k := 1) rfl)
    have hr_ := M.e_pure hM
    exact ⟨_, (resE_ofn (vs := [.agg #[I 0, I 0], .agg #[I 0, I 0], I r1]) rfl rfl (.cell (v := .agg #[I 0, I 0]) rfl (run_loadVar_ag (ds := [I 0, I 0]) Ag63 Sz63 hb16z rfl rfl) <| .cell (v := .agg #[I 0, I 0]) rfl (run_loadVar_ag (ds := [I 0, I 0]) Ag63 Sz63 hb17z rfl rfl) <| .tmp (v := I r1) rfl <| .nil)), ⟨0, 0, 0, 0, r1, hr_, rfl, (H.pick [] (by decide) rfl)⟩⟩
   skip
   refine t_st (k := 2) (b := b_2) (off := 0) (cs := [I 0, I 0]) (vs := [I 0, I 0]) (cs' := [I 0, I 0]) (v := .agg #[I 0, I 0]) (L' := [cBlk b_4 [I r00, I r01] 35, cBlk b_3 [I 0, I 0] 63, cBlk b_2 [I 0, I 0] 63, cBlk b_1 [v_b_Years, v_b_Olds, I b_First, I b_Last] 26]) H rfl rfl rfl Sz63 rfl rfl rfl rfl rfl rfl ?_
   intro w18z H
   refine s_nil ⟨(H.pick [0, 3] (by decide) rfl), ?_⟩
   refine t_l rfl ?_
   refine s_val (x_ld (p := .pointer (some ⟨b_3, 0, none⟩)) (v := .agg #[I 0, I 0]) rfl (ldb_ag (ds := [I 0, I 0]) Ag63 Sz63 (H.blk (k := 1) rfl) rfl rfl)) ?_
   refine s_nil ⟨(H.pick [0, 3] (by decide) rfl), ?_⟩
   refine t_l rfl ?_
   refine t_st (k := 1) (b := b_3) (off := 0) (cs := [I 0, I 0]) (vs := [I 0, I 0]) (cs' := [I 0, I 0]) (v := .agg #[I 0, I 0]) (L' := [cBlk b_4 [I r00, I r01] 35, cBlk b_3 [I 0, I 0] 63, cBlk b_2 [I 0, I 0] 63, cBlk b_1 [v_b_Years, v_b_Olds, I b_First, I b_Last] 26]) H rfl rfl rfl Sz63 rfl rfl rfl rfl rfl rfl ?_
   intro w19z H
   refine s_nil ⟨(H.pick [0, 3] (by decide) rfl), ?_⟩
   refine t_q rfl (fun w' H => x_as (v := I r1) rfl) ?_
   refine t_nil ?_
   refine W.ret ?_
   have hb20z := (H.blk (k := 2) rfl)
   have hb21z := (H.blk (k := 1) rfl)
   have hr_ := M.e_pure hM
   exact ⟨_, (resE_ofn (vs := [.agg #[I 0, I 0], .agg #[I 0, I 0], I r1]) rfl rfl (.cell (v := .agg #[I 0, I 0]) rfl (run_loadVar_ag (ds := [I 0, I 0]) Ag63 Sz63 hb20z rfl rfl) <| .cell (v := .agg #[I 0, I 0]) rfl (run_loadVar_ag (ds := [I 0, I 0]) Ag63 Sz63 hb21z rfl rfl) <| .tmp (v := I r1) rfl <| .nil)), ⟨0, 0, 0, 0, r1, hr_, rfl, (H.pick [] (by decide) rfl)⟩⟩
  skip
  refine s_val (x_ld (p := .pointer (some ⟨b_3, 0, none⟩)) (v := .agg #[I 0, I 0]) rfl (ldb_ag (ds := [I 0, I 0]) Ag63 Sz63 (H.blk (k := 1) rfl) rfl rfl)) ?_
  refine s_nil ⟨(H.pick [0, 3] (by decide) rfl), ?_⟩
  refine t_l rfl ?_
  refine s_val (x_ld (p := .pointer (some ⟨b_2, 0, none⟩)) (v := .agg #[I 0, I 0]) rfl (ldb_ag (ds := [I 0, I 0]) Ag63 Sz63 (H.blk (k := 2) rfl) rfl rfl)) ?_
  refine s_nil ⟨(H.pick [0, 3] (by decide) rfl), ?_⟩
  refine t_l rfl ?_
  refine t_st (k := 2) (b := b_2) (off := 0) (cs := [I 0, I 0]) (vs := [I 0, I 0]) (cs' := [I 0, I 0]) (v := .agg #[I 0, I 0]) (L' := [cBlk b_4 [I r00, I r01] 35, cBlk b_3 [I 0, I 0] 63, cBlk b_2 [I 0, I 0] 63, cBlk b_1 [v_b_Years, v_b_Olds, I b_First, I b_Last] 26]) H rfl rfl rfl Sz63 rfl rfl rfl rfl rfl rfl ?_
  intro w22z H
  refine s_nil ⟨(H.pick [0, 3] (by decide) rfl), ?_⟩
  refine t_l rfl ?_
  refine t_st (k := 1) (b := b_3) (off := 0) (cs := [I 0, I 0]) (vs := [I 0, I 0]) (cs' := [I 0, I 0]) (v := .agg #[I 0, I 0]) (L' := [cBlk b_4 [I r00, I r01] 35, cBlk b_3 [I 0, I 0] 63, cBlk b_2 [I 0, I 0] 63, cBlk b_1 [v_b_Years, v_b_Olds, I b_First, I b_Last] 26]) H rfl rfl rfl Sz63 rfl rfl rfl rfl rfl rfl ?_
  intro w23z H
  refine s_nil ⟨(H.pick [0, 3] (by decide) rfl), ?_⟩
  refine t_q rfl (fun w' H => x_as (v := I r1) rfl) ?_
  refine t_nil ?_
  refine W.ret ?_
  have hb24z := (H.blk (k := 2) rfl)
  have hb25z := (H.blk (k := 1) rfl)
  have hr_ := M.e_pure hM
  exact ⟨_, (resE_ofn (vs := [.agg #[I 0, I 0], .agg #[I 0, I 0], I r1]) rfl rfl (.cell (v := .agg #[I 0, I 0]) rfl (run_loadVar_ag (ds := [I 0, I 0]) Ag63 Sz63 hb24z rfl rfl) <| .cell (v := .agg #[I 0, I 0]) rfl (run_loadVar_ag (ds := [I 0, I 0]) Ag63 Sz63 hb25z rfl rfl) <| .tmp (v := I r1) rfl <| .nil)), ⟨0, 0, 0, 0, r1, hr_, rfl, (H.pick [] (by decide) rfl)⟩⟩
 replace hM := M.e_f hM c10z
 simp only [decide_eq_true_eq, decide_eq_false_iff_not, beq_iff_eq, bne_iff_ne, beq_eq_false_iff_ne, bne_eq_false_iff_eq, ne_eq, Decidable.not_not] at c10z
 refine W.skip ?_
 refine W.seq ?_
 refine W.region rfl ?_
 refine s_val (x_fa (a := .pointer (some ⟨b_1, 0, none⟩)) (v := .pointer (some ⟨b_1, 3, none⟩)) rfl (fa_blk (o := 0) Fd26_3 Sz3)) ?_
 refine s_val (x_ld (p := .pointer (some ⟨b_1, 3, none⟩)) (v := I b_Last) rfl (ldb_sc Sc3 (H.blk (k := 3) rfl) rfl)) ?_
 refine s_val (x_fa (a := .pointer (some ⟨b_1, 0, none⟩)) (v := .pointer (some ⟨b_1, 2, none⟩)) rfl (fa_blk (o := 0) Fd26_2 Sz3)) ?_
 refine s_val (x_ld (p := .pointer (some ⟨b_1, 2, none⟩)) (v := I b_First) rfl (ldb_sc Sc3 (H.blk (k := 3) rfl) rfl)) ?_
 obtain ⟨sd26z, hM⟩ := M.e_grd hM
 simp only [Bool.and_eq_true, decide_eq_true_eq] at sd26z
 refine s_val (x_ari (a := b_Last) (b := b_First) (r := b_Last - b_First) rfl rfl rfl (by omega)) ?_
 obtain ⟨sd27z, hM⟩ := M.e_grd hM
 simp only [Bool.and_eq_true, decide_eq_true_eq] at sd27z
 refine s_val (x_ari (a := b_Last - b_First) (b := 1) (r := (b_Last - b_First) + 1) rfl rfl rfl (by omega)) ?_
 refine s_val (x_as (v := I ((b_Last - b_First) + 1)) rfl) ?_
 refine s_nil ?_
 refine W.seq ?_
 refine W.draw (fun W => St w W [cBlk b_4 [I r00, I r01] 35, cBlk b_1 [v_b_Years, v_b_Olds, I b_First, I b_Last] 26] R) [(0, true), (1, true), (2, true), (4, true), (5, true), (6, true), (3, false), (7, false), (8, false), (9, false), (10, true)] mixed (by decide +kernel) rfl ?_
 intro w28z hx_
 replace H : St w w28z [cBlk b_4 [I r00, I r01] 35, cBlk b_3 [I 0, I 0] 63, cBlk b_2 [I 0, I 0] 63, cBlk b_1 [v_b_Years, v_b_Olds, I b_First, I b_Last] 26] R := H.ext hx_
 clear hx_
 refine ⟨(H.pick [0, 3] (by decide) rfl), ?_⟩
 refine d_q rfl (fun w' H => x_fa (a := .pointer (some ⟨b_4, 0, none⟩)) (v := .pointer (some ⟨b_4, 0, none⟩)) rfl (fa_blk (o := 0) Fd35_0 Sz3)) ?_
 refine d_q rfl (fun w' H => x_ld (p := .pointer (some ⟨b_4, 0, none⟩)) (v := I r00) rfl (ldb_sc Sc3 (H.blk (k := 0) rfl) rfl)) ?_
 refine d_q rfl (fun w' H => x_mv (v := I ((b_Last - b_First) + 1)) rfl) ?_
 refine d_q rfl (fun w' H => x_fa (a := .pointer (some ⟨b_4, 0, none⟩)) (v := .pointer (some ⟨b_4, 1, none⟩)) rfl (fa_blk (o := 0) Fd35_1 Sz3)) ?_
 refine d_q rfl (fun w' H => x_ld (p := .pointer (some ⟨b_4, 1, none⟩)) (v := I r01) rfl (ldb_sc Sc3 (H.blk (k := 0) rfl) rfl)) ?_
 refine d_q rfl (fun w' H => x_mv (v := I ((b_Last - b_First) + 1)) rfl) ?_
 refine d_l rfl ?_
 obtain ⟨r30z, hx29z, hM⟩ := M.e_bind hM
 refine s_call cf69 [I r00, I ((b_Last - b_First) + 1)] rfl (zbS r00 ((b_Last - b_First) + 1) hx29z _ (St.give (T := [cBlk b_4 [I r00, I r01] 35, cBlk b_3 [I 0, I 0] 63, cBlk b_2 [I 0, I 0] 63, cBlk b_1 [v_b_Years, v_b_Olds, I b_First, I b_Last] 26]) H rfl)) ?_
 rintro vq w31z ⟨r0, r12, hr32z, hvq, H2_⟩
 subst hr32z
 subst vq
 try dsimp only at hM
 replace H : St w w31z [cBlk b_4 [I r00, I r01] 35, cBlk b_3 [I 0, I 0] 63, cBlk b_2 [I 0, I 0] 63, cBlk b_1 [v_b_Years, v_b_Olds, I b_First, I b_Last] 26] R := H.back H2_ rfl
 clear H2_
 refine s_nil ⟨(H.pick [0, 3] (by decide) rfl), ?_⟩
 refine d_l rfl ?_
 obtain ⟨r34z, hx33z, hM⟩ := M.e_bind hM
 refine s_call cf69 [I r01, I ((b_Last - b_First) + 1)] rfl (zbS r01 ((b_Last - b_First) + 1) hx33z _ (St.give (T := [cBlk b_4 [I r00, I r01] 35, cBlk b_3 [I 0, I 0] 63, cBlk b_2 [I 0, I 0] 63, cBlk b_1 [v_b_Years, v_b_Olds, I b_First, I b_Last] 26]) H rfl)) ?_
 rintro vq w35z ⟨r02, r13, hr36z, hvq, H2_⟩
 subst hr36z
 subst vq
 try dsimp only at hM
 replace H : St w w35z [cBlk b_4 [I r00, I r01] 35, cBlk b_3 [I 0, I 0] 63, cBlk b_2 [I 0, I 0] 63, cBlk b_1 [v_b_Years, v_b_Olds, I b_First, I b_Last] 26] R := H.back H2_ rfl
 clear H2_
 refine s_nil ⟨(H.pick [0, 3] (by decide) rfl), ?_⟩
 refine d_l rfl ?_
 refine t_st (k := 2) (b := b_2) (off := 0) (cs := [I 0, I 0]) (vs := [I r0, I r12]) (cs' := [I r0, I r12]) (v := .agg #[I r0, I r12]) (L' := [cBlk b_4 [I r00, I r01] 35, cBlk b_3 [I 0, I 0] 63, cBlk b_2 [I r0, I r12] 63, cBlk b_1 [v_b_Years, v_b_Olds, I b_First, I b_Last] 26]) H rfl rfl rfl Sz63 rfl rfl rfl rfl rfl rfl ?_
 intro w37z H
 refine s_nil ⟨(H.pick [0, 3] (by decide) rfl), ?_⟩
 refine d_l rfl ?_
 refine t_st (k := 1) (b := b_3) (off := 0) (cs := [I 0, I 0]) (vs := [I r02, I r13]) (cs' := [I r02, I r13]) (v := .agg #[I r02, I r13]) (L' := [cBlk b_4 [I r00, I r01] 35, cBlk b_3 [I r02, I r13] 63, cBlk b_2 [I r0, I r12] 63, cBlk b_1 [v_b_Years, v_b_Olds, I b_First, I b_Last] 26]) H rfl rfl rfl Sz63 rfl rfl rfl rfl rfl rfl ?_
 intro w38z H
 refine s_nil ⟨(H.pick [0, 3] (by decide) rfl), ?_⟩
 refine d_q rfl (fun w' H => x_as (v := I 0) rfl) ?_
 refine d_nil ?_
 refine W.ret ?_
 have hb39z := (H.blk (k := 2) rfl)
 have hb40z := (H.blk (k := 1) rfl)
 have hr_ := M.e_pure hM
 exact ⟨_, (resE_ofn (vs := [.agg #[I r0, I r12], .agg #[I r02, I r13], I 0]) rfl rfl (.cell (v := .agg #[I r0, I r12]) rfl (run_loadVar_ag (ds := [I r0, I r12]) Ag63 Sz63 hb39z rfl rfl) <| .cell (v := .agg #[I r02, I r13]) rfl (run_loadVar_ag (ds := [I r02, I r13]) Ag63 Sz63 hb40z rfl rfl) <| .tmp (v := I 0) rfl <| .nil)), ⟨r0, r12, r02, r13, 0, hr_, rfl, (H.pick [] (by decide) rfl)⟩⟩

def zas : (List Int) -> (Int × Span) -> M ((List Int) ⊕ Unit) := fun l (x2, x3) =>
  M.bind (zbL x3) fun r2 =>
  M.grd (decide ((l.length + ([(r2 : Int)]).length) * 8 <= 140737488355328)) <|
  M.pure (.inl (l ++ ([(r2 : Int)])))
def zbD (k020 : List Yr) (k021 : List Old10) (k022 : Int) (k023 : Int) (k024 : List (Int × Span)) (k12 : Int) (k22 : Int) (k32 : Int) : M Int :=
  M.bind (zai k020 k021 k022 k023 k024 k12 k22) fun (r00, r10) =>
  M.bind (zak (M.yl zas) (.inl ([])) r00 r10 k020 k021 k022 k023 k024) fun x_ => match x_ with
  | .inl l => (
  M.grd (decide (l.length <= 1000000)) <|
  M.grd (decide ((-9223372036854775808 : Int) <= (((isort l).length : Int) - k32)) && decide ((((isort l).length : Int) - k32) <= (9223372036854775807 : Int))) <|
  M.grd (decide ((0 : Int) <= (((isort l).length : Int) - k32)) && decide ((((isort l).length : Int) - k32) < ((isort l).length : Int))) <|
  M.pure ((isort l).getD (Int.toNat (((isort l).length : Int) - k32)) 0))
  | .inr _ => M.fail
theorem zcm {R : List Chunk} {b_k0 : Nat} {b_k02 : Nat} {C_k020 : Cells} {v_k020 : Value} {C_k021 : Cells} {v_k021 : Value} {b_k024 : Nat} {b_k1 : Nat} {b_k2 : Nat} {b_k3 : Nat} (k020 : List Yr) (k021 : List Old10) (k022 : Int) (k023 : Int) (k024 : List (Int × Span)) (k12 : Int) (k22 : Int) (k32 : Int) (hC_k020 : Reads R C_k020) (hs_k020 : Sl C_k020 v_k020 k020) (hC_k021 : Reads R C_k021) (hs_k021 : Sl C_k021 v_k021 k021) (h_b_k024 : Has R (cMl I encSp b_k024 k024)) (h_b_k02 : Has R (cBlk b_k02 [v_k020, v_k021, I k022, I k023, .map (some b_k024)] 126)) (h_b_k0 : Has R (cBlk b_k0 [.pointer (some ⟨b_k02, 0, none⟩)] 102)) (h_b_k1 : Has R (cBlk b_k1 [I k12] 3)) (h_b_k2 : Has R (cBlk b_k2 [I k22] 3)) (h_b_k3 : Has R (cBlk b_k3 [I k32] 3)) {r : Int} (hM : (zbD k020 k021 k022 k023 k024 k12 k22 k32).Ends r) (w : World) (H : St w w [] R) : Ret Try.prog 58 #[.agg #[.func (.func 91) #[] #[]], .pointer (some ⟨b_k0, 0, none⟩), .pointer (some ⟨b_k1, 0, none⟩), .pointer (some ⟨b_k2, 0, none⟩), .pointer (some ⟨b_k3, 0, none⟩)] w fun v w' => ∃ (y0 : Int), y0 = r /\ v = I y0 /\ St w w' [] R := by
 refine ret_of_WD Try.func58 rfl rfl rfl ?_
 replace H : St w w [cMk ([])] R := H.mk0
 have hl_k020 := hs_k020.len_le
 have hl_k021 := hs_k021.len_le
 unfold zbD at hM
 refine WD.seq ?_
 refine WD.of ?_
 refine W.region rfl ?_
 refine t_box (v := .agg #[.func (.func 91) #[] #[]]) (cs := [.func (.func 91) #[] #[]]) H rfl rfl ?_
 intro b_1 w1z H
 refine s_val (x_as (v := I 0) rfl) ?_
 refine s_nil ?_
 refine WD.seq ?_
 refine WD.of ?_
 refine W.region rfl ?_
 refine t_alloc (cs := [.slice none 0 0]) H Al27 rfl ?_
 intro b_2 w2z H
 refine s_nil ?_
 refine WD.seq ?_
 refine WD.seq ?_
 refine WD.of ?_
 refine W.region rfl ?_
 refine s_val (x_ld (p := .pointer (some ⟨b_k0, 0, none⟩)) (v := .pointer (some ⟨b_k02, 0, none⟩)) rfl (ldb_sc Sc102 (h_b_k0.blk H) rfl)) ?_
 refine s_val (x_ld (p := .pointer (some ⟨b_k1, 0, none⟩)) (v := I k12) rfl (ldb_sc Sc3 (h_b_k1.blk H) rfl)) ?_
 refine s_val (x_ld (p := .pointer (some ⟨b_k2, 0, none⟩)) (v := I k22) rfl (ldb_sc Sc3 (h_b_k2.blk H) rfl)) ?_
 obtain ⟨r4z, hx3z, hM⟩ := M.e_bind hM
 refine s_call cf54 [.pointer (some ⟨b_k02, 0, none⟩), I k12, I k22] rfl (za3 k020 k021 k022 k023 k024 k12 k22 (hC_k020.app _) hs_k020 (hC_k021.app _) hs_k021 (h_b_k024.app _) (h_b_k02.app _) hx3z _ (St.give (T := [cBlk b_2 [.slice none 0 0] 27, cBlk b_1 [.func (.func 91) #[] #[]] 113, cMk ([])]) H rfl)) ?_
 rintro vq w5z ⟨r00, r10, nb0_3, nb1_4, nb2_5, hr6z, hvq, H2_⟩
 subst hr6z
 subst vq
 try dsimp only at hM
 replace H : St w w5z [cBlk nb0_3 [I r00] 3, cBlk nb1_4 [I r10] 3, cBlk nb2_5 [.pointer (some ⟨b_k02, 0, none⟩)] 102, cBlk b_2 [.slice none 0 0] 27, cBlk b_1 [.func (.func 91) #[] #[]] 113, cMk ([])] R := H.back H2_ rfl
 clear H2_
 refine s_nil ?_
 refine WD.block ?_
 replace H : St w w5z [cOwn (α := Int) 3 (.slice none 0 0) ([]), cBlk nb0_3 [I r00] 3, cBlk nb1_4 [I r10] 3, cBlk nb2_5 [.pointer (some ⟨b_k02, 0, none⟩)] 102, cBlk b_2 [.slice none 0 0] 27, cBlk b_1 [.func (.func 91) #[] #[]] 113, cMk ([])] R := H.nilOwn (α := Int) 3
 obtain ⟨t7z, hx8z, hM⟩ := M.e_bind hM
 refine WD.range (L := [cOwn (α := Int) 3 (.slice none 0 0) ([]), cBlk b_2 [(.slice none 0 0)] 27, cBlk nb0_3 [I r00] 3, cBlk nb1_4 [I r10] 3, cBlk nb2_5 [.pointer (some ⟨b_k02, 0, none⟩)] 102, cBlk b_1 [.func (.func 91) #[] #[]] 113]) [.pointer (some ⟨nb0_3, 0, none⟩), .pointer (some ⟨nb1_4, 0, none⟩), .pointer (some ⟨nb2_5, 0, none⟩)] (H.pick [6, 0, 4, 1, 2, 3, 5] (by decide) rfl) rfl cf90 ?_
 intro l9z D10z r11z w12z hr13z H
 have hYC : YieldC Try.prog ([cMk (D10z :: ([])), cBlk nb0_3 [I r00] 3, cBlk nb1_4 [I r10] 3, cBlk nb2_5 [.pointer (some ⟨b_k02, 0, none⟩)] 102, cBlk b_1 [.func (.func 91) #[] #[]] 113] ++ R) arISpan (yJ l9z r11z (fun l Ls_ => ∃ (v_l : Value), Ls_ = [cOwn (α := Int) 3 v_l l, cBlk b_2 [v_l] 27]) (fun (_ : Unit) _ => False) (fun _ => .ret)) (.func (.yield l9z) #[] #[]) (M.yl zas) := by
  refine YieldC.mk2 hr13z (fun l Ls_ => ∃ (v_l : Value), Ls_ = [cOwn (α := Int) 3 v_l l, cBlk b_2 [v_l] 27]) (fun (_ : Unit) _ => False) (fun _ => .ret) zas (by rintro l _ h_; obtain ⟨_, rfl⟩ := h_; rfl) (fun _ _ h_ => h_.elim) rfl (arISpan_len rfl) ?_
  intro C_ vs_ x_ hA_
  obtain ⟨x2, x3⟩ := x_
  obtain rfl := hA_
  intro w R hR_ Ls_ s_ r hY_ hM H
  skip
  obtain ⟨l, hs_eq_⟩ : ∃ y_, y_ = s_ := ⟨_, rfl⟩
  subst hs_eq_
  obtain ⟨v_l, rfl⟩ := hY_
  replace H : St w w [cOwn (α := Int) 3 v_l l, cBlk b_2 [v_l] 27, cMk (D10z :: ([])), cBlk nb0_3 [I r00] 3, cBlk nb1_4 [I r10] 3, cBlk nb2_5 [.pointer (some ⟨b_k02, 0, none⟩)] 102, cBlk b_1 [.func (.func 91) #[] #[]] 113] R := H
  refine W.region rfl ?_
  refine t_alloc (cs := [I 0, I 0]) H Al35 rfl ?_
  intro b_6 w14z H
  refine t_st (k := 0) (b := b_6) (off := 0) (cs := [I 0, I 0]) (vs := [I x3.lo, I x3.hi]) (cs' := [I x3.lo, I x3.hi]) (v := .agg #[I x3.lo, I x3.hi]) (L' := [cBlk b_6 [I x3.lo, I x3.hi] 35, cOwn (α := Int) 3 v_l l, cBlk b_2 [v_l] 27, cMk (D10z :: ([])), cBlk nb0_3 [I r00] 3, cBlk nb1_4 [I r10] 3, cBlk nb2_5 [.pointer (some ⟨b_k02, 0, none⟩)] 102, cBlk b_1 [.func (.func 91) #[] #[]] 113]) H rfl rfl rfl Sz35 rfl rfl rfl rfl rfl rfl ?_
  intro w15z H
  refine s_nil ?_
  refine ⟨rfl, [cBlk b_6 [I x3.lo, I x3.hi] 35], H.pick [0, 1, 2, 3, 4, 5, 6, 7] (by decide) rfl, ?_⟩
  clear H hR_
  intro w R hR_ H
  replace hC_k020 := hC_k020.sub hR_
  replace hC_k021 := hC_k021.sub hR_
  replace h_b_k024 := h_b_k024.sub hR_
  replace h_b_k02 := h_b_k02.sub hR_
  replace h_b_k0 := h_b_k0.sub hR_
  replace h_b_k1 := h_b_k1.sub hR_
  replace h_b_k2 := h_b_k2.sub hR_
  replace h_b_k3 := h_b_k3.sub hR_
  replace hM : (zas l (x2, x3)).Ends r := hM
  simp only [zas] at hM
  replace H : St w w [cBlk b_6 [I x3.lo, I x3.hi] 35, cOwn (α := Int) 3 v_l l, cBlk b_2 [v_l] 27, cMk (D10z :: ([])), cBlk nb0_3 [I r00] 3, cBlk nb1_4 [I r10] 3, cBlk nb2_5 [.pointer (some ⟨b_k02, 0, none⟩)] 102, cBlk b_1 [.func (.func 91) #[] #[]] 113] R := H
  refine W.block ?_
  refine W.drawT (fun W => St w W [cBlk b_6 [I x3.lo, I x3.hi] 35, cMk (D10z :: ([])), cBlk nb0_3 [I r00] 3, cBlk nb1_4 [I r10] 3, cBlk nb2_5 [.pointer (some ⟨b_k02, 0, none⟩)] 102, cBlk b_1 [.func (.func 91) #[] #[]] 113] R) (.q 1 (.q 2 (.q 3 (.l2 0 (.l 4 (.l 5 (.l 6 (.l 7 .nil)))) 4 (.l2 0 (.l 5 (.l 6 (.l 7 .nil))) 5 (.l 0 (.l 6 (.l 7 .nil)))))))) mixed (by decide +kernel) rfl ?_
  intro w16z hx_
  replace H : St w w16z [cBlk b_6 [I x3.lo, I x3.hi] 35, cOwn (α := Int) 3 v_l l, cBlk b_2 [v_l] 27, cMk (D10z :: ([])), cBlk nb0_3 [I r00] 3, cBlk nb1_4 [I r10] 3, cBlk nb2_5 [.pointer (some ⟨b_k02, 0, none⟩)] 102, cBlk b_1 [.func (.func 91) #[] #[]] 113] R := H.ext hx_
  clear hx_
  refine ⟨(H.pick [0, 3, 4, 5, 6, 7] (by decide) rfl), ?_⟩
  refine t_q rfl (fun w' H => x_fa (a := .pointer (some ⟨b_1, 0, none⟩)) (v := .pointer (some ⟨b_1, 0, none⟩)) rfl (fa_blk (o := 0) Fd113_0 Sz111)) ?_
  refine t_q rfl (fun w' H => x_ld (p := .pointer (some ⟨b_1, 0, none⟩)) (v := .func (.func 91) #[] #[]) rfl (ldb_sc Sc111 (H.blk (k := 5) rfl) rfl)) ?_
  refine t_q rfl (fun w' H => x_ld (p := .pointer (some ⟨b_6, 0, none⟩)) (v := .agg #[I x3.lo, I x3.hi]) rfl (ldb_ag (ds := [I x3.lo, I x3.hi]) Ag35 Sz35 (H.blk (k := 0) rfl) rfl rfl)) ?_
  refine t_l2 rfl rfl ?_ ?_
  ·skip
   refine s_val (x_ld (p := .pointer (some ⟨b_2, 0, none⟩)) (v := v_l) rfl (ldb_sc Sc27 (H.blk (k := 2) rfl) rfl)) ?_
   have hvc_q27z := Sl.cells (ownSl (H.get (k := 1) rfl))
   have hvo_q27z := Sl.oc (ownSl (H.get (k := 1) rfl))
   refine s_nil ⟨(H.pick [0, 3, 4, 5, 6, 7] (by decide) rfl), ?_⟩
   refine t_l rfl ?_
   obtain ⟨r29z, hx28z, hM⟩ := M.e_bind hM
   refine s_callv (f := 91) rfl cf91 [.agg #[I x3.lo, I x3.hi]] rfl (zbg x3 hx28z _ (St.give (T := [cBlk b_6 [I x3.lo, I x3.hi] 35, cOwn (α := Int) 3 v_l l, cBlk b_2 [v_l] 27, cMk (D10z :: ([])), cBlk nb0_3 [I r00] 3, cBlk nb1_4 [I r10] 3, cBlk nb2_5 [.pointer (some ⟨b_k02, 0, none⟩)] 102, cBlk b_1 [.func (.func 91) #[] #[]] 113]) H rfl)) ?_
   rintro vq w30z ⟨r2, hr31z, hvq, H2_⟩
   subst hr31z
   subst vq
   try dsimp only at hM
   replace H : St w w30z [cBlk b_6 [I x3.lo, I x3.hi] 35, cOwn (α := Int) 3 v_l l, cBlk b_2 [v_l] 27, cMk (D10z :: ([])), cBlk nb0_3 [I r00] 3, cBlk nb1_4 [I r10] 3, cBlk nb2_5 [.pointer (some ⟨b_k02, 0, none⟩)] 102, cBlk b_1 [.func (.func 91) #[] #[]] 113] R := H.back H2_ rfl
   clear H2_
   refine s_nil ⟨(H.pick [0, 3, 4, 5, 6, 7] (by decide) rfl), ?_⟩
   refine t_l rfl ?_
   refine t_bs (α := Int) T27 [I r2] [(r2 : Int)] H rfl (.cons rfl (Flat.rep_enc _ (r2 : Int)) <| .nil) rfl rfl rfl ?_
   intro v32z w33z H
   have hvc_q34z := Sl.cells (ownSl (H.get (k := 0) rfl))
   have hvo_q34z := Sl.oc (ownSl (H.get (k := 0) rfl))
   refine s_nil ⟨(H.pick [1, 4, 5, 6, 7, 8] (by decide) rfl), ?_⟩
   refine t_l rfl ?_
   obtain ⟨sd35z, hM⟩ := M.e_grd hM
   simp only [Bool.and_eq_true, decide_eq_true_eq] at sd35z
   refine t_app (α := Int) (k := 2) (l := l) (l2 := [(r2 : Int)]) (l' := l ++ ([(r2 : Int)])) (vy := v32z) T27 rfl H rfl rfl rfl (ownSl (H.get (k := 0) rfl)) (ownLe _ (H.get (k := 0) rfl)) (rfl) (by first | omega | (simp only [List.length_nil] at *; omega)) ?_
   intro v36z w37z H
   replace H : St w w37z [cOwn (α := Int) 3 v32z ([(r2 : Int)]), cBlk b_6 [I x3.lo, I x3.hi] 35, cOwn (α := Int) 3 v36z (l ++ ([(r2 : Int)])), cBlk b_2 [v_l] 27, cMk (D10z :: ([])), cBlk nb0_3 [I r00] 3, cBlk nb1_4 [I r10] 3, cBlk nb2_5 [.pointer (some ⟨b_k02, 0, none⟩)] 102, cBlk b_1 [.func (.func 91) #[] #[]] 113] R := H
   have hvc_q38z := Sl.cells (ownSl (H.get (k := 2) rfl))
   have hvo_q38z := Sl.oc (ownSl (H.get (k := 2) rfl))
   refine s_nil ⟨(H.pick [1, 4, 5, 6, 7, 8] (by decide) rfl), ?_⟩
   refine t_l rfl ?_
   refine t_st (k := 3) (b := b_2) (off := 0) (cs := [v_l]) (vs := [v36z]) (cs' := [v36z]) (v := v36z) (L' := [cOwn (α := Int) 3 v32z ([(r2 : Int)]), cBlk b_6 [I x3.lo, I x3.hi] 35, cOwn (α := Int) 3 v36z (l ++ ([(r2 : Int)])), cBlk b_2 [v36z] 27, cMk (D10z :: ([])), cBlk nb0_3 [I r00] 3, cBlk nb1_4 [I r10] 3, cBlk nb2_5 [.pointer (some ⟨b_k02, 0, none⟩)] 102, cBlk b_1 [.func (.func 91) #[] #[]] 113]) H rfl rfl rfl Sz27 (Sl.cells (ownSl (H.get (k := 2) rfl))) rfl rfl (by simp only [List.all_cons, List.all_nil, Bool.true_and, Bool.and_true, Sl.oc (ownSl (H.get (k := 2) rfl))]; try rfl) rfl rfl ?_
   intro w39z H
   refine s_nil ⟨(H.pick [1, 4, 5, 6, 7, 8] (by decide) rfl), ?_⟩
   refine t_nil ?_
   exact ⟨l ++ ([(r2 : Int)]), [cOwn (α := Int) 3 v36z (l ++ ([(r2 : Int)])), cBlk b_2 [v36z] 27], (M.e_pure hM).symm, ⟨v36z, rfl⟩, H.pick [2, 3, 4, 5, 6, 7, 8] (by decide) rfl⟩
  skip
  obtain ⟨r41z, hx40z, hM⟩ := M.e_bind hM
  refine s_callv (f := 91) rfl cf91 [.agg #[I x3.lo, I x3.hi]] rfl (zbg x3 hx40z _ (St.give (T := [cBlk b_6 [I x3.lo, I x3.hi] 35, cOwn (α := Int) 3 v_l l, cBlk b_2 [v_l] 27, cMk (D10z :: ([])), cBlk nb0_3 [I r00] 3, cBlk nb1_4 [I r10] 3, cBlk nb2_5 [.pointer (some ⟨b_k02, 0, none⟩)] 102, cBlk b_1 [.func (.func 91) #[] #[]] 113]) H rfl)) ?_
  rintro vq w42z ⟨r2, hr43z, hvq, H2_⟩
  subst hr43z
  subst vq
  try dsimp only at hM
  replace H : St w w42z [cBlk b_6 [I x3.lo, I x3.hi] 35, cOwn (α := Int) 3 v_l l, cBlk b_2 [v_l] 27, cMk (D10z :: ([])), cBlk nb0_3 [I r00] 3, cBlk nb1_4 [I r10] 3, cBlk nb2_5 [.pointer (some ⟨b_k02, 0, none⟩)] 102, cBlk b_1 [.func (.func 91) #[] #[]] 113] R := H.back H2_ rfl
  clear H2_
  have hvc_q44z := Sl.cells (ownSl (H.get (k := 1) rfl))
  have hvo_q44z := Sl.oc (ownSl (H.get (k := 1) rfl))
  refine s_nil ⟨(H.pick [0, 3, 4, 5, 6, 7] (by decide) rfl), ?_⟩
  obtain ⟨sd47z, hM⟩ := M.e_grd hM
  simp only [Bool.and_eq_true, decide_eq_true_eq] at sd47z
  refine t_l2 rfl rfl ?_ ?_
  ·skip
   refine s_val (x_ld (p := .pointer (some ⟨b_2, 0, none⟩)) (v := v_l) rfl (ldb_sc Sc27 (H.blk (k := 2) rfl) rfl)) ?_
   refine s_nil ⟨(H.pick [0, 3, 4, 5, 6, 7] (by decide) rfl), ?_⟩
   refine t_l rfl ?_
   refine t_bs (α := Int) T27 [I r2] [(r2 : Int)] H rfl (.cons rfl (Flat.rep_enc _ (r2 : Int)) <| .nil) rfl rfl rfl ?_
   intro v51z w52z H
   have hvc_q53z := Sl.cells (ownSl (H.get (k := 0) rfl))
   have hvo_q53z := Sl.oc (ownSl (H.get (k := 0) rfl))
   refine s_nil ⟨(H.pick [1, 4, 5, 6, 7, 8] (by decide) rfl), ?_⟩
   refine t_l rfl ?_
   refine t_app (α := Int) (k := 2) (l := l) (l2 := [(r2 : Int)]) (l' := l ++ ([(r2 : Int)])) (vy := v51z) T27 rfl H rfl rfl rfl (ownSl (H.get (k := 0) rfl)) (ownLe _ (H.get (k := 0) rfl)) (rfl) (by first | omega | (simp only [List.length_nil] at *; omega)) ?_
   intro v54z w55z H
   replace H : St w w55z [cOwn (α := Int) 3 v51z ([(r2 : Int)]), cBlk b_6 [I x3.lo, I x3.hi] 35, cOwn (α := Int) 3 v54z (l ++ ([(r2 : Int)])), cBlk b_2 [v_l] 27, cMk (D10z :: ([])), cBlk nb0_3 [I r00] 3, cBlk nb1_4 [I r10] 3, cBlk nb2_5 [.pointer (some ⟨b_k02, 0, none⟩)] 102, cBlk b_1 [.func (.func 91) #[] #[]] 113] R := H
   have hvc_q56z := Sl.cells (ownSl (H.get (k := 2) rfl))
   have hvo_q56z := Sl.oc (ownSl (H.get (k := 2) rfl))
   refine s_nil ⟨(H.pick [1, 4, 5, 6, 7, 8] (by decide) rfl), ?_⟩
   refine t_l rfl ?_
   refine t_st (k := 3) (b := b_2) (off := 0) (cs := [v_l]) (vs := [v54z]) (cs' := [v54z]) (v := v54z) (L' := [cOwn (α := Int) 3 v51z ([(r2 : Int)]), cBlk b_6 [I x3.lo, I x3.hi] 35, cOwn (α := Int) 3 v54z (l ++ ([(r2 : Int)])), cBlk b_2 [v54z] 27, cMk (D10z :: ([])), cBlk nb0_3 [I r00] 3, cBlk nb1_4 [I r10] 3, cBlk nb2_5 [.pointer (some ⟨b_k02, 0, none⟩)] 102, cBlk b_1 [.func (.func 91) #[] #[]] 113]) H rfl rfl rfl Sz27 (Sl.cells (ownSl (H.get (k := 2) rfl))) rfl rfl (by simp only [List.all_cons, List.all_nil, Bool.true_and, Bool.and_true, Sl.oc (ownSl (H.get (k := 2) rfl))]; try rfl) rfl rfl ?_
   intro w57z H
   refine s_nil ⟨(H.pick [1, 4, 5, 6, 7, 8] (by decide) rfl), ?_⟩
   refine t_nil ?_
   exact ⟨l ++ ([(r2 : Int)]), [cOwn (α := Int) 3 v54z (l ++ ([(r2 : Int)])), cBlk b_2 [v54z] 27], (M.e_pure hM).symm, ⟨v54z, rfl⟩, H.pick [2, 3, 4, 5, 6, 7, 8] (by decide) rfl⟩
  skip
  refine t_bs (α := Int) T27 [I r2] [(r2 : Int)] H rfl (.cons rfl (Flat.rep_enc _ (r2 : Int)) <| .nil) rfl rfl rfl ?_
  intro v58z w59z H
  have hvc_q60z := Sl.cells (ownSl (H.get (k := 0) rfl))
  have hvo_q60z := Sl.oc (ownSl (H.get (k := 0) rfl))
  refine s_nil ⟨(H.pick [1, 4, 5, 6, 7, 8] (by decide) rfl), ?_⟩
  refine t_l rfl ?_
  refine s_val (x_ld (p := .pointer (some ⟨b_2, 0, none⟩)) (v := v_l) rfl (ldb_sc Sc27 (H.blk (k := 3) rfl) rfl)) ?_
  refine s_nil ⟨(H.pick [1, 4, 5, 6, 7, 8] (by decide) rfl), ?_⟩
  refine t_l rfl ?_
  refine t_app (α := Int) (k := 2) (l := l) (l2 := [(r2 : Int)]) (l' := l ++ ([(r2 : Int)])) (vy := v58z) T27 rfl H rfl rfl rfl (ownSl (H.get (k := 0) rfl)) (ownLe _ (H.get (k := 0) rfl)) (rfl) (by first | omega | (simp only [List.length_nil] at *; omega)) ?_
  intro v61z w62z H
  replace H : St w w62z [cOwn (α := Int) 3 v58z ([(r2 : Int)]), cBlk b_6 [I x3.lo, I x3.hi] 35, cOwn (α := Int) 3 v61z (l ++ ([(r2 : Int)])), cBlk b_2 [v_l] 27, cMk (D10z :: ([])), cBlk nb0_3 [I r00] 3, cBlk nb1_4 [I r10] 3, cBlk nb2_5 [.pointer (some ⟨b_k02, 0, none⟩)] 102, cBlk b_1 [.func (.func 91) #[] #[]] 113] R := H
  have hvc_q63z := Sl.cells (ownSl (H.get (k := 2) rfl))
  have hvo_q63z := Sl.oc (ownSl (H.get (k := 2) rfl))
  refine s_nil ⟨(H.pick [1, 4, 5, 6, 7, 8] (by decide) rfl), ?_⟩
  refine t_l rfl ?_
  refine t_st (k := 3) (b := b_2) (off := 0) (cs := [v_l]) (vs := [v61z]) (cs' := [v61z]) (v := v61z) (L' := [cOwn (α := Int) 3 v58z ([(r2 : Int)]), cBlk b_6 [I x3.lo, I x3.hi] 35, cOwn (α := Int) 3 v61z (l ++ ([(r2 : Int)])), cBlk b_2 [v61z] 27, cMk (D10z :: ([])), cBlk nb0_3 [I r00] 3, cBlk nb1_4 [I r10] 3, cBlk nb2_5 [.pointer (some ⟨b_k02, 0, none⟩)] 102, cBlk b_1 [.func (.func 91) #[] #[]] 113]) H rfl rfl rfl Sz27 (Sl.cells (ownSl (H.get (k := 2) rfl))) rfl rfl (by simp only [List.all_cons, List.all_nil, Bool.true_and, Bool.and_true, Sl.oc (ownSl (H.get (k := 2) rfl))]; try rfl) rfl rfl ?_
  intro w64z H
  refine s_nil ⟨(H.pick [1, 4, 5, 6, 7, 8] (by decide) rfl), ?_⟩
  refine t_nil ?_
  exact ⟨l ++ ([(r2 : Int)]), [cOwn (α := Int) 3 v61z (l ++ ([(r2 : Int)])), cBlk b_2 [v61z] 27], (M.e_pure hM).symm, ⟨v61z, rfl⟩, H.pick [2, 3, 4, 5, 6, 7, 8] (by decide) rfl⟩
 replace H : St w w12z (cAll (cObj l9z (.loop r11z) :: [cOwn (α := Int) 3 (.slice none 0 0) ([]), cBlk b_2 [(.slice none 0 0)] 27]) :: [cMk (D10z :: ([])), cBlk nb0_3 [I r00] 3, cBlk nb1_4 [I r10] 3, cBlk nb2_5 [.pointer (some ⟨b_k02, 0, none⟩)] 102, cBlk b_1 [.func (.func 91) #[] #[]] 113]) R := St.bundleB (A := cObj l9z (.loop r11z) :: [cOwn (α := Int) 3 (.slice none 0 0) ([]), cBlk b_2 [(.slice none 0 0)] 27]) (T := [cMk (D10z :: ([])), cBlk nb0_3 [I r00] 3, cBlk nb1_4 [I r10] 3, cBlk nb2_5 [.pointer (some ⟨b_k02, 0, none⟩)] 102, cBlk b_1 [.func (.func 91) #[] #[]] 113]) rfl (H.pick [0, 2, 3, 1, 4, 5, 6, 7] (by decide) rfl)
 refine (zaS (M.yl zas) (.inl ([])) r00 r10 k020 k021 k022 k023 k024 hYC ⟨_, rfl, ⟨(.slice none 0 0), rfl⟩⟩ (Has.here (k := 1) rfl) (Has.here (k := 2) rfl) (hC_k020.app _) hs_k020 (hC_k021.app _) hs_k021 (h_b_k024.app _) (h_b_k02.app _) (Has.here (k := 3) rfl) hx8z _ (St.give (A := [cAll (cObj l9z (.loop r11z) :: [cOwn (α := Int) 3 (.slice none 0 0) ([]), cBlk b_2 [(.slice none 0 0)] 27])]) (T := [cMk (D10z :: ([])), cBlk nb0_3 [I r00] 3, cBlk nb1_4 [I r10] 3, cBlk nb2_5 [.pointer (some ⟨b_k02, 0, none⟩)] 102, cBlk b_1 [.func (.func 91) #[] #[]] 113]) H rfl)).mono ?_
 rintro vq w65z ⟨t69z, Ls67z, hq70z, hvq, H2_, hY68z⟩
 subst hq70z
 replace H := H.back H2_ rfl
 clear H2_ hYC
 rcases t69z with l | _
 ·try dsimp only at hM
  obtain ⟨_, rfl, v_l, rfl⟩ := hY68z
  refine ⟨_, [cOwn (α := Int) 3 v_l l, cBlk b_2 [v_l] 27, cBlk nb0_3 [I r00] 3, cBlk nb1_4 [I r10] 3, cBlk nb2_5 [.pointer (some ⟨b_k02, 0, none⟩)] 102, cBlk b_1 [.func (.func 91) #[] #[]] 113], H.unbundle.pick [0, 3, 1, 2, 4, 5, 6, 7] (by decide) rfl, hr13z.nb, ?_⟩
  intro w66z H
  rw [hr13z.pd]
  replace H : St w w66z [cMk (D10z :: ([])), cOwn (α := Int) 3 v_l l, cBlk b_2 [v_l] 27, cBlk nb0_3 [I r00] 3, cBlk nb1_4 [I r10] 3, cBlk nb2_5 [.pointer (some ⟨b_k02, 0, none⟩)] 102, cBlk b_1 [.func (.func 91) #[] #[]] 113] R := H
  try simp only []
  refine WD.seq ?_
  refine WD.of ?_
  refine W.region rfl ?_
  refine s_val (x_ld (p := .pointer (some ⟨b_2, 0, none⟩)) (v := v_l) rfl (ldb_sc Sc27 (H.blk (k := 2) rfl) rfl)) ?_
  obtain ⟨sd72z, hM⟩ := M.e_grd hM
  simp only [Bool.and_eq_true, decide_eq_true_eq] at sd72z
  refine s_call cf59 [v_l] rfl (sort_any (H.get (k := 1) rfl) (by omega)) ?_
  rintro _ w71z ⟨rfl, ho_, kp_, hs_⟩
  replace H : St w w71z [cMk (D10z :: ([])), cOwn (α := Int) 3 v_l (isort l), cBlk b_2 [v_l] 27, cBlk nb0_3 [I r00] 3, cBlk nb1_4 [I r10] 3, cBlk nb2_5 [.pointer (some ⟨b_k02, 0, none⟩)] 102, cBlk b_1 [.func (.func 91) #[] #[]] 113] R := H.sorted (k := 1) rfl ho_ kp_ hs_ rfl
  clear ho_ kp_ hs_
  refine s_nil ?_
  refine WD.seq ?_
  refine WD.of ?_
  refine W.region rfl ?_
  refine s_val (x_ld (p := .pointer (some ⟨b_2, 0, none⟩)) (v := v_l) rfl (ldb_sc Sc27 (H.blk (k := 2) rfl) rfl)) ?_
  refine s_val (x_ld (p := .pointer (some ⟨b_2, 0, none⟩)) (v := v_l) rfl (ldb_sc Sc27 (H.blk (k := 2) rfl) rfl)) ?_
  have hl73z := ((ownSl (H.get (k := 1) rfl))).len_le
  refine s_val (x_lenS T27.und rfl (ownSl (H.get (k := 1) rfl))) ?_
  refine s_val (x_ld (p := .pointer (some ⟨b_k3, 0, none⟩)) (v := I k32) rfl (ldb_sc Sc3 (h_b_k3.blk H) rfl)) ?_
  obtain ⟨sd74z, hM⟩ := M.e_grd hM
  simp only [Bool.and_eq_true, decide_eq_true_eq] at sd74z
  refine s_val (x_ari (a := ((isort l).length : Int)) (b := k32) (r := ((isort l).length : Int) - k32) rfl rfl rfl (by omega)) ?_
  obtain ⟨sd75z, hM⟩ := M.e_grd hM
  simp only [Bool.and_eq_true, decide_eq_true_eq] at sd75z
  refine s_val (x_ix (a := v_l) (b := I (((isort l).length : Int) - k32)) (v := vat v_l 1 (Int.toNat (((isort l).length : Int) - k32))) rfl rfl (Sl.ix (α := Int) T27.und T27.size (ownSl (H.get (k := 1) rfl)) (by omega) (by omega))) ?_
  refine s_val (x_ld (p := vat v_l 1 (Int.toNat (((isort l).length : Int) - k32))) (v := I ((isort l).getD (Int.toNat (((isort l).length : Int) - k32)) 0)) rfl (ld_sc Sc3 (At.mono (Int_at (ownSl (H.get (k := 1) rfl)) (i := ((isort l).length : Int) - k32) (by omega) (by omega)) (ownLe _ (H.get (k := 1) rfl))))) ?_
  refine s_val (x_as (v := I ((isort l).getD (Int.toNat (((isort l).length : Int) - k32)) 0)) rfl) ?_
  refine s_nil ?_
  refine WD.of ?_
  refine W.ret ?_
  refine bodyD_r (H.pick [0, 1, 2, 3, 4, 5, 6] (by decide) rfl) ?_
  intro w76z H
  replace H : St w w76z [cOwn (α := Int) 3 v_l (isort l), cBlk b_2 [v_l] 27, cBlk nb0_3 [I r00] 3, cBlk nb1_4 [I r10] 3, cBlk nb2_5 [.pointer (some ⟨b_k02, 0, none⟩)] 102, cBlk b_1 [.func (.func 91) #[] #[]] 113] R := H
  have hr_ := M.e_pure hM
  exact ⟨_, resE_tmp rfl, ⟨((isort l).getD (Int.toNat (((isort l).length : Int) - k32)) 0), hr_, rfl, (H.pick [] (by decide) rfl)⟩⟩
 obtain ⟨_, _, h_⟩ := hY68z; exact h_.elim

def zaB : (List Int) -> (Int × Span) -> M ((List Int) ⊕ Unit) := fun l (x2, x3) =>
  M.bind (zaX x3) fun r2 =>
  M.grd (decide ((l.length + ([(r2 : Int)]).length) * 8 <= 140737488355328)) <|
  M.pure (.inl (l ++ ([(r2 : Int)])))
def zbm (k020 : List Yr) (k021 : List Old10) (k022 : Int) (k023 : Int) (k024 : List (Int × Span)) (k12 : Int) (k22 : Int) (k32 : Int) : M Int :=
  M.bind (zai k020 k021 k022 k023 k024 k12 k22) fun (r00, r10) =>
  M.bind (zak (M.yl zaB) (.inl ([])) r00 r10 k020 k021 k022 k023 k024) fun x_ => match x_ with
  | .inl l => (
  M.grd (decide (l.length <= 1000000)) <|
  M.grd (decide ((-9223372036854775808 : Int) <= (((isort l).length : Int) - k32)) && decide ((((isort l).length : Int) - k32) <= (9223372036854775807 : Int))) <|
  M.grd (decide ((0 : Int) <= (((isort l).length : Int) - k32)) && decide ((((isort l).length : Int) - k32) < ((isort l).length : Int))) <|
  M.pure ((isort l).getD (Int.toNat (((isort l).length : Int) - k32)) 0))
  | .inr _ => M.fail
theorem zcC {R : List Chunk} {b_k0 : Nat} {b_k02 : Nat} {C_k020 : Cells} {v_k020 : Value} {C_k021 : Cells} {v_k021 : Value} {b_k024 : Nat} {b_k1 : Nat} {b_k2 : Nat} {b_k3 : Nat} (k020 : List Yr) (k021 : List Old10) (k022 : Int) (k023 : Int) (k024 : List (Int × Span)) (k12 : Int) (k22 : Int) (k32 : Int) (hC_k020 : Reads R C_k020) (hs_k020 : Sl C_k020 v_k020 k020) (hC_k021 : Reads R C_k021) (hs_k021 : Sl C_k021 v_k021 k021) (h_b_k024 : Has R (cMl I encSp b_k024 k024)) (h_b_k02 : Has R (cBlk b_k02 [v_k020, v_k021, I k022, I k023, .map (some b_k024)] 126)) (h_b_k0 : Has R (cBlk b_k0 [.pointer (some ⟨b_k02, 0, none⟩)] 102)) (h_b_k1 : Has R (cBlk b_k1 [I k12] 3)) (h_b_k2 : Has R (cBlk b_k2 [I k22] 3)) (h_b_k3 : Has R (cBlk b_k3 [I k32] 3)) {r : Int} (hM : (zbm k020 k021 k022 k023 k024 k12 k22 k32).Ends r) (w : World) (H : St w w [] R) : Ret Try.prog 58 #[.agg #[.func (.func 92) #[] #[]], .pointer (some ⟨b_k0, 0, none⟩), .pointer (some ⟨b_k1, 0, none⟩), .pointer (some ⟨b_k2, 0, none⟩), .pointer (some ⟨b_k3, 0, none⟩)] w fun v w' => ∃ (y0 : Int), y0 = r /\ v = I y0 /\ St w w' [] R := by
 refine ret_of_WD Try.func58 rfl rfl rfl ?_
 replace H : St w w [cMk ([])] R := H.mk0
 have hl_k020 := hs_k020.len_le
 have hl_k021 := hs_k021.len_le
 unfold zbm at hM
 refine WD.seq ?_
 refine WD.of ?_
 refine W.region rfl ?_
 refine t_box (v := .agg #[.func (.func 92) #[] #[]]) (cs := [.func (.func 92) #[] #[]]) H rfl rfl ?_
 intro b_1 w1z H
 refine s_val (x_as (v := I 0) rfl) ?_
 refine s_nil ?_
 refine WD.seq ?_
 refine WD.of ?_
 refine W.region rfl ?_
 refine t_alloc (cs := [.slice none 0 0]) H Al27 rfl ?_
 intro b_2 w2z H
 refine s_nil ?_
 refine WD.seq ?_
 refine WD.seq ?_
 refine WD.of ?_
 refine W.region rfl ?_
 refine s_val (x_ld (p := .pointer (some ⟨b_k0, 0, none⟩)) (v := .pointer (some ⟨b_k02, 0, none⟩)) rfl (ldb_sc Sc102 (h_b_k0.blk H) rfl)) ?_
 refine s_val (x_ld (p := .pointer (some ⟨b_k1, 0, none⟩)) (v := I k12) rfl (ldb_sc Sc3 (h_b_k1.blk H) rfl)) ?_
 refine s_val (x_ld (p := .pointer (some ⟨b_k2, 0, none⟩)) (v := I k22) rfl (ldb_sc Sc3 (h_b_k2.blk H) rfl)) ?_
 obtain ⟨r4z, hx3z, hM⟩ := M.e_bind hM
 refine s_call cf54 [.pointer (some ⟨b_k02, 0, none⟩), I k12, I k22] rfl (za3 k020 k021 k022 k023 k024 k12 k22 (hC_k020.app _) hs_k020 (hC_k021.app _) hs_k021 (h_b_k024.app _) (h_b_k02.app _) hx3z _ (St.give (T := [cBlk b_2 [.slice none 0 0] 27, cBlk b_1 [.func (.func 92) #[] #[]] 113, cMk ([])]) H rfl)) ?_
 rintro vq w5z ⟨r00, r10, nb0_3, nb1_4, nb2_5, hr6z, hvq, H2_⟩
 subst hr6z
 subst vq
 try dsimp only at hM
 replace H : St w w5z [cBlk nb0_3 [I r00] 3, cBlk nb1_4 [I r10] 3, cBlk nb2_5 [.pointer (some ⟨b_k02, 0, none⟩)] 102, cBlk b_2 [.slice none 0 0] 27, cBlk b_1 [.func (.func 92) #[] #[]] 113, cMk ([])] R := H.back H2_ rfl
 clear H2_
 refine s_nil ?_
 refine WD.block ?_
 replace H : St w w5z [cOwn (α := Int) 3 (.slice none 0 0) ([]), cBlk nb0_3 [I r00] 3, cBlk nb1_4 [I r10] 3, cBlk nb2_5 [.pointer (some ⟨b_k02, 0, none⟩)] 102, cBlk b_2 [.slice none 0 0] 27, cBlk b_1 [.func (.func 92) #[] #[]] 113, cMk ([])] R := H.nilOwn (α := Int) 3
 obtain ⟨t7z, hx8z, hM⟩ := M.e_bind hM
 refine WD.range (L := [cOwn (α := Int) 3 (.slice none 0 0) ([]), cBlk b_2 [(.slice none 0 0)] 27, cBlk nb0_3 [I r00] 3, cBlk nb1_4 [I r10] 3, cBlk nb2_5 [.pointer (some ⟨b_k02, 0, none⟩)] 102, cBlk b_1 [.func (.func 92) #[] #[]] 113]) [.pointer (some ⟨nb0_3, 0, none⟩), .pointer (some ⟨nb1_4, 0, none⟩), .pointer (some ⟨nb2_5, 0, none⟩)] (H.pick [6, 0, 4, 1, 2, 3, 5] (by decide) rfl) rfl cf90 ?_
 intro l9z D10z r11z w12z hr13z H
 have hYC : YieldC Try.prog ([cMk (D10z :: ([])), cBlk nb0_3 [I r00] 3, cBlk nb1_4 [I r10] 3, cBlk nb2_5 [.pointer (some ⟨b_k02, 0, none⟩)] 102, cBlk b_1 [.func (.func 92) #[] #[]] 113] ++ R) arISpan (yJ l9z r11z (fun l Ls_ => ∃ (v_l : Value), Ls_ = [cOwn (α := Int) 3 v_l l, cBlk b_2 [v_l] 27]) (fun (_ : Unit) _ => False) (fun _ => .ret)) (.func (.yield l9z) #[] #[]) (M.yl zaB) := by
  refine YieldC.mk2 hr13z (fun l Ls_ => ∃ (v_l : Value), Ls_ = [cOwn (α := Int) 3 v_l l, cBlk b_2 [v_l] 27]) (fun (_ : Unit) _ => False) (fun _ => .ret) zaB (by rintro l _ h_; obtain ⟨_, rfl⟩ := h_; rfl) (fun _ _ h_ => h_.elim) rfl (arISpan_len rfl) ?_
  intro C_ vs_ x_ hA_
  obtain ⟨x2, x3⟩ := x_
  obtain rfl := hA_
  intro w R hR_ Ls_ s_ r hY_ hM H
  skip
  obtain ⟨l, hs_eq_⟩ : ∃ y_, y_ = s_ := ⟨_, rfl⟩
  subst hs_eq_
  obtain ⟨v_l, rfl⟩ := hY_
  replace H : St w w [cOwn (α := Int) 3 v_l l, cBlk b_2 [v_l] 27, cMk (D10z :: ([])), cBlk nb0_3 [I r00] 3, cBlk nb1_4 [I r10] 3, cBlk nb2_5 [.pointer (some ⟨b_k02, 0, none⟩)] 102, cBlk b_1 [.func (.func 92) #[] #[]] 113] R := H
  refine W.region rfl ?_
  refine t_alloc (cs := [I 0, I 0]) H Al35 rfl ?_
  intro b_6 w14z H
  refine t_st (k := 0) (b := b_6) (off := 0) (cs := [I 0, I 0]) (vs := [I x3.lo, I x3.hi]) (cs' := [I x3.lo, I x3.hi]) (v := .agg #[I x3.lo, I x3.hi]) (L' := [cBlk b_6 [I x3.lo, I x3.hi] 35, cOwn (α := Int) 3 v_l l, cBlk b_2 [v_l] 27, cMk (D10z :: ([])), cBlk nb0_3 [I r00] 3, cBlk nb1_4 [I r10] 3, cBlk nb2_5 [.pointer (some ⟨b_k02, 0, none⟩)] 102, cBlk b_1 [.func (.func 92) #[] #[]] 113]) H rfl rfl rfl Sz35 rfl rfl rfl rfl rfl rfl ?_
  intro w15z H
  refine s_nil ?_
  refine ⟨rfl, [cBlk b_6 [I x3.lo, I x3.hi] 35], H.pick [0, 1, 2, 3, 4, 5, 6, 7] (by decide) rfl, ?_⟩
  clear H hR_
  intro w R hR_ H
  replace hC_k020 := hC_k020.sub hR_
  replace hC_k021 := hC_k021.sub hR_
  replace h_b_k024 := h_b_k024.sub hR_
  replace h_b_k02 := h_b_k02.sub hR_
  replace h_b_k0 := h_b_k0.sub hR_
  replace h_b_k1 := h_b_k1.sub hR_
  replace h_b_k2 := h_b_k2.sub hR_
  replace h_b_k3 := h_b_k3.sub hR_
  replace hM : (zaB l (x2, x3)).Ends r := hM
  simp only [zaB] at hM
  replace H : St w w [cBlk b_6 [I x3.lo, I x3.hi] 35, cOwn (α := Int) 3 v_l l, cBlk b_2 [v_l] 27, cMk (D10z :: ([])), cBlk nb0_3 [I r00] 3, cBlk nb1_4 [I r10] 3, cBlk nb2_5 [.pointer (some ⟨b_k02, 0, none⟩)] 102, cBlk b_1 [.func (.func 92) #[] #[]] 113] R := H
  refine W.block ?_
  refine W.drawT (fun W => St w W [cBlk b_6 [I x3.lo, I x3.hi] 35, cMk (D10z :: ([])), cBlk nb0_3 [I r00] 3, cBlk nb1_4 [I r10] 3, cBlk nb2_5 [.pointer (some ⟨b_k02, 0, none⟩)] 102, cBlk b_1 [.func (.func 92) #[] #[]] 113] R) (.q 1 (.q 2 (.q 3 (.l2 0 (.l 4 (.l 5 (.l 6 (.l 7 .nil)))) 4 (.l2 0 (.l 5 (.l 6 (.l 7 .nil))) 5 (.l 0 (.l 6 (.l 7 .nil)))))))) mixed (by decide +kernel) rfl ?_
  intro w16z hx_
  replace H : St w w16z [cBlk b_6 [I x3.lo, I x3.hi] 35, cOwn (α := Int) 3 v_l l, cBlk b_2 [v_l] 27, cMk (D10z :: ([])), cBlk nb0_3 [I r00] 3, cBlk nb1_4 [I r10] 3, cBlk nb2_5 [.pointer (some ⟨b_k02, 0, none⟩)] 102, cBlk b_1 [.func (.func 92) #[] #[]] 113] R := H.ext hx_
  clear hx_
  refine ⟨(H.pick [0, 3, 4, 5, 6, 7] (by decide) rfl), ?_⟩
  refine t_q rfl (fun w' H => x_fa (a := .pointer (some ⟨b_1, 0, none⟩)) (v := .pointer (some ⟨b_1, 0, none⟩)) rfl (fa_blk (o := 0) Fd113_0 Sz111)) ?_
  refine t_q rfl (fun w' H => x_ld (p := .pointer (some ⟨b_1, 0, none⟩)) (v := .func (.func 92) #[] #[]) rfl (ldb_sc Sc111 (H.blk (k := 5) rfl) rfl)) ?_
  refine t_q rfl (fun w' H => x_ld (p := .pointer (some ⟨b_6, 0, none⟩)) (v := .agg #[I x3.lo, I x3.hi]) rfl (ldb_ag (ds := [I x3.lo, I x3.hi]) Ag35 Sz35 (H.blk (k := 0) rfl) rfl rfl)) ?_
  refine t_l2 rfl rfl ?_ ?_
  ·skip
   refine s_val (x_ld (p := .pointer (some ⟨b_2, 0, none⟩)) (v := v_l) rfl (ldb_sc Sc27 (H.blk (k := 2) rfl) rfl)) ?_
   have hvc_q27z := Sl.cells (ownSl (H.get (k := 1) rfl))
   have hvo_q27z := Sl.oc (ownSl (H.get (k := 1) rfl))
   refine s_nil ⟨(H.pick [0, 3, 4, 5, 6, 7] (by decide) rfl), ?_⟩
   refine t_l rfl ?_
   obtain ⟨r29z, hx28z, hM⟩ := M.e_bind hM
   refine s_callv (f := 92) rfl cf92 [.agg #[I x3.lo, I x3.hi]] rfl (za5 x3 hx28z _ (St.give (T := [cBlk b_6 [I x3.lo, I x3.hi] 35, cOwn (α := Int) 3 v_l l, cBlk b_2 [v_l] 27, cMk (D10z :: ([])), cBlk nb0_3 [I r00] 3, cBlk nb1_4 [I r10] 3, cBlk nb2_5 [.pointer (some ⟨b_k02, 0, none⟩)] 102, cBlk b_1 [.func (.func 92) #[] #[]] 113]) H rfl)) ?_
   rintro vq w30z ⟨r2, hr31z, hvq, H2_⟩
   subst hr31z
   subst vq
   try dsimp only at hM
   replace H : St w w30z [cBlk b_6 [I x3.lo, I x3.hi] 35, cOwn (α := Int) 3 v_l l, cBlk b_2 [v_l] 27, cMk (D10z :: ([])), cBlk nb0_3 [I r00] 3, cBlk nb1_4 [I r10] 3, cBlk nb2_5 [.pointer (some ⟨b_k02, 0, none⟩)] 102, cBlk b_1 [.func (.func 92) #[] #[]] 113] R := H.back H2_ rfl
   clear H2_
   refine s_nil ⟨(H.pick [0, 3, 4, 5, 6, 7] (by decide) rfl), ?_⟩
   refine t_l rfl ?_
   refine t_bs (α := Int) T27 [I r2] [(r2 : Int)] H rfl (.cons rfl (Flat.rep_enc _ (r2 : Int)) <| .nil) rfl rfl rfl ?_
   intro v32z w33z H
   have hvc_q34z := Sl.cells (ownSl (H.get (k := 0) rfl))
   have hvo_q34z := Sl.oc (ownSl (H.get (k := 0) rfl))
   refine s_nil ⟨(H.pick [1, 4, 5, 6, 7, 8] (by decide) rfl), ?_⟩
   refine t_l rfl ?_
   obtain ⟨sd35z, hM⟩ := M.e_grd hM
   simp only [Bool.and_eq_true, decide_eq_true_eq] at sd35z
   refine t_app (α := Int) (k := 2) (l := l) (l2 := [(r2 : Int)]) (l' := l ++ ([(r2 : Int)])) (vy := v32z) T27 rfl H rfl rfl rfl (ownSl (H.get (k := 0) rfl)) (ownLe _ (H.get (k := 0) rfl)) (rfl) (by first | omega | (simp only [List.length_nil] at *; omega)) ?_
   intro v36z w37z H
   replace H : St w w37z [cOwn (α := Int) 3 v32z ([(r2 : Int)]), cBlk b_6 [I x3.lo, I x3.hi] 35, cOwn (α := Int) 3 v36z (l ++ ([(r2 : Int)])), cBlk b_2 [v_l] 27, cMk (D10z :: ([])), cBlk nb0_3 [I r00] 3, cBlk nb1_4 [I r10] 3, cBlk nb2_5 [.pointer (some ⟨b_k02, 0, none⟩)] 102, cBlk b_1 [.func (.func 92) #[] #[]] 113] R := H
   have hvc_q38z := Sl.cells (ownSl (H.get (k := 2) rfl))
   have hvo_q38z := Sl.oc (ownSl (H.get (k := 2) rfl))
   refine s_nil ⟨(H.pick [1, 4, 5, 6, 7, 8] (by decide) rfl), ?_⟩
   refine t_l rfl ?_
   refine t_st (k := 3) (b := b_2) (off := 0) (cs := [v_l]) (vs := [v36z]) (cs' := [v36z]) (v := v36z) (L' := [cOwn (α := Int) 3 v32z ([(r2 : Int)]), cBlk b_6 [I x3.lo, I x3.hi] 35, cOwn (α := Int) 3 v36z (l ++ ([(r2 : Int)])), cBlk b_2 [v36z] 27, cMk (D10z :: ([])), cBlk nb0_3 [I r00] 3, cBlk nb1_4 [I r10] 3, cBlk nb2_5 [.pointer (some ⟨b_k02, 0, none⟩)] 102, cBlk b_1 [.func (.func 92) #[] #[]] 113]) H rfl rfl rfl Sz27 (Sl.cells (ownSl (H.get (k := 2) rfl))) rfl rfl (by simp only [List.all_cons, List.all_nil, Bool.true_and, Bool.and_true, Sl.oc (ownSl (H.get (k := 2) rfl))]; try rfl) rfl rfl ?_
   intro w39z H
   refine s_nil ⟨(H.pick [1, 4, 5, 6, 7, 8] (by decide) rfl), ?_⟩
   refine t_nil ?_
   exact ⟨l ++ ([(r2 : Int)]), [cOwn (α := Int) 3 v36z (l ++ ([(r2 : Int)])), cBlk b_2 [v36z] 27], (M.e_pure hM).symm, ⟨v36z, rfl⟩, H.pick [2, 3, 4, 5, 6, 7, 8] (by decide) rfl⟩
  skip
  obtain ⟨r41z, hx40z, hM⟩ := M.e_bind hM
  refine s_callv (f := 92) rfl cf92 [.agg #[I x3.lo, I x3.hi]] rfl (za5 x3 hx40z _ (St.give (T := [cBlk b_6 [I x3.lo, I x3.hi] 35, cOwn (α := Int) 3 v_l l, cBlk b_2 [v_l] 27, cMk (D10z :: ([])), cBlk nb0_3 [I r00] 3, cBlk nb1_4 [I r10] 3, cBlk nb2_5 [.pointer (some ⟨b_k02, 0, none⟩)] 102, cBlk b_1 [.func (.func 92) #[] #[]] 113]) H rfl)) ?_
  rintro vq w42z ⟨r2, hr43z, hvq, H2_⟩
  subst hr43z
  subst vq
  try dsimp only at hM
  replace H : St w w42z [cBlk b_6 [I x3.lo, I x3.hi] 35, cOwn (α := Int) 3 v_l l, cBlk b_2 [v_l] 27, cMk (D10z :: ([])), cBlk nb0_3 [I r00] 3, cBlk nb1_4 [I r10] 3, cBlk nb2_5 [.pointer (some ⟨b_k02, 0, none⟩)] 102, cBlk b_1 [.func (.func 92) #[] #[]] 113] R := H.back H2_ rfl
  clear H2_
  have hvc_q44z := Sl.cells (ownSl (H.get (k := 1) rfl))
  have hvo_q44z := Sl.oc (ownSl (H.get (k := 1) rfl))
  refine s_nil ⟨(H.pick [0, 3, 4, 5, 6, 7] (by decide) rfl), ?_⟩
  obtain ⟨sd47z, hM⟩ := M.e_grd hM
  simp only [Bool.and_eq_true, decide_eq_true_eq] at sd47z
  refine t_l2 rfl rfl ?_ ?_
  ·skip
   refine s_val (x_ld (p := .pointer (some ⟨b_2, 0, none⟩)) (v := v_l) rfl (ldb_sc Sc27 (H.blk (k := 2) rfl) rfl)) ?_
   refine s_nil ⟨(H.pick [0, 3, 4, 5, 6, 7] (by decide) rfl), ?_⟩
   refine t_l rfl ?_
   refine t_bs (α := Int) T27 [I r2] [(r2 : Int)] H rfl (.cons rfl (Flat.rep_enc _ (r2 : Int)) <| .nil) rfl rfl rfl ?_
   intro v51z w52z H
   have hvc_q53z := Sl.cells (ownSl (H.get (k := 0) rfl))
   have hvo_q53z := Sl.oc (ownSl (H.get (k := 0) rfl))
   refine s_nil ⟨(H.pick [1, 4, 5, 6, 7, 8] (by decide) rfl), ?_⟩
   refine t_l rfl ?_
   refine t_app (α := Int) (k := 2) (l := l) (l2 := [(r2 : Int)]) (l' := l ++ ([(r2 : Int)])) (vy := v51z) T27 rfl H rfl rfl rfl (ownSl (H.get (k := 0) rfl)) (ownLe _ (H.get (k := 0) rfl)) (rfl) (by first | omega | (simp only [List.length_nil] at *; omega)) ?_
   intro v54z w55z H
   replace H : St w w55z [cOwn (α := Int) 3 v51z ([(r2 : Int)]), cBlk b_6 [I x3.lo, I x3.hi] 35, cOwn (α := Int) 3 v54z (l ++ ([(r2 : Int)])), cBlk b_2 [v_l] 27, cMk (D10z :: ([])), cBlk nb0_3 [I r00] 3, cBlk nb1_4 [I r10] 3, cBlk nb2_5 [.pointer (some ⟨b_k02, 0, none⟩)] 102, cBlk b_1 [.func (.func 92) #[] #[]] 113] R := H
   have hvc_q56z := Sl.cells (ownSl (H.get (k := 2) rfl))
   have hvo_q56z := Sl.oc (ownSl (H.get (k := 2) rfl))
   refine s_nil ⟨(H.pick [1, 4, 5, 6, 7, 8] (by decide) rfl), ?_⟩
   refine t_l rfl ?_
   refine t_st (k := 3) (b := b_2) (off := 0) (cs := [v_l]) (vs := [v54z]) (cs' := [v54z]) (v := v54z) (L' := [cOwn (α := Int) 3 v51z ([(r2 : Int)]), cBlk b_6 [I x3.lo, I x3.hi] 35, cOwn (α := Int) 3 v54z (l ++ ([(r2 : Int)])), cBlk b_2 [v54z] 27, cMk (D10z :: ([])), cBlk nb0_3 [I r00] 3, cBlk nb1_4 [I r10] 3, cBlk nb2_5 [.pointer (some ⟨b_k02, 0, none⟩)] 102, cBlk b_1 [.func (.func 92) #[] #[]] 113]) H rfl rfl rfl Sz27 (Sl.cells (ownSl (H.get (k := 2) rfl))) rfl rfl (by simp only [List.all_cons, List.all_nil, Bool.true_and, Bool.and_true, Sl.oc (ownSl (H.get (k := 2) rfl))]; try rfl) rfl rfl ?_
   intro w57z H
   refine s_nil ⟨(H.pick [1, 4, 5, 6, 7, 8] (by decide) rfl), ?_⟩
   refine t_nil ?_
   exact ⟨l ++ ([(r2 : Int)]), [cOwn (α := Int) 3 v54z (l ++ ([(r2 : Int)])), cBlk b_2 [v54z] 27], (M.e_pure hM).symm, ⟨v54z, rfl⟩, H.pick [2, 3, 4, 5, 6, 7, 8] (by decide) rfl⟩
  skip
  refine t_bs (α := Int) T27 [I r2] [(r2 : Int)] H rfl (.cons rfl (Flat.rep_enc _ (r2 : Int)) <| .nil) rfl rfl rfl ?_
  intro v58z w59z H
  have hvc_q60z := Sl.cells (ownSl (H.get (k := 0) rfl))
  have hvo_q60z := Sl.oc (ownSl (H.get (k := 0) rfl))
  refine s_nil ⟨(H.pick [1, 4, 5, 6, 7, 8] (by decide) rfl), ?_⟩
  refine t_l rfl ?_
  refine s_val (x_ld (p := .pointer (some ⟨b_2, 0, none⟩)) (v := v_l) rfl (ldb_sc Sc27 (H.blk (k := 3) rfl) rfl)) ?_
  refine s_nil ⟨(H.pick [1, 4, 5, 6, 7, 8] (by decide) rfl), ?_⟩
  refine t_l rfl ?_
  refine t_app (α := Int) (k := 2) (l := l) (l2 := [(r2 : Int)]) (l' := l ++ ([(r2 : Int)])) (vy := v58z) T27 rfl H rfl rfl rfl (ownSl (H.get (k := 0) rfl)) (ownLe _ (H.get (k := 0) rfl)) (rfl) (by first | omega | (simp only [List.length_nil] at *; omega)) ?_
  intro v61z w62z H
  replace H : St w w62z [cOwn (α := Int) 3 v58z ([(r2 : Int)]), cBlk b_6 [I x3.lo, I x3.hi] 35, cOwn (α := Int) 3 v61z (l ++ ([(r2 : Int)])), cBlk b_2 [v_l] 27, cMk (D10z :: ([])), cBlk nb0_3 [I r00] 3, cBlk nb1_4 [I r10] 3, cBlk nb2_5 [.pointer (some ⟨b_k02, 0, none⟩)] 102, cBlk b_1 [.func (.func 92) #[] #[]] 113] R := H
  have hvc_q63z := Sl.cells (ownSl (H.get (k := 2) rfl))
  have hvo_q63z := Sl.oc (ownSl (H.get (k := 2) rfl))
  refine s_nil ⟨(H.pick [1, 4, 5, 6, 7, 8] (by decide) rfl), ?_⟩
  refine t_l rfl ?_
  refine t_st (k := 3) (b := b_2) (off := 0) (cs := [v_l]) (vs := [v61z]) (cs' := [v61z]) (v := v61z) (L' := [cOwn (α := Int) 3 v58z ([(r2 : Int)]), cBlk b_6 [I x3.lo, I x3.hi] 35, cOwn (α := Int) 3 v61z (l ++ ([(r2 : Int)])), cBlk b_2 [v61z] 27, cMk (D10z :: ([])), cBlk nb0_3 [I r00] 3, cBlk nb1_4 [I r10] 3, cBlk nb2_5 [.pointer (some ⟨b_k02, 0, none⟩)] 102, cBlk b_1 [.func (.func 92) #[] #[]] 113]) H rfl rfl rfl Sz27 (Sl.cells (ownSl (H.get (k := 2) rfl))) rfl rfl (by simp only [List.all_cons, List.all_nil, Bool.true_and, Bool.and_true, Sl.oc (ownSl (H.get (k := 2) rfl))]; try rfl) rfl rfl ?_
  intro w64z H
  refine s_nil ⟨(H.pick [1, 4, 5, 6, 7, 8] (by decide) rfl), ?_⟩
  refine t_nil ?_
  exact ⟨l ++ ([(r2 : Int)]), [cOwn (α := Int) 3 v61z (l ++ ([(r2 : Int)])), cBlk b_2 [v61z] 27], (M.e_pure hM).symm, ⟨v61z, rfl⟩, H.pick [2, 3, 4, 5, 6, 7, 8] (by decide) rfl⟩
 replace H : St w w12z (cAll (cObj l9z (.loop r11z) :: [cOwn (α := Int) 3 (.slice none 0 0) ([]), cBlk b_2 [(.slice none 0 0)] 27]) :: [cMk (D10z :: ([])), cBlk nb0_3 [I r00] 3, cBlk nb1_4 [I r10] 3, cBlk nb2_5 [.pointer (some ⟨b_k02, 0, none⟩)] 102, cBlk b_1 [.func (.func 92) #[] #[]] 113]) R := St.bundleB (A := cObj l9z (.loop r11z) :: [cOwn (α := Int) 3 (.slice none 0 0) ([]), cBlk b_2 [(.slice none 0 0)] 27]) (T := [cMk (D10z :: ([])), cBlk nb0_3 [I r00] 3, cBlk nb1_4 [I r10] 3, cBlk nb2_5 [.pointer (some ⟨b_k02, 0, none⟩)] 102, cBlk b_1 [.func (.func 92) #[] #[]] 113]) rfl (H.pick [0, 2, 3, 1, 4, 5, 6, 7] (by decide) rfl)
 refine (zaS (M.yl zaB) (.inl ([])) r00 r10 k020 k021 k022 k023 k024 hYC ⟨_, rfl, ⟨(.slice none 0 0), rfl⟩⟩ (Has.here (k := 1) rfl) (Has.here (k := 2) rfl) (hC_k020.app _) hs_k020 (hC_k021.app _) hs_k021 (h_b_k024.app _) (h_b_k02.app _) (Has.here (k := 3) rfl) hx8z _ (St.give (A := [cAll (cObj l9z (.loop r11z) :: [cOwn (α := Int) 3 (.slice none 0 0) ([]), cBlk b_2 [(.slice none 0 0)] 27])]) (T := [cMk (D10z :: ([])), cBlk nb0_3 [I r00] 3, cBlk nb1_4 [I r10] 3, cBlk nb2_5 [.pointer (some ⟨b_k02, 0, none⟩)] 102, cBlk b_1 [.func (.func 92) #[] #[]] 113]) H rfl)).mono ?_
 rintro vq w65z ⟨t69z, Ls67z, hq70z, hvq, H2_, hY68z⟩
 subst hq70z
 replace H := H.back H2_ rfl
 clear H2_ hYC
 rcases t69z with l | _
 ·try dsimp only at hM
  obtain ⟨_, rfl, v_l, rfl⟩ := hY68z
  refine ⟨_, [cOwn (α := Int) 3 v_l l, cBlk b_2 [v_l] 27, cBlk nb0_3 [I r00] 3, cBlk nb1_4 [I r10] 3, cBlk nb2_5 [.pointer (some ⟨b_k02, 0, none⟩)] 102, cBlk b_1 [.func (.func 92) #[] #[]] 113], H.unbundle.pick [0, 3, 1, 2, 4, 5, 6, 7] (by decide) rfl, hr13z.nb, ?_⟩
  intro w66z H
  rw [hr13z.pd]
  replace H : St w w66z [cMk (D10z :: ([])), cOwn (α := Int) 3 v_l l, cBlk b_2 [v_l] 27, cBlk nb0_3 [I r00] 3, cBlk nb1_4 [I r10] 3, cBlk nb2_5 [.pointer (some ⟨b_k02, 0, none⟩)] 102, cBlk b_1 [.func (.func 92) #[] #[]] 113] R := H
  try simp only []
  refine WD.seq ?_
  refine WD.of ?_
  refine W.region rfl ?_
  refine s_val (x_ld (p := .pointer (some ⟨b_2, 0, none⟩)) (v := v_l) rfl (ldb_sc Sc27 (H.blk (k := 2) rfl) rfl)) ?_
  obtain ⟨sd72z, hM⟩ := M.e_grd hM
  simp only [Bool.and_eq_true, decide_eq_true_eq] at sd72z
  refine s_call cf59 [v_l] rfl (sort_any (H.get (k := 1) rfl) (by omega)) ?_
  rintro _ w71z ⟨rfl, ho_, kp_, hs_⟩
  replace H : St w w71z [cMk (D10z :: ([])), cOwn (α := Int) 3 v_l (isort l), cBlk b_2 [v_l] 27, cBlk nb0_3 [I r00] 3, cBlk nb1_4 [I r10] 3, cBlk nb2_5 [.pointer (some ⟨b_k02, 0, none⟩)] 102, cBlk b_1 [.func (.func 92) #[] #[]] 113] R := H.sorted (k := 1) rfl ho_ kp_ hs_ rfl
  clear ho_ kp_ hs_
  refine s_nil ?_
  refine WD.seq ?_
  refine WD.of ?_
  refine W.region rfl ?_
  refine s_val (x_ld (p := .pointer (some ⟨b_2, 0, none⟩)) (v := v_l) rfl (ldb_sc Sc27 (H.blk (k := 2) rfl) rfl)) ?_
  refine s_val (x_ld (p := .pointer (some ⟨b_2, 0, none⟩)) (v := v_l) rfl (ldb_sc Sc27 (H.blk (k := 2) rfl) rfl)) ?_
  have hl73z := ((ownSl (H.get (k := 1) rfl))).len_le
  refine s_val (x_lenS T27.und rfl (ownSl (H.get (k := 1) rfl))) ?_
  refine s_val (x_ld (p := .pointer (some ⟨b_k3, 0, none⟩)) (v := I k32) rfl (ldb_sc Sc3 (h_b_k3.blk H) rfl)) ?_
  obtain ⟨sd74z, hM⟩ := M.e_grd hM
  simp only [Bool.and_eq_true, decide_eq_true_eq] at sd74z
  refine s_val (x_ari (a := ((isort l).length : Int)) (b := k32) (r := ((isort l).length : Int) - k32) rfl rfl rfl (by omega)) ?_
  obtain ⟨sd75z, hM⟩ := M.e_grd hM
  simp only [Bool.and_eq_true, decide_eq_true_eq] at sd75z
  refine s_val (x_ix (a := v_l) (b := I (((isort l).length : Int) - k32)) (v := vat v_l 1 (Int.toNat (((isort l).length : Int) - k32))) rfl rfl (Sl.ix (α := Int) T27.und T27.size (ownSl (H.get (k := 1) rfl)) (by omega) (by omega))) ?_
  refine s_val (x_ld (p := vat v_l 1 (Int.toNat (((isort l).length : Int) - k32))) (v := I ((isort l).getD (Int.toNat (((isort l).length : Int) - k32)) 0)) rfl (ld_sc Sc3 (At.mono (Int_at (ownSl (H.get (k := 1) rfl)) (i := ((isort l).length : Int) - k32) (by omega) (by omega)) (ownLe _ (H.get (k := 1) rfl))))) ?_
  refine s_val (x_as (v := I ((isort l).getD (Int.toNat (((isort l).length : Int) - k32)) 0)) rfl) ?_
  refine s_nil ?_
  refine WD.of ?_
  refine W.ret ?_
  refine bodyD_r (H.pick [0, 1, 2, 3, 4, 5, 6] (by decide) rfl) ?_
  intro w76z H
  replace H : St w w76z [cOwn (α := Int) 3 v_l (isort l), cBlk b_2 [v_l] 27, cBlk nb0_3 [I r00] 3, cBlk nb1_4 [I r10] 3, cBlk nb2_5 [.pointer (some ⟨b_k02, 0, none⟩)] 102, cBlk b_1 [.func (.func 92) #[] #[]] 113] R := H
  have hr_ := M.e_pure hM
  exact ⟨_, resE_tmp rfl, ⟨((isort l).getD (Int.toNat (((isort l).length : Int) - k32)) 0), hr_, rfl, (H.pick [] (by decide) rfl)⟩⟩
 obtain ⟨_, _, h_⟩ := hY68z; exact h_.elim

def zb0 (b_Years : List Yr) (b_Olds : List Old10) (b_First : Int) (b_Last : Int) (from_ : Int) (to_ : Int) (times : Int) : M (Int × Int × Int) :=
  M.bind (zaL b_Years b_Olds b_First b_Last from_ to_ times 1 (wr64 ((wr64 (to_ - from_)) + 1))) fun x_ => match x_ with
  | (.inl r1) => (
  bif r1 != 0 then (
  M.pure (0, 0, r1))
  else (
  M.fail))
  | (.inr (r02, r03, r04, r12)) => (
  bif r12 != 0 then (
  M.fail)
  else (
  M.bind (zbp) fun (_ : Unit) =>
  M.bind (zbD b_Years b_Olds r02 r03 r04 from_ to_ times) fun r2 =>
  M.bind (zba) fun (_ : Unit) =>
  M.bind (zbm b_Years b_Olds r02 r03 r04 from_ to_ times) fun r3 =>
  M.pure (r2, r3, 0)))
theorem zcg {R : List Chunk} {C_b_Years : Cells} {v_b_Years : Value} {C_b_Olds : Cells} {v_b_Olds : Value} (b_Years : List Yr) (b_Olds : List Old10) (b_First : Int) (b_Last : Int) (from_ : Int) (to_ : Int) (times : Int) (hC_b_Years : Reads R C_b_Years) (hs_b_Years : Sl C_b_Years v_b_Years b_Years) (hC_b_Olds : Reads R C_b_Olds) (hs_b_Olds : Sl C_b_Olds v_b_Olds b_Olds) {r : (Int × Int × Int)} (hM : (zb0 b_Years b_Olds b_First b_Last from_ to_ times).Ends r) (w : World) (H : St w w [] R) : Ret Try.prog 17 #[.agg #[v_b_Years, v_b_Olds, I b_First, I b_Last], I from_, I to_, I times] w fun v w' => ∃ (y0 : Int) (y1 : Int) (y2 : Int), (y0, y1, y2) = r /\ v = .tuple #[.agg #[I y0, I y1], I y2] /\ St w w' [] R := by
 refine ret_of_W Try.func17 rfl rfl rfl ?_
 refine W.seq ?_
 refine W.region rfl ?_
 refine t_box (v := .agg #[v_b_Years, v_b_Olds, I b_First, I b_Last]) (cs := [v_b_Years, v_b_Olds, I b_First, I b_Last]) H rfl rfl ?_
 intro b_1 w1z H
 refine t_box (v := I from_) (cs := [I from_]) H rfl rfl ?_
 intro b_2 w2z H
 refine t_box (v := I to_) (cs := [I to_]) H rfl rfl ?_
 intro b_3 w3z H
 refine t_box (v := I times) (cs := [I times]) H rfl rfl ?_
 intro b_4 w4z H
 refine t_alloc (cs := [I 0, I 0]) H Al35 rfl ?_
 intro b_5 w5z H
 refine s_val (x_as (v := I 0) rfl) ?_
 refine s_nil ?_
 refine W.seq ?_
 refine W.region rfl ?_
 refine s_val (x_ld (p := .pointer (some ⟨b_1, 0, none⟩)) (v := .agg #[v_b_Years, v_b_Olds, I b_First, I b_Last]) rfl (ldb_ag (ds := [v_b_Years, v_b_Olds, I b_First, I b_Last]) Ag26 Sz26 (H.blk (k := 4) rfl) rfl rfl)) ?_
 refine s_val (x_ld (p := .pointer (some ⟨b_2, 0, none⟩)) (v := I from_) rfl (ldb_sc Sc3 (H.blk (k := 3) rfl) rfl)) ?_
 refine s_val (x_ld (p := .pointer (some ⟨b_3, 0, none⟩)) (v := I to_) rfl (ldb_sc Sc3 (H.blk (k := 2) rfl) rfl)) ?_
 refine s_val (x_ld (p := .pointer (some ⟨b_4, 0, none⟩)) (v := I times) rfl (ldb_sc Sc3 (H.blk (k := 1) rfl) rfl)) ?_
 refine s_val (x_ld (p := .pointer (some ⟨b_3, 0, none⟩)) (v := I to_) rfl (ldb_sc Sc3 (H.blk (k := 2) rfl) rfl)) ?_
 refine s_val (x_ld (p := .pointer (some ⟨b_2, 0, none⟩)) (v := I from_) rfl (ldb_sc Sc3 (H.blk (k := 3) rfl) rfl)) ?_
 refine s_val (x_subW (a := to_) (b := from_) rfl rfl) ?_
 refine s_val (x_addW (a := wr64 (to_ - from_)) (b := 1) rfl rfl) ?_
 obtain ⟨r7z, hx6z, hM⟩ := M.e_bind hM
 refine s_call cf52 [.agg #[v_b_Years, v_b_Olds, I b_First, I b_Last], I from_, I to_, I times, I 1, I (wr64 ((wr64 (to_ - from_)) + 1))] rfl (zcb b_Years b_Olds b_First b_Last from_ to_ times 1 (wr64 ((wr64 (to_ - from_)) + 1)) (hC_b_Years.app _) hs_b_Years (hC_b_Olds.app _) hs_b_Olds hx6z _ (St.give (T := [cBlk b_5 [I 0, I 0] 35, cBlk b_4 [I times] 3, cBlk b_3 [I to_] 3, cBlk b_2 [I from_] 3, cBlk b_1 [v_b_Years, v_b_Olds, I b_First, I b_Last] 26]) H rfl)) ?_
 rintro vq w8z (⟨r1, hr9z, hvq, H2_⟩ | ⟨r02, r03, r04, r12, nb0_6, nb1_7, hr10z, hvq, H2_⟩)
 ·subst hr9z
  subst vq
  try dsimp only at hM
  replace H : St w w8z [cBlk b_5 [I 0, I 0] 35, cBlk b_4 [I times] 3, cBlk b_3 [I to_] 3, cBlk b_2 [I from_] 3, cBlk b_1 [v_b_Years, v_b_Olds, I b_First, I b_Last] 26] R := H.back H2_ rfl
  clear H2_
  refine s_val (x_mv (v := .tuple #[.pointer none, I r1]) rfl) ?_
  refine s_val (x_ext (vs := [.pointer none, I r1]) (v := .pointer none) rfl rfl) ?_
  refine s_val (x_ext (vs := [.pointer none, I r1]) (v := I r1) rfl rfl) ?_
  refine t_alloc (cs := [.pointer none]) H Al102 rfl ?_
  intro b_8 w11z H
  refine t_st (k := 0) (b := b_8) (off := 0) (cs := [.pointer none]) (vs := [.pointer none]) (cs' := [.pointer none]) (v := .pointer none) (L' := [cBlk b_8 [.pointer none] 102, cBlk b_5 [I 0, I 0] 35, cBlk b_4 [I times] 3, cBlk b_3 [I to_] 3, cBlk b_2 [I from_] 3, cBlk b_1 [v_b_Years, v_b_Olds, I b_First, I b_Last] 26]) H rfl rfl rfl Sz102 rfl rfl rfl rfl rfl rfl ?_
  intro w12z H
  refine s_val (x_as (v := I r1) rfl) ?_
  refine s_nil ?_
  refine W.seq ?_
  refine W.seq ?_
  refine W.region rfl ?_
  refine s_val (x_mv (v := I r1) rfl) ?_
  refine s_val (x_cmp (kd := .i64) (a := r1) (b := 0) (r := r1 != 0) rfl rfl rfl) ?_
  refine s_nil ?_
  refine W.cond (r1 != 0) rfl (fun c13z => ?_) (fun c13z => ?_)
  ·replace hM := M.e_t hM c13z
   simp only [decide_eq_true_eq, decide_eq_false_iff_not, beq_iff_eq, bne_iff_ne, beq_eq_false_iff_ne, bne_eq_false_iff_eq, ne_eq, Decidable.not_not] at c13z
   refine W.seq ?_
   refine W.region rfl ?_
   refine s_val (x_bld (ps := []) (zs := [I 0, I 0]) (L' := [I 0, I 0]) rfl Try.underlying35 Al35 rfl (Bd35 Try.underlying35) (.nil)) ?_
   refine s_val (x_mv (v := I r1) rfl) ?_
   refine t_st (k := 1) (b := b_5) (off := 0) (cs := [I 0, I 0]) (vs := [I 0, I 0]) (cs' := [I 0, I 0]) (v := .agg #[I 0, I 0]) (L' := [cBlk b_8 [.pointer none] 102, cBlk b_5 [I 0, I 0] 35, cBlk b_4 [I times] 3, cBlk b_3 [I to_] 3, cBlk b_2 [I from_] 3, cBlk b_1 [v_b_Years, v_b_Olds, I b_First, I b_Last] 26]) H rfl rfl rfl Sz35 rfl rfl rfl rfl rfl rfl ?_
   intro w14z H
   refine s_val (x_as (v := I r1) rfl) ?_
   refine s_nil ?_
   refine W.ret ?_
   have hb15z := (H.blk (k := 1) rfl)
   have hr_ := M.e_pure hM
   exact ⟨_, (resE_ofn (vs := [.agg #[I 0, I 0], I r1]) rfl rfl (.cell (v := .agg #[I 0, I 0]) rfl (run_loadVar_ag (ds := [I 0, I 0]) Ag35 Sz35 hb15z rfl rfl) <| .tmp (v := I r1) rfl <| .nil)), ⟨0, 0, r1, hr_, rfl, (H.pick [] (by decide) rfl)⟩⟩
  replace hM := M.e_f hM c13z
  exact (M.e_fail hM).elim
 subst hr10z
 subst vq
 try dsimp only at hM
 replace H : St w w8z [cBlk nb0_6 [v_b_Years, v_b_Olds, I r02, I r03, .map (some nb1_7)] 126, cMl I encSp nb1_7 r04, cBlk b_5 [I 0, I 0] 35, cBlk b_4 [I times] 3, cBlk b_3 [I to_] 3, cBlk b_2 [I from_] 3, cBlk b_1 [v_b_Years, v_b_Olds, I b_First, I b_Last] 26] R := H.back H2_ rfl
 clear H2_
 refine s_val (x_mv (v := .tuple #[.pointer (some ⟨nb0_6, 0, none⟩), I r12]) rfl) ?_
 refine s_val (x_ext (vs := [.pointer (some ⟨nb0_6, 0, none⟩), I r12]) (v := .pointer (some ⟨nb0_6, 0, none⟩)) rfl rfl) ?_
 refine s_val (x_ext (vs := [.pointer (some ⟨nb0_6, 0, none⟩), I r12]) (v := I r12) rfl rfl) ?_
 refine t_alloc (cs := [.pointer none]) H Al102 rfl ?_
 intro b_8 w16z H
 refine t_st (k := 0) (b := b_8) (off := 0) (cs := [.pointer none]) (vs := [.pointer (some ⟨nb0_6, 0, none⟩)]) (cs' := [.pointer (some ⟨nb0_6, 0, none⟩)]) (v := .pointer (some ⟨nb0_6, 0, none⟩)) (L' := [cBlk b_8 [.pointer (some ⟨nb0_6, 0, none⟩)] 102, cBlk nb0_6 [v_b_Years, v_b_Olds, I r02, I r03, .map (some nb1_7)] 126, cMl I encSp nb1_7 r04, cBlk b_5 [I 0, I 0] 35, cBlk b_4 [I times] 3, cBlk b_3 [I to_] 3, cBlk b_2 [I from_] 3, cBlk b_1 [v_b_Years, v_b_Olds, I b_First, I b_Last] 26]) H rfl rfl rfl Sz102 rfl rfl rfl rfl rfl rfl ?_
 intro w17z H
 refine s_val (x_as (v := I r12) rfl) ?_
 refine s_nil ?_
 refine W.seq ?_
 refine W.seq ?_
 refine W.region rfl ?_
 refine s_val (x_mv (v := I r12) rfl) ?_
 refine s_val (x_cmp (kd := .i64) (a := r12) (b := 0) (r := r12 != 0) rfl rfl rfl) ?_
 refine s_nil ?_
 refine W.cond (r12 != 0) rfl (fun c18z => ?_) (fun c18z => ?_)
 ·replace hM := M.e_t hM c18z
  exact (M.e_fail hM).elim
 replace hM := M.e_f hM c18z
 simp only [decide_eq_true_eq, decide_eq_false_iff_not, beq_iff_eq, bne_iff_ne, beq_eq_false_iff_ne, bne_eq_false_iff_eq, ne_eq, Decidable.not_not] at c18z
 refine W.skip ?_
 refine W.seq ?_
 refine W.region rfl ?_
 refine s_val (x_mf (fs := []) (cs := [.pointer (some ⟨b_8, 0, none⟩), .pointer (some ⟨b_2, 0, none⟩), .pointer (some ⟨b_3, 0, none⟩), .pointer (some ⟨b_4, 0, none⟩)]) rfl rfl) ?_
 refine s_val (x_as (v := .func (.func 58) #[] #[.pointer (some ⟨b_8, 0, none⟩), .pointer (some ⟨b_2, 0, none⟩), .pointer (some ⟨b_3, 0, none⟩), .pointer (some ⟨b_4, 0, none⟩)]) rfl) ?_
 refine s_nil ?_
 refine W.seq ?_
 refine W.region rfl ?_
 refine s_val (x_mv (v := .func (.func 58) #[] #[.pointer (some ⟨b_8, 0, none⟩), .pointer (some ⟨b_2, 0, none⟩), .pointer (some ⟨b_3, 0, none⟩), .pointer (some ⟨b_4, 0, none⟩)]) rfl) ?_
 obtain ⟨r20z, hx19z, hM⟩ := M.e_bind hM
 refine s_call cf55 [] rfl (zb7 hx19z _ (St.give (T := [cBlk b_8 [.pointer (some ⟨nb0_6, 0, none⟩)] 102, cBlk nb0_6 [v_b_Years, v_b_Olds, I r02, I r03, .map (some nb1_7)] 126, cMl I encSp nb1_7 r04, cBlk b_5 [I 0, I 0] 35, cBlk b_4 [I times] 3, cBlk b_3 [I to_] 3, cBlk b_2 [I from_] 3, cBlk b_1 [v_b_Years, v_b_Olds, I b_First, I b_Last] 26]) H rfl)) ?_
 rintro vq w21z ⟨hr22z, hvq, H2_⟩
 subst hr22z
 subst vq
 try dsimp only at hM
 replace H : St w w21z [cBlk b_8 [.pointer (some ⟨nb0_6, 0, none⟩)] 102, cBlk nb0_6 [v_b_Years, v_b_Olds, I r02, I r03, .map (some nb1_7)] 126, cMl I encSp nb1_7 r04, cBlk b_5 [I 0, I 0] 35, cBlk b_4 [I times] 3, cBlk b_3 [I to_] 3, cBlk b_2 [I from_] 3, cBlk b_1 [v_b_Years, v_b_Olds, I b_First, I b_Last] 26] R := H.back H2_ rfl
 clear H2_
 obtain ⟨r24z, hx23z, hM⟩ := M.e_bind hM
 refine s_callv (f := 58) rfl cf58 [.agg #[.func (.func 91) #[] #[]]] rfl (zcm b_Years b_Olds r02 r03 r04 from_ to_ times (hC_b_Years.app _) hs_b_Years (hC_b_Olds.app _) hs_b_Olds (Has.here (k := 2) rfl) (Has.here (k := 1) rfl) (Has.here (k := 0) rfl) (Has.here (k := 6) rfl) (Has.here (k := 5) rfl) (Has.here (k := 4) rfl) hx23z _ (St.give (T := [cBlk b_8 [.pointer (some ⟨nb0_6, 0, none⟩)] 102, cBlk nb0_6 [v_b_Years, v_b_Olds, I r02, I r03, .map (some nb1_7)] 126, cMl I encSp nb1_7 r04, cBlk b_5 [I 0, I 0] 35, cBlk b_4 [I times] 3, cBlk b_3 [I to_] 3, cBlk b_2 [I from_] 3, cBlk b_1 [v_b_Years, v_b_Olds, I b_First, I b_Last] 26]) H rfl)) ?_
 rintro vq w25z ⟨r2, hr26z, hvq, H2_⟩
 subst hr26z
 subst vq
 try dsimp only at hM
 replace H : St w w25z [cBlk b_8 [.pointer (some ⟨nb0_6, 0, none⟩)] 102, cBlk nb0_6 [v_b_Years, v_b_Olds, I r02, I r03, .map (some nb1_7)] 126, cMl I encSp nb1_7 r04, cBlk b_5 [I 0, I 0] 35, cBlk b_4 [I times] 3, cBlk b_3 [I to_] 3, cBlk b_2 [I from_] 3, cBlk b_1 [v_b_Years, v_b_Olds, I b_First, I b_Last] 26] R := H.back H2_ rfl
 clear H2_
 refine s_val (x_mv (v := .func (.func 58) #[] #[.pointer (some ⟨b_8, 0, none⟩), .pointer (some ⟨b_2, 0, none⟩), .pointer (some ⟨b_3, 0, none⟩), .pointer (some ⟨b_4, 0, none⟩)]) rfl) ?_
 obtain ⟨r28z, hx27z, hM⟩ := M.e_bind hM
 refine s_call cf56 [] rfl (zbJ hx27z _ (St.give (T := [cBlk b_8 [.pointer (some ⟨nb0_6, 0, none⟩)] 102, cBlk nb0_6 [v_b_Years, v_b_Olds, I r02, I r03, .map (some nb1_7)] 126, cMl I encSp nb1_7 r04, cBlk b_5 [I 0, I 0] 35, cBlk b_4 [I times] 3, cBlk b_3 [I to_] 3, cBlk b_2 [I from_] 3, cBlk b_1 [v_b_Years, v_b_Olds, I b_First, I b_Last] 26]) H rfl)) ?_
 rintro vq w29z ⟨hr30z, hvq, H2_⟩
 subst hr30z
 subst vq
 try dsimp only at hM
 replace H : St w w29z [cBlk b_8 [.pointer (some ⟨nb0_6, 0, none⟩)] 102, cBlk nb0_6 [v_b_Years, v_b_Olds, I r02, I r03, .map (some nb1_7)] 126, cMl I encSp nb1_7 r04, cBlk b_5 [I 0, I 0] 35, cBlk b_4 [I times] 3, cBlk b_3 [I to_] 3, cBlk b_2 [I from_] 3, cBlk b_1 [v_b_Years, v_b_Olds, I b_First, I b_Last] 26] R := H.back H2_ rfl
 clear H2_
 obtain ⟨r32z, hx31z, hM⟩ := M.e_bind hM
 refine s_callv (f := 58) rfl cf58 [.agg #[.func (.func 92) #[] #[]]] rfl (zcC b_Years b_Olds r02 r03 r04 from_ to_ times (hC_b_Years.app _) hs_b_Years (hC_b_Olds.app _) hs_b_Olds (Has.here (k := 2) rfl) (Has.here (k := 1) rfl) (Has.here (k := 0) rfl) (Has.here (k := 6) rfl) (Has.here (k := 5) rfl) (Has.here (k := 4) rfl) hx31z _ (St.give (T := [cBlk b_8 [.pointer (some ⟨nb0_6, 0, none⟩)] 102, cBlk nb0_6 [v_b_Years, v_b_Olds, I r02, I r03, .map (some nb1_7)] 126, cMl I encSp nb1_7 r04, cBlk b_5 [I 0, I 0] 35, cBlk b_4 [I times] 3, cBlk b_3 [I to_] 3, cBlk b_2 [I from_] 3, cBlk b_1 [v_b_Years, v_b_Olds, I b_First, I b_Last] 26]) H rfl)) ?_
 rintro vq w33z ⟨r3, hr34z, hvq, H2_⟩
 subst hr34z
 subst vq
 try dsimp only at hM
 replace H : St w w33z [cBlk b_8 [.pointer (some ⟨nb0_6, 0, none⟩)] 102, cBlk nb0_6 [v_b_Years, v_b_Olds, I r02, I r03, .map (some nb1_7)] 126, cMl I encSp nb1_7 r04, cBlk b_5 [I 0, I 0] 35, cBlk b_4 [I times] 3, cBlk b_3 [I to_] 3, cBlk b_2 [I from_] 3, cBlk b_1 [v_b_Years, v_b_Olds, I b_First, I b_Last] 26] R := H.back H2_ rfl
 clear H2_
 refine s_val (x_bld (ps := [(0, I r2), (1, I r3)]) (zs := [I 0, I 0]) (L' := [I r2, I r3]) rfl Try.underlying35 Al35 rfl (Bd35 Try.underlying35) (.cons (cs := [I r2]) rfl rfl rfl rfl rfl <| .cons (cs := [I r3]) rfl rfl rfl rfl rfl <| .nil)) ?_
 refine t_st (k := 3) (b := b_5) (off := 0) (cs := [I 0, I 0]) (vs := [I r2, I r3]) (cs' := [I r2, I r3]) (v := .agg #[I r2, I r3]) (L' := [cBlk b_8 [.pointer (some ⟨nb0_6, 0, none⟩)] 102, cBlk nb0_6 [v_b_Years, v_b_Olds, I r02, I r03, .map (some nb1_7)] 126, cMl I encSp nb1_7 r04, cBlk b_5 [I r2, I r3] 35, cBlk b_4 [I times] 3, cBlk b_3 [I to_] 3, cBlk b_2 [I from_] 3, cBlk b_1 [v_b_Years, v_b_Olds, I b_First, I b_Last] 26]) H rfl rfl rfl Sz35 rfl rfl rfl rfl rfl rfl ?_
 intro w35z H
 refine s_val (x_as (v := I 0) rfl) ?_
 refine s_nil ?_
 refine W.ret ?_
 have hb36z := (H.blk (k := 3) rfl)
 have hr_ := M.e_pure hM
 exact ⟨_, (resE_ofn (vs := [.agg #[I r2, I r3], I 0]) rfl rfl (.cell (v := .agg #[I r2, I r3]) rfl (run_loadVar_ag (ds := [I r2, I r3]) Ag35 Sz35 hb36z rfl rfl) <| .tmp (v := I 0) rfl <| .nil)), ⟨r2, r3, 0, hr_, rfl, (H.pick [] (by decide) rfl)⟩⟩

def zbc : M Bool :=
  M.bind (zaJ) fun r2 =>
  M.bind (zb8 r2 7 200) fun (r0, r1, r22) =>
  M.bind (zaJ) fun r3 =>
  M.bind (zbW r3 7 200 ([(1 : Int), (3 : Int)])) fun (r02, r12) =>
  M.bind (zaJ) fun r4 =>
  M.bind (zbs r4 7 200 300 ([(0 : Int), (100 : Int), (120 : Int), (80 : Int)])) fun (r03, r13) =>
  M.bind (zaJ) fun r5 =>
  M.bind (zbs r5 7 200 300 ([(0 : Int), (99 : Int), (120 : Int), (80 : Int)])) fun (r04, r14) =>
  M.bind (M.opt (!((((r22 != 0) || (r12 != 0)) || (r13 != 0)) || (r14 != 0))) (zb6 r0 ([(0 : Int), (2 : Int), (3 : Int)])) false) fun r6 =>
  bif (((((((((r22 != 0) || (r12 != 0)) || (r13 != 0)) || (r14 != 0)) || (!r6)) || (r1 != 300)) || (r02 != 230)) || (!r03)) || r04) then (
  M.pure false)
  else (
  M.bind (zaO) fun (r05, r15, r23, r32) =>
  M.bind (zae r05 r15 r23 r32 1900 1909 500) fun (r00, r01, r16) =>
  M.bind (zaO) fun (r06, r17, r24, r33) =>
  M.bind (zae r06 r17 r24 r33 1900 1909 410) fun (r002, r012, r18) =>
  M.bind (zaO) fun (r07, r19, r25, r34) =>
  M.bind (zbN r07 r19 r25 r34 410) fun (r003, r013, r10, r11, r26) =>
  M.bind (zaO) fun (r08, r110, r27, r35) =>
  M.bind (zb0 r08 r110 r27 r35 1900 1906 2) fun (r004, r014, r111) =>
  M.pure (((((((((r16 == 0) && (r18 == 0)) && (r26 == 0)) && (r111 == 0)) && (decide ((⟨(r00 : Int), (r01 : Int)⟩ : Span) = (⟨(1 : Int), (4 : Int)⟩ : Span)))) && (decide ((⟨(r002 : Int), (r012 : Int)⟩ : Span) = (⟨(1 : Int), (9 : Int)⟩ : Span)))) && (decide ((⟨(r003 : Int), (r013 : Int)⟩ : Rto) = (⟨(1 : Int), (10 : Int)⟩ : Rto)))) && (decide ((⟨(r10 : Int), (r11 : Int)⟩ : Rto) = (⟨(9 : Int), (10 : Int)⟩ : Rto)))) && (decide ((⟨(r004 : Int), (r014 : Int)⟩ : Span) = (⟨(400 : Int), (499 : Int)⟩ : Span)))))
theorem zb4 {R : List Chunk}    {r : Bool} (hM : (zbc).Ends r) (w : World) (H : St w w [] R) : Ret Try.prog 18 #[] w fun v w' => ∃ (y0 : Bool), y0 = r /\ v = B y0 /\ St w w' [] R := by
 refine ret_of_W Try.func18 rfl rfl rfl ?_
 refine W.seq ?_
 refine W.region rfl ?_
 refine s_val (x_as (v := B false) rfl) ?_
 refine s_nil ?_
 refine W.seq ?_
 refine W.region rfl ?_
 obtain ⟨r2z, hx1z, hM⟩ := M.e_bind hM
 refine s_call cf60 [] rfl (zaZ hx1z _ (St.give (T := []) H rfl)) ?_
 rintro vq w3z ⟨r2, u0_1, hr4z, hvq, H2_⟩
 subst hr4z
 subst vq
 try dsimp only at hM
 replace H : St w w3z [cOwn (α := Pk) 72 u0_1 r2] R := H.back H2_ rfl
 clear H2_
 obtain ⟨r6z, hx5z, hM⟩ := M.e_bind hM
 refine s_call cf37 [u0_1, I 7, I 200] rfl (zch r2 7 200 (Reads.of (k := 0) rfl ownLe) (ownSl (H.get (k := 0) rfl)) hx5z _ (St.give (T := [cOwn (α := Pk) 72 u0_1 r2]) H rfl)) ?_
 rintro vq w7z ⟨r0, r1, r22, u0_2, hr8z, hvq, H2_⟩
 subst hr8z
 subst vq
 try dsimp only at hM
 replace H : St w w7z [cOwn (α := Int) 3 u0_2 r0, cOwn (α := Pk) 72 u0_1 r2] R := H.back H2_ rfl
 clear H2_
 refine s_val (x_mv (v := .tuple #[u0_2, I r1, I r22]) rfl) ?_
 refine s_val (x_ext (vs := [u0_2, I r1, I r22]) (v := u0_2) rfl rfl) ?_
 refine s_val (x_ext (vs := [u0_2, I r1, I r22]) (v := I r1) rfl rfl) ?_
 refine s_val (x_ext (vs := [u0_2, I r1, I r22]) (v := I r22) rfl rfl) ?_
 refine s_val (x_as (v := u0_2) rfl) ?_
 refine s_val (x_as (v := I r1) rfl) ?_
 refine s_val (x_as (v := I r22) rfl) ?_
 refine s_nil ?_
 refine W.seq ?_
 refine W.region rfl ?_
 obtain ⟨r10z, hx9z, hM⟩ := M.e_bind hM
 refine s_call cf60 [] rfl (zaZ hx9z _ (St.give (T := [cOwn (α := Int) 3 u0_2 r0, cOwn (α := Pk) 72 u0_1 r2]) H rfl)) ?_
 rintro vq w11z ⟨r3, u0_3, hr12z, hvq, H2_⟩
 subst hr12z
 subst vq
 try dsimp only at hM
 replace H : St w w11z [cOwn (α := Pk) 72 u0_3 r3, cOwn (α := Int) 3 u0_2 r0, cOwn (α := Pk) 72 u0_1 r2] R := H.back H2_ rfl
 clear H2_
 refine t_bs (α := Int) T27 [I 1, I 3] [(1 : Int), (3 : Int)] H rfl (.cons rfl (Flat.rep_enc _ (1 : Int)) <| .cons rfl (Flat.rep_enc _ (3 : Int)) <| .nil) rfl rfl rfl ?_
 intro v13z w14z H
 obtain ⟨r16z, hx15z, hM⟩ := M.e_bind hM
 refine s_call cf35 [u0_3, I 7, I 200, v13z] rfl (zco r3 7 200 ([(1 : Int), (3 : Int)]) (Reads.of (k := 1) rfl ownLe) (ownSl (H.get (k := 1) rfl)) (Reads.of (k := 0) rfl ownLe) (ownSl (H.get (k := 0) rfl)) hx15z _ (St.give (T := [cOwn (α := Int) 3 v13z ([(1 : Int), (3 : Int)]), cOwn (α := Pk) 72 u0_3 r3, cOwn (α := Int) 3 u0_2 r0, cOwn (α := Pk) 72 u0_1 r2]) H rfl)) ?_
 rintro vq w17z ⟨r02, r12, hr18z, hvq, H2_⟩
 subst hr18z
 subst vq
 try dsimp only at hM
 replace H : St w w17z [cOwn (α := Int) 3 v13z ([(1 : Int), (3 : Int)]), cOwn (α := Pk) 72 u0_3 r3, cOwn (α := Int) 3 u0_2 r0, cOwn (α := Pk) 72 u0_1 r2] R := H.back H2_ rfl
 clear H2_
 refine s_val (x_mv (v := .tuple #[I r02, I r12]) rfl) ?_
 refine s_val (x_ext (vs := [I r02, I r12]) (v := I r02) rfl rfl) ?_
 refine s_val (x_ext (vs := [I r02, I r12]) (v := I r12) rfl rfl) ?_
 refine s_val (x_as (v := I r02) rfl) ?_
 refine s_val (x_as (v := I r12) rfl) ?_
 refine s_nil ?_
 refine W.seq ?_
 refine W.region rfl ?_
 obtain ⟨r20z, hx19z, hM⟩ := M.e_bind hM
 refine s_call cf60 [] rfl (zaZ hx19z _ (St.give (T := [cOwn (α := Int) 3 v13z ([(1 : Int), (3 : Int)]), cOwn (α := Pk) 72 u0_3 r3, cOwn (α := Int) 3 u0_2 r0, cOwn (α := Pk) 72 u0_1 r2]) H rfl)) ?_
 rintro vq w21z ⟨r4, u0_5, hr22z, hvq, H2_⟩
 subst hr22z
 subst vq
 try dsimp only at hM
 replace H : St w w21z [cOwn (α := Pk) 72 u0_5 r4, cOwn (α := Int) 3 v13z ([(1 : Int), (3 : Int)]), cOwn (α := Pk) 72 u0_3 r3, cOwn (α := Int) 3 u0_2 r0, cOwn (α := Pk) 72 u0_1 r2] R := H.back H2_ rfl
 clear H2_
 refine t_bs (α := Int) T27 [I 0, I 100, I 120, I 80] [(0 : Int), (100 : Int), (120 : Int), (80 : Int)] H rfl (.cons rfl (Flat.rep_enc _ (0 : Int)) <| .cons rfl (Flat.rep_enc _ (100 : Int)) <| .cons rfl (Flat.rep_enc _ (120 : Int)) <| .cons rfl (Flat.rep_enc _ (80 : Int)) <| .nil) rfl rfl rfl ?_
 intro v23z w24z H
 obtain ⟨r26z, hx25z, hM⟩ := M.e_bind hM
 refine s_call cf41 [u0_5, I 7, I 200, I 300, v23z] rfl (zbX r4 7 200 300 ([(0 : Int), (100 : Int), (120 : Int), (80 : Int)]) (Reads.of (k := 1) rfl ownLe) (ownSl (H.get (k := 1) rfl)) (Reads.of (k := 0) rfl ownLe) (ownSl (H.get (k := 0) rfl)) hx25z _ (St.give (T := [cOwn (α := Int) 3 v23z ([(0 : Int), (100 : Int), (120 : Int), (80 : Int)]), cOwn (α := Pk) 72 u0_5 r4, cOwn (α := Int) 3 v13z ([(1 : Int), (3 : Int)]), cOwn (α := Pk) 72 u0_3 r3, cOwn (α := Int) 3 u0_2 r0, cOwn (α := Pk) 72 u0_1 r2]) H rfl)) ?_
 rintro vq w27z ⟨r03, r13, hr28z, hvq, H2_⟩
 subst hr28z
 subst vq
 try dsimp only at hM
 replace H : St w w27z [cOwn (α := Int) 3 v23z ([(0 : Int), (100 : Int), (120 : Int), (80 : Int)]), cOwn (α := Pk) 72 u0_5 r4, cOwn (α := Int) 3 v13z ([(1 : Int), (3 : Int)]), cOwn (α := Pk) 72 u0_3 r3, cOwn (α := Int) 3 u0_2 r0, cOwn (α := Pk) 72 u0_1 r2] R := H.back H2_ rfl
 clear H2_
 refine s_val (x_mv (v := .tuple #[B r03, I r13]) rfl) ?_
 refine s_val (x_ext (vs := [B r03, I r13]) (v := B r03) rfl rfl) ?_
 refine s_val (x_ext (vs := [B r03, I r13]) (v := I r13) rfl rfl) ?_
 refine s_val (x_as (v := B r03) rfl) ?_
 refine s_val (x_as (v := I r13) rfl) ?_
 refine s_nil ?_
 refine W.seq ?_
 refine W.region rfl ?_
 obtain ⟨r30z, hx29z, hM⟩ := M.e_bind hM
 refine s_call cf60 [] rfl (zaZ hx29z _ (St.give (T := [cOwn (α := Int) 3 v23z ([(0 : Int), (100 : Int), (120 : Int), (80 : Int)]), cOwn (α := Pk) 72 u0_5 r4, cOwn (α := Int) 3 v13z ([(1 : Int), (3 : Int)]), cOwn (α := Pk) 72 u0_3 r3, cOwn (α := Int) 3 u0_2 r0, cOwn (α := Pk) 72 u0_1 r2]) H rfl)) ?_
 rintro vq w31z ⟨r5, u0_7, hr32z, hvq, H2_⟩
 subst hr32z
 subst vq
 try dsimp only at hM
 replace H : St w w31z [cOwn (α := Pk) 72 u0_7 r5, cOwn (α := Int) 3 v23z ([(0 : Int), (100 : Int), (120 : Int), (80 : Int)]), cOwn (α := Pk) 72 u0_5 r4, cOwn (α := Int) 3 v13z ([(1 : Int), (3 : Int)]), cOwn (α := Pk) 72 u0_3 r3, cOwn (α := Int) 3 u0_2 r0, cOwn (α := Pk) 72 u0_1 r2] R := H.back H2_ rfl
 clear H2_
 refine t_bs (α := Int) T27 [I 0, I 99, I 120, I 80] [(0 : Int), (99 : Int), (120 : Int), (80 : Int)] H rfl (.cons rfl (Flat.rep_enc _ (0 : Int)) <| .cons rfl (Flat.rep_enc _ (99 : Int)) <| .cons rfl (Flat.rep_enc _ (120 : Int)) <| .cons rfl (Flat.rep_enc _ (80 : Int)) <| .nil) rfl rfl rfl ?_
 intro v33z w34z H
 obtain ⟨r36z, hx35z, hM⟩ := M.e_bind hM
 refine s_call cf41 [u0_7, I 7, I 200, I 300, v33z] rfl (zbX r5 7 200 300 ([(0 : Int), (99 : Int), (120 : Int), (80 : Int)]) (Reads.of (k := 1) rfl ownLe) (ownSl (H.get (k := 1) rfl)) (Reads.of (k := 0) rfl ownLe) (ownSl (H.get (k := 0) rfl)) hx35z _ (St.give (T := [cOwn (α := Int) 3 v33z ([(0 : Int), (99 : Int), (120 : Int), (80 : Int)]), cOwn (α := Pk) 72 u0_7 r5, cOwn (α := Int) 3 v23z ([(0 : Int), (100 : Int), (120 : Int), (80 : Int)]), cOwn (α := Pk) 72 u0_5 r4, cOwn (α := Int) 3 v13z ([(1 : Int), (3 : Int)]), cOwn (α := Pk) 72 u0_3 r3, cOwn (α := Int) 3 u0_2 r0, cOwn (α := Pk) 72 u0_1 r2]) H rfl)) ?_
 rintro vq w37z ⟨r04, r14, hr38z, hvq, H2_⟩
 subst hr38z
 subst vq
 try dsimp only at hM
 replace H : St w w37z [cOwn (α := Int) 3 v33z ([(0 : Int), (99 : Int), (120 : Int), (80 : Int)]), cOwn (α := Pk) 72 u0_7 r5, cOwn (α := Int) 3 v23z ([(0 : Int), (100 : Int), (120 : Int), (80 : Int)]), cOwn (α := Pk) 72 u0_5 r4, cOwn (α := Int) 3 v13z ([(1 : Int), (3 : Int)]), cOwn (α := Pk) 72 u0_3 r3, cOwn (α := Int) 3 u0_2 r0, cOwn (α := Pk) 72 u0_1 r2] R := H.back H2_ rfl
 clear H2_
 refine s_val (x_mv (v := .tuple #[B r04, I r14]) rfl) ?_
 refine s_val (x_ext (vs := [B r04, I r14]) (v := B r04) rfl rfl) ?_
 refine s_val (x_ext (vs := [B r04, I r14]) (v := I r14) rfl rfl) ?_
 refine s_val (x_as (v := B r04) rfl) ?_
 refine s_val (x_as (v := I r14) rfl) ?_
 refine s_nil ?_
 refine W.seq ?_
 refine W.seq ?_
 refine W.region rfl ?_
 refine s_val (x_mv (v := I r22) rfl) ?_
 refine s_val (x_cmp (kd := .i64) (a := r22) (b := 0) (r := r22 != 0) rfl rfl rfl) ?_
 refine s_val (x_mv (v := B (r22 != 0)) rfl) ?_
 refine g_val (!(r22 != 0)) (gy_f rfl) (fun hg => x_mv (v := I r12) rfl) ?_
 refine g_val (!(r22 != 0)) (gy_f rfl) (fun hg => x_cmp (kd := .i64) (a := r12) (b := 0) (r := r12 != 0) (gd_of (c := !(r22 != 0)) hg (I r12)) rfl rfl) ?_
 refine s_val (x_por (b := r22 != 0) (r := r12 != 0) rfl rfl (fun hb => gd_of (c := !(r22 != 0)) (by first | exact hb | (rw [hb]; rfl) | simp_all) (B (r12 != 0)))) ?_
 refine s_val (x_mv (v := B ((r22 != 0) || (r12 != 0))) rfl) ?_
 refine g_val (!((r22 != 0) || (r12 != 0))) (gy_f rfl) (fun hg => x_mv (v := I r13) rfl) ?_
 refine g_val (!((r22 != 0) || (r12 != 0))) (gy_f rfl) (fun hg => x_cmp (kd := .i64) (a := r13) (b := 0) (r := r13 != 0) (gd_of (c := !((r22 != 0) || (r12 != 0))) hg (I r13)) rfl rfl) ?_
 refine s_val (x_por (b := ((r22 != 0) || (r12 != 0))) (r := r13 != 0) rfl rfl (fun hb => gd_of (c := !((r22 != 0) || (r12 != 0))) (by first | exact hb | (rw [hb]; rfl) | simp_all) (B (r13 != 0)))) ?_
 refine s_val (x_mv (v := B (((r22 != 0) || (r12 != 0)) || (r13 != 0))) rfl) ?_
 refine g_val (!(((r22 != 0) || (r12 != 0)) || (r13 != 0))) (gy_f rfl) (fun hg => x_mv (v := I r14) rfl) ?_
 refine g_val (!(((r22 != 0) || (r12 != 0)) || (r13 != 0))) (gy_f rfl) (fun hg => x_cmp (kd := .i64) (a := r14) (b := 0) (r := r14 != 0) (gd_of (c := !(((r22 != 0) || (r12 != 0)) || (r13 != 0))) hg (I r14)) rfl rfl) ?_
 refine s_val (x_por (b := (((r22 != 0) || (r12 != 0)) || (r13 != 0))) (r := r14 != 0) rfl rfl (fun hb => gd_of (c := !(((r22 != 0) || (r12 != 0)) || (r13 != 0))) (by first | exact hb | (rw [hb]; rfl) | simp_all) (B (r14 != 0)))) ?_
 refine s_val (x_mv (v := B ((((r22 != 0) || (r12 != 0)) || (r13 != 0)) || (r14 != 0))) rfl) ?_
 refine g_val (!((((r22 != 0) || (r12 != 0)) || (r13 != 0)) || (r14 != 0))) (gy_f rfl) (fun hg => x_mv (v := u0_2) rfl) ?_
 refine t_gbs (α := Int) T27 (!((((r22 != 0) || (r12 != 0)) || (r13 != 0)) || (r14 != 0))) (gy_f rfl) [I 0, I 2, I 3] [(0 : Int), (2 : Int), (3 : Int)] H (fun _ => rfl) (.cons rfl (Flat.rep_enc _ (0 : Int)) <| .cons rfl (Flat.rep_enc _ (2 : Int)) <| .cons rfl (Flat.rep_enc _ (3 : Int)) <| .nil) rfl rfl rfl ?_
 intro v39z Bs_9 w40z H hf41z
 obtain ⟨r6, hx42z, hM⟩ := M.e_bind hM
 refine t_gcall (!((((r22 != 0) || (r12 != 0)) || (r13 != 0)) || (r14 != 0))) (gy_f rfl) cf43 (B r6) (fun _ => [u0_2, v39z]) (fun hg => lst2 (gd_of (c := !((((r22 != 0) || (r12 != 0)) || (r13 != 0)) || (r14 != 0))) hg (u0_2)) (gd_of (c := !((((r22 != 0) || (r12 != 0)) || (r13 != 0)) || (r14 != 0))) hg (v39z))) H (fun hg => (zcj r0 ([(0 : Int), (2 : Int), (3 : Int)]) (Reads.of (k := 7) rfl ownLe) (ownSl (H.get (k := 7) rfl)) (Reads.of (k := 0) rfl roLe) (hf41z hg) (M.e_opt hx42z hg) _ (H.give (A := []) rfl)).mono fun v_ w_ ⟨y_, hr_, hv_, H_⟩ => by subst hr_; exact ⟨hv_, H.via H_⟩) ?_
 intro w43z H
 refine g_val (!((((r22 != 0) || (r12 != 0)) || (r13 != 0)) || (r14 != 0))) (gy_f rfl) (fun hg => x_not (b := r6) (gd_of (c := !((((r22 != 0) || (r12 != 0)) || (r13 != 0)) || (r14 != 0))) hg (B r6))) ?_
 refine s_val (x_por (b := ((((r22 != 0) || (r12 != 0)) || (r13 != 0)) || (r14 != 0))) (r := !r6) rfl rfl (fun hb => gd_of (c := !((((r22 != 0) || (r12 != 0)) || (r13 != 0)) || (r14 != 0))) (by first | exact hb | (rw [hb]; rfl) | simp_all) (B (!r6)))) ?_
 refine s_val (x_mv (v := B (((((r22 != 0) || (r12 != 0)) || (r13 != 0)) || (r14 != 0)) || (!r6))) rfl) ?_
 refine g_val (!(((((r22 != 0) || (r12 != 0)) || (r13 != 0)) || (r14 != 0)) || (!r6))) (gy_f rfl) (fun hg => x_mv (v := I r1) rfl) ?_
 refine g_val (!(((((r22 != 0) || (r12 != 0)) || (r13 != 0)) || (r14 != 0)) || (!r6))) (gy_f rfl) (fun hg => x_cmp (kd := .i64) (a := r1) (b := 300) (r := r1 != 300) (gd_of (c := !(((((r22 != 0) || (r12 != 0)) || (r13 != 0)) || (r14 != 0)) || (!r6))) hg (I r1)) rfl rfl) ?_
 refine s_val (x_por (b := (((((r22 != 0) || (r12 != 0)) || (r13 != 0)) || (r14 != 0)) || (!r6))) (r := r1 != 300) rfl rfl (fun hb => gd_of (c := !(((((r22 != 0) || (r12 != 0)) || (r13 != 0)) || (r14 != 0)) || (!r6))) (by first | exact hb | (rw [hb]; rfl) | simp_all) (B (r1 != 300)))) ?_
 refine s_val (x_mv (v := B ((((((r22 != 0) || (r12 != 0)) || (r13 != 0)) || (r14 != 0)) || (!r6)) || (r1 != 300))) rfl) ?_
 refine g_val (!((((((r22 != 0) || (r12 != 0)) || (r13 != 0)) || (r14 != 0)) || (!r6)) || (r1 != 300))) (gy_f rfl) (fun hg => x_mv (v := I r02) rfl) ?_
 refine g_val (!((((((r22 != 0) || (r12 != 0)) || (r13 != 0)) || (r14 != 0)) || (!r6)) || (r1 != 300))) (gy_f rfl) (fun hg => x_cmp (kd := .i64) (a := r02) (b := 230) (r := r02 != 230) (gd_of (c := !((((((r22 != 0) || (r12 != 0)) || (r13 != 0)) || (r14 != 0)) || (!r6)) || (r1 != 300))) hg (I r02)) rfl rfl) ?_
 refine s_val (x_por (b := ((((((r22 != 0) || (r12 != 0)) || (r13 != 0)) || (r14 != 0)) || (!r6)) || (r1 != 300))) (r := r02 != 230) rfl rfl (fun hb => gd_of (c := !((((((r22 != 0) || (r12 != 0)) || (r13 != 0)) || (r14 != 0)) || (!r6)) || (r1 != 300))) (by first | exact hb | (rw [hb]; rfl) | simp_all) (B (r02 != 230)))) ?_
 refine s_val (x_mv (v := B (((((((r22 != 0) || (r12 != 0)) || (r13 != 0)) || (r14 != 0)) || (!r6)) || (r1 != 300)) || (r02 != 230))) rfl) ?_
 refine g_val (!(((((((r22 != 0) || (r12 != 0)) || (r13 != 0)) || (r14 != 0)) || (!r6)) || (r1 != 300)) || (r02 != 230))) (gy_f rfl) (fun hg => x_mv (v := B r03) rfl) ?_
 refine g_val (!(((((((r22 != 0) || (r12 != 0)) || (r13 != 0)) || (r14 != 0)) || (!r6)) || (r1 != 300)) || (r02 != 230))) (gy_f rfl) (fun hg => x_not (b := r03) (gd_of (c := !(((((((r22 != 0) || (r12 != 0)) || (r13 != 0)) || (r14 != 0)) || (!r6)) || (r1 != 300)) || (r02 != 230))) hg (B r03))) ?_
 refine s_val (x_por (b := (((((((r22 != 0) || (r12 != 0)) || (r13 != 0)) || (r14 != 0)) || (!r6)) || (r1 != 300)) || (r02 != 230))) (r := !r03) rfl rfl (fun hb => gd_of (c := !(((((((r22 != 0) || (r12 != 0)) || (r13 != 0)) || (r14 != 0)) || (!r6)) || (r1 != 300)) || (r02 != 230))) (by first | exact hb | (rw [hb]; rfl) | simp_all) (B (!r03)))) ?_
 refine s_val (x_mv (v := B ((((((((r22 != 0) || (r12 != 0)) || (r13 != 0)) || (r14 != 0)) || (!r6)) || (r1 != 300)) || (r02 != 230)) || (!r03))) rfl) ?_
 refine g_val (!((((((((r22 != 0) || (r12 != 0)) || (r13 != 0)) || (r14 != 0)) || (!r6)) || (r1 != 300)) || (r02 != 230)) || (!r03))) (gy_f rfl) (fun hg => x_mv (v := B r04) rfl) ?_
 refine s_val (x_por (b := ((((((((r22 != 0) || (r12 != 0)) || (r13 != 0)) || (r14 != 0)) || (!r6)) || (r1 != 300)) || (r02 != 230)) || (!r03))) (r := r04) rfl rfl (fun hb => gd_of (c := !((((((((r22 != 0) || (r12 != 0)) || (r13 != 0)) || (r14 != 0)) || (!r6)) || (r1 != 300)) || (r02 != 230)) || (!r03))) (by first | exact hb | (rw [hb]; rfl) | simp_all) (B r04))) ?_
 refine s_nil ?_
 refine W.cond (((((((((r22 != 0) || (r12 != 0)) || (r13 != 0)) || (r14 != 0)) || (!r6)) || (r1 != 300)) || (r02 != 230)) || (!r03)) || r04) rfl (fun c44z => ?_) (fun c44z => ?_)
 ·replace hM := M.e_t hM c44z
  refine W.seq ?_
  refine W.region rfl ?_
  refine s_val (x_as (v := B false) rfl) ?_
  refine s_nil ?_
  refine W.ret ?_
  have hr_ := M.e_pure hM
  exact ⟨_, resE_tmp rfl, ⟨false, hr_, rfl, (H.pick [] (by decide) rfl)⟩⟩
 replace hM := M.e_f hM c44z
 refine W.skip ?_
 refine W.seq ?_
 refine W.region rfl ?_
 obtain ⟨r46z, hx45z, hM⟩ := M.e_bind hM
 refine s_call cf61 [] rfl (za9 hx45z _ (St.give (T := [cRo Bs_9, cOwn (α := Int) 3 v33z ([(0 : Int), (99 : Int), (120 : Int), (80 : Int)]), cOwn (α := Pk) 72 u0_7 r5, cOwn (α := Int) 3 v23z ([(0 : Int), (100 : Int), (120 : Int), (80 : Int)]), cOwn (α := Pk) 72 u0_5 r4, cOwn (α := Int) 3 v13z ([(1 : Int), (3 : Int)]), cOwn (α := Pk) 72 u0_3 r3, cOwn (α := Int) 3 u0_2 r0, cOwn (α := Pk) 72 u0_1 r2]) H rfl)) ?_
 rintro vq w47z ⟨r05, r15, r23, r32, u0_10, u1_11, rr2_12, Bs3_13, hr48z, hvq, H2_, hf49z⟩
 subst hr48z
 subst vq
 try dsimp only at hM
 replace H : St w w47z [cOwn (α := Yr) 41 u0_10 r05, cOwn (α := Raw 3) 43 u1_11 rr2_12, cRo Bs3_13, cRo Bs_9, cOwn (α := Int) 3 v33z ([(0 : Int), (99 : Int), (120 : Int), (80 : Int)]), cOwn (α := Pk) 72 u0_7 r5, cOwn (α := Int) 3 v23z ([(0 : Int), (100 : Int), (120 : Int), (80 : Int)]), cOwn (α := Pk) 72 u0_5 r4, cOwn (α := Int) 3 v13z ([(1 : Int), (3 : Int)]), cOwn (α := Pk) 72 u0_3 r3, cOwn (α := Int) 3 u0_2 r0, cOwn (α := Pk) 72 u0_1 r2] R := H.back H2_ rfl
 clear H2_
 obtain ⟨r51z, hx50z, hM⟩ := M.e_bind hM
 refine s_call cf15 [.agg #[u0_10, u1_11, I r23, I r32], I 1900, I 1909, I 500] rfl (zah r05 r15 r23 r32 1900 1909 500 (Reads.of (k := 0) rfl ownLe) (ownSl (H.get (k := 0) rfl)) (Reads.sup (Reads.of (k := 1) rfl ownLe) (Reads.of (k := 2) rfl roLe)) (rowSl rfl (H.get (k := 1) rfl) (roLe _ (H.get (k := 2) rfl)) hf49z) hx50z _ (St.give (T := [cOwn (α := Yr) 41 u0_10 r05, cOwn (α := Raw 3) 43 u1_11 rr2_12, cRo Bs3_13, cRo Bs_9, cOwn (α := Int) 3 v33z ([(0 : Int), (99 : Int), (120 : Int), (80 : Int)]), cOwn (α := Pk) 72 u0_7 r5, cOwn (α := Int) 3 v23z ([(0 : Int), (100 : Int), (120 : Int), (80 : Int)]), cOwn (α := Pk) 72 u0_5 r4, cOwn (α := Int) 3 v13z ([(1 : Int), (3 : Int)]), cOwn (α := Pk) 72 u0_3 r3, cOwn (α := Int) 3 u0_2 r0, cOwn (α := Pk) 72 u0_1 r2]) H rfl)) ?_
 rintro vq w52z ⟨r00, r01, r16, hr53z, hvq, H2_⟩
 subst hr53z
 subst vq
 try dsimp only at hM
 replace H : St w w52z [cOwn (α := Yr) 41 u0_10 r05, cOwn (α := Raw 3) 43 u1_11 rr2_12, cRo Bs3_13, cRo Bs_9, cOwn (α := Int) 3 v33z ([(0 : Int), (99 : Int), (120 : Int), (80 : Int)]), cOwn (α := Pk) 72 u0_7 r5, cOwn (α := Int) 3 v23z ([(0 : Int), (100 : Int), (120 : Int), (80 : Int)]), cOwn (α := Pk) 72 u0_5 r4, cOwn (α := Int) 3 v13z ([(1 : Int), (3 : Int)]), cOwn (α := Pk) 72 u0_3 r3, cOwn (α := Int) 3 u0_2 r0, cOwn (α := Pk) 72 u0_1 r2] R := H.back H2_ rfl
 clear H2_
 refine s_val (x_mv (v := .tuple #[.agg #[I r00, I r01], I r16]) rfl) ?_
 refine s_val (x_ext (vs := [.agg #[I r00, I r01], I r16]) (v := .agg #[I r00, I r01]) rfl rfl) ?_
 refine s_val (x_ext (vs := [.agg #[I r00, I r01], I r16]) (v := I r16) rfl rfl) ?_
 refine t_alloc (cs := [I 0, I 0]) H Al35 rfl ?_
 intro b_14 w54z H
 refine t_st (k := 0) (b := b_14) (off := 0) (cs := [I 0, I 0]) (vs := [I r00, I r01]) (cs' := [I r00, I r01]) (v := .agg #[I r00, I r01]) (L' := [cBlk b_14 [I r00, I r01] 35, cOwn (α := Yr) 41 u0_10 r05, cOwn (α := Raw 3) 43 u1_11 rr2_12, cRo Bs3_13, cRo Bs_9, cOwn (α := Int) 3 v33z ([(0 : Int), (99 : Int), (120 : Int), (80 : Int)]), cOwn (α := Pk) 72 u0_7 r5, cOwn (α := Int) 3 v23z ([(0 : Int), (100 : Int), (120 : Int), (80 : Int)]), cOwn (α := Pk) 72 u0_5 r4, cOwn (α := Int) 3 v13z ([(1 : Int), (3 : Int)]), cOwn (α := Pk) 72 u0_3 r3, cOwn (α := Int) 3 u0_2 r0, cOwn (α := Pk) 72 u0_1 r2]) H rfl rfl rfl Sz35 rfl rfl rfl rfl rfl rfl ?_
 intro w55z H
 refine s_val (x_as (v := I r16) rfl) ?_
 refine s_nil ?_
 refine W.seq ?_
 refine W.region rfl ?_
 obtain ⟨r57z, hx56z, hM⟩ := M.e_bind hM
 refine s_call cf61 [] rfl (za9 hx56z _ (St.give (T := [cBlk b_14 [I r00, I r01] 35, cOwn (α := Yr) 41 u0_10 r05, cOwn (α := Raw 3) 43 u1_11 rr2_12, cRo Bs3_13, cRo Bs_9, cOwn (α := Int) 3 v33z ([(0 : Int), (99 : Int), (120 : Int), (80 : Int)]), cOwn (α := Pk) 72 u0_7 r5, cOwn (α := Int) 3 v23z ([(0 : Int), (100 : Int), (120 : Int), (80 : Int)]), cOwn (α := Pk) 72 u0_5 r4, cOwn (α := Int) 3 v13z ([(1 : Int), (3 : Int)]), cOwn (α := Pk) 72 u0_3 r3, cOwn (α := Int) 3 u0_2 r0, cOwn (α := Pk) 72 u0_1 r2]) H rfl)) ?_
 rintro vq w58z ⟨r06, r17, r24, r33, u0_15, u1_16, rr2_17, Bs3_18, hr59z, hvq, H2_, hf60z⟩
 subst hr59z
 subst vq
 try dsimp only at hM
 replace H : St w w58z [cOwn (α := Yr) 41 u0_15 r06, cOwn (α := Raw 3) 43 u1_16 rr2_17, cRo Bs3_18, cBlk b_14 [I r00, I r01] 35, cOwn (α := Yr) 41 u0_10 r05, cOwn (α := Raw 3) 43 u1_11 rr2_12, cRo Bs3_13, cRo Bs_9, cOwn (α := Int) 3 v33z ([(0 : Int), (99 : Int), (120 : Int), (80 : Int)]), cOwn (α := Pk) 72 u0_7 r5, cOwn (α := Int) 3 v23z ([(0 : Int), (100 : Int), (120 : Int), (80 : Int)]), cOwn (α := Pk) 72 u0_5 r4, cOwn (α := Int) 3 v13z ([(1 : Int), (3 : Int)]), cOwn (α := Pk) 72 u0_3 r3, cOwn (α := Int) 3 u0_2 r0, cOwn (α := Pk) 72 u0_1 r2] R := H.back H2_ rfl
 clear H2_
 obtain ⟨r62z, hx61z, hM⟩ := M.e_bind hM
 refine s_call cf15 [.agg #[u0_15, u1_16, I r24, I r33], I 1900, I 1909, I 410] rfl (zah r06 r17 r24 r33 1900 1909 410 (Reads.of (k := 0) rfl ownLe) (ownSl (H.get (k := 0) rfl)) (Reads.sup (Reads.of (k := 1) rfl ownLe) (Reads.of (k := 2) rfl roLe)) (rowSl rfl (H.get (k := 1) rfl) (roLe _ (H.get (k := 2) rfl)) hf60z) hx61z _ (St.give (T := [cOwn (α := Yr) 41 u0_15 r06, cOwn (α := Raw 3) 43 u1_16 rr2_17, cRo Bs3_18, cBlk b_14 [I r00, I r01] 35, cOwn (α := Yr) 41 u0_10 r05, cOwn (α := Raw 3) 43 u1_11 rr2_12, cRo Bs3_13, cRo Bs_9, cOwn (α := Int) 3 v33z ([(0 : Int), (99 : Int), (120 : Int), (80 : Int)]), cOwn (α := Pk) 72 u0_7 r5, cOwn (α := Int) 3 v23z ([(0 : Int), (100 : Int), (120 : Int), (80 : Int)]), cOwn (α := Pk) 72 u0_5 r4, cOwn (α := Int) 3 v13z ([(1 : Int), (3 : Int)]), cOwn (α := Pk) 72 u0_3 r3, cOwn (α := Int) 3 u0_2 r0, cOwn (α := Pk) 72 u0_1 r2]) H rfl)) ?_
 rintro vq w63z ⟨r002, r012, r18, hr64z, hvq, H2_⟩
 subst hr64z
 subst vq
 try dsimp only at hM
 replace H : St w w63z [cOwn (α := Yr) 41 u0_15 r06, cOwn (α := Raw 3) 43 u1_16 rr2_17, cRo Bs3_18, cBlk b_14 [I r00, I r01] 35, cOwn (α := Yr) 41 u0_10 r05, cOwn (α := Raw 3) 43 u1_11 rr2_12, cRo Bs3_13, cRo Bs_9, cOwn (α := Int) 3 v33z ([(0 : Int), (99 : Int), (120 : Int), (80 : Int)]), cOwn (α := Pk) 72 u0_7 r5, cOwn (α := Int) 3 v23z ([(0 : Int), (100 : Int), (120 : Int), (80 : Int)]), cOwn (α := Pk) 72 u0_5 r4, cOwn (α := Int) 3 v13z ([(1 : Int), (3 : Int)]), cOwn (α := Pk) 72 u0_3 r3, cOwn (α := Int) 3 u0_2 r0, cOwn (α := Pk) 72 u0_1 r2] R := H.back H2_ rfl
 clear H2_
 refine s_val (x_mv (v := .tuple #[.agg #[I r002, I r012], I r18]) rfl) ?_
 refine s_val (x_ext (vs := [.agg #[I r002, I r012], I r18]) (v := .agg #[I r002, I r012]) rfl rfl) ?_
 refine s_val (x_ext (vs := [.agg #[I r002, I r012], I r18]) (v := I r18) rfl rfl) ?_
 refine t_alloc (cs := [I 0, I 0]) H Al35 rfl ?_
 intro b_19 w65z H
 refine t_st (k := 0) (b := b_19) (off := 0) (cs := [I 0, I 0]) (vs := [I r002, I r012]) (cs' := [I r002, I r012]) (v := .agg #[I r002, I r012]) (L' := [cBlk b_19 [I r002, I r012] 35, cOwn (α := Yr) 41 u0_15 r06, cOwn (α := Raw 3) 43 u1_16 rr2_17, cRo Bs3_18, cBlk b_14 [I r00, I r01] 35, cOwn (α := Yr) 41 u0_10 r05, cOwn (α := Raw 3) 43 u1_11 rr2_12, cRo Bs3_13, cRo Bs_9, cOwn (α := Int) 3 v33z ([(0 : Int), (99 : Int), (120 : Int), (80 : Int)]), cOwn (α := Pk) 72 u0_7 r5, cOwn (α := Int) 3 v23z ([(0 : Int), (100 : Int), (120 : Int), (80 : Int)]), cOwn (α := Pk) 72 u0_5 r4, cOwn (α := Int) 3 v13z ([(1 : Int), (3 : Int)]), cOwn (α := Pk) 72 u0_3 r3, cOwn (α := Int) 3 u0_2 r0, cOwn (α := Pk) 72 u0_1 r2]) H rfl rfl rfl Sz35 rfl rfl rfl rfl rfl rfl ?_
 intro w66z H
 refine s_val (x_as (v := I r18) rfl) ?_
 refine s_nil ?_
 refine W.seq ?_
 refine W.region rfl ?_
 obtain ⟨r68z, hx67z, hM⟩ := M.e_bind hM
 refine s_call cf61 [] rfl (za9 hx67z _ (St.give (T := [cBlk b_19 [I r002, I r012] 35, cOwn (α := Yr) 41 u0_15 r06, cOwn (α := Raw 3) 43 u1_16 rr2_17, cRo Bs3_18, cBlk b_14 [I r00, I r01] 35, cOwn (α := Yr) 41 u0_10 r05, cOwn (α := Raw 3) 43 u1_11 rr2_12, cRo Bs3_13, cRo Bs_9, cOwn (α := Int) 3 v33z ([(0 : Int), (99 : Int), (120 : Int), (80 : Int)]), cOwn (α := Pk) 72 u0_7 r5, cOwn (α := Int) 3 v23z ([(0 : Int), (100 : Int), (120 : Int), (80 : Int)]), cOwn (α := Pk) 72 u0_5 r4, cOwn (α := Int) 3 v13z ([(1 : Int), (3 : Int)]), cOwn (α := Pk) 72 u0_3 r3, cOwn (α := Int) 3 u0_2 r0, cOwn (α := Pk) 72 u0_1 r2]) H rfl)) ?_
 rintro vq w69z ⟨r07, r19, r25, r34, u0_20, u1_21, rr2_22, Bs3_23, hr70z, hvq, H2_, hf71z⟩
 subst hr70z
 subst vq
 try dsimp only at hM
 replace H : St w w69z [cOwn (α := Yr) 41 u0_20 r07, cOwn (α := Raw 3) 43 u1_21 rr2_22, cRo Bs3_23, cBlk b_19 [I r002, I r012] 35, cOwn (α := Yr) 41 u0_15 r06, cOwn (α := Raw 3) 43 u1_16 rr2_17, cRo Bs3_18, cBlk b_14 [I r00, I r01] 35, cOwn (α := Yr) 41 u0_10 r05, cOwn (α := Raw 3) 43 u1_11 rr2_12, cRo Bs3_13, cRo Bs_9, cOwn (α := Int) 3 v33z ([(0 : Int), (99 : Int), (120 : Int), (80 : Int)]), cOwn (α := Pk) 72 u0_7 r5, cOwn (α := Int) 3 v23z ([(0 : Int), (100 : Int), (120 : Int), (80 : Int)]), cOwn (α := Pk) 72 u0_5 r4, cOwn (α := Int) 3 v13z ([(1 : Int), (3 : Int)]), cOwn (α := Pk) 72 u0_3 r3, cOwn (α := Int) 3 u0_2 r0, cOwn (α := Pk) 72 u0_1 r2] R := H.back H2_ rfl
 clear H2_
 obtain ⟨r73z, hx72z, hM⟩ := M.e_bind hM
 refine s_call cf26 [.agg #[u0_20, u1_21, I r25, I r34], I 410] rfl (zcG r07 r19 r25 r34 410 (Reads.of (k := 0) rfl ownLe) (ownSl (H.get (k := 0) rfl)) (Reads.sup (Reads.of (k := 1) rfl ownLe) (Reads.of (k := 2) rfl roLe)) (rowSl rfl (H.get (k := 1) rfl) (roLe _ (H.get (k := 2) rfl)) hf71z) hx72z _ (St.give (T := [cOwn (α := Yr) 41 u0_20 r07, cOwn (α := Raw 3) 43 u1_21 rr2_22, cRo Bs3_23, cBlk b_19 [I r002, I r012] 35, cOwn (α := Yr) 41 u0_15 r06, cOwn (α := Raw 3) 43 u1_16 rr2_17, cRo Bs3_18, cBlk b_14 [I r00, I r01] 35, cOwn (α := Yr) 41 u0_10 r05, cOwn (α := Raw 3) 43 u1_11 rr2_12, cRo Bs3_13, cRo Bs_9, cOwn (α := Int) 3 v33z ([(0 : Int), (99 : Int), (120 : Int), (80 : Int)]), cOwn (α := Pk) 72 u0_7 r5, cOwn (α := Int) 3 v23z ([(0 : Int), (100 : Int), (120 : Int), (80 : Int)]), cOwn (α := Pk) 72 u0_5 r4, cOwn (α := Int) 3 v13z ([(1 : Int), (3 : Int)]), cOwn (α := Pk) 72 u0_3 r3, cOwn (α := Int) 3 u0_2 r0, cOwn (α := Pk) 72 u0_1 r2]) H rfl)) ?_
 rintro vq w74z ⟨r003, r013, r10, r11, r26, hr75z, hvq, H2_⟩
 subst hr75z
 subst vq
 try dsimp only at hM
 replace H : St w w74z [cOwn (α := Yr) 41 u0_20 r07, cOwn (α := Raw 3) 43 u1_21 rr2_22, cRo Bs3_23, cBlk b_19 [I r002, I r012] 35, cOwn (α := Yr) 41 u0_15 r06, cOwn (α := Raw 3) 43 u1_16 rr2_17, cRo Bs3_18, cBlk b_14 [I r00, I r01] 35, cOwn (α := Yr) 41 u0_10 r05, cOwn (α := Raw 3) 43 u1_11 rr2_12, cRo Bs3_13, cRo Bs_9, cOwn (α := Int) 3 v33z ([(0 : Int), (99 : Int), (120 : Int), (80 : Int)]), cOwn (α := Pk) 72 u0_7 r5, cOwn (α := Int) 3 v23z ([(0 : Int), (100 : Int), (120 : Int), (80 : Int)]), cOwn (α := Pk) 72 u0_5 r4, cOwn (α := Int) 3 v13z ([(1 : Int), (3 : Int)]), cOwn (α := Pk) 72 u0_3 r3, cOwn (α := Int) 3 u0_2 r0, cOwn (α := Pk) 72 u0_1 r2] R := H.back H2_ rfl
 clear H2_
 refine s_val (x_mv (v := .tuple #[.agg #[I r003, I r013], .agg #[I r10, I r11], I r26]) rfl) ?_
 refine s_val (x_ext (vs := [.agg #[I r003, I r013], .agg #[I r10, I r11], I r26]) (v := .agg #[I r003, I r013]) rfl rfl) ?_
 refine s_val (x_ext (vs := [.agg #[I r003, I r013], .agg #[I r10, I r11], I r26]) (v := .agg #[I r10, I r11]) rfl rfl) ?_
 refine s_val (x_ext (vs := [.agg #[I r003, I r013], .agg #[I r10, I r11], I r26]) (v := I r26) rfl rfl) ?_
 refine t_alloc (cs := [I 0, I 0]) H Al63 rfl ?_
 intro b_24 w76z H
 refine t_alloc (cs := [I 0, I 0]) H Al63 rfl ?_
 intro b_25 w77z H
 refine t_st (k := 1) (b := b_24) (off := 0) (cs := [I 0, I 0]) (vs := [I r003, I r013]) (cs' := [I r003, I r013]) (v := .agg #[I r003, I r013]) (L' := [cBlk b_25 [I 0, I 0] 63, cBlk b_24 [I r003, I r013] 63, cOwn (α := Yr) 41 u0_20 r07, cOwn (α := Raw 3) 43 u1_21 rr2_22, cRo Bs3_23, cBlk b_19 [I r002, I r012] 35, cOwn (α := Yr) 41 u0_15 r06, cOwn (α := Raw 3) 43 u1_16 rr2_17, cRo Bs3_18, cBlk b_14 [I r00, I r01] 35, cOwn (α := Yr) 41 u0_10 r05, cOwn (α := Raw 3) 43 u1_11 rr2_12, cRo Bs3_13, cRo Bs_9, cOwn (α := Int) 3 v33z ([(0 : Int), (99 : Int), (120 : Int), (80 : Int)]), cOwn (α := Pk) 72 u0_7 r5, cOwn (α := Int) 3 v23z ([(0 : Int), (100 : Int), (120 : Int), (80 : Int)]), cOwn (α := Pk) 72 u0_5 r4, cOwn (α := Int) 3 v13z ([(1 : Int), (3 : Int)]), cOwn (α := Pk) 72 u0_3 r3, cOwn (α := Int) 3 u0_2 r0, cOwn (α := Pk) 72 u0_1 r2]) H rfl rfl rfl Sz63 rfl rfl rfl rfl rfl rfl ?_
 intro w78z H
 refine t_st (k := 0) (b := b_25) (off := 0) (cs := [I 0, I 0]) (vs := [I r10, I r11]) (cs' := [I r10, I r11]) (v := .agg #[I r10, I r11]) (L' := [cBlk b_25 [I r10, I r11] 63, cBlk b_24 [I r003, I r013] 63, cOwn (α := Yr) 41 u0_20 r07, cOwn (α := Raw 3) 43 u1_21 rr2_22, cRo Bs3_23, cBlk b_19 [I r002, I r012] 35, cOwn (α := Yr) 41 u0_15 r06, cOwn (α := Raw 3) 43 u1_16 rr2_17, cRo Bs3_18, cBlk b_14 [I r00, I r01] 35, cOwn (α := Yr) 41 u0_10 r05, cOwn (α := Raw 3) 43 u1_11 rr2_12, cRo Bs3_13, cRo Bs_9, cOwn (α := Int) 3 v33z ([(0 : Int), (99 : Int), (120 : Int), (80 : Int)]), cOwn (α := Pk) 72 u0_7 r5, cOwn (α := Int) 3 v23z ([(0 : Int), (100 : Int), (120 : Int), (80 : Int)]), cOwn (α := Pk) 72 u0_5 r4, cOwn (α := Int) 3 v13z ([(1 : Int), (3 : Int)]), cOwn (α := Pk) 72 u0_3 r3, cOwn (α := Int) 3 u0_2 r0, cOwn (α := Pk) 72 u0_1 r2]) H rfl rfl rfl Sz63 rfl rfl rfl rfl rfl rfl ?_
 intro w79z H
 refine s_val (x_as (v := I r26) rfl) ?_
 refine s_nil ?_
 refine W.seq ?_
 refine W.region rfl ?_
 obtain ⟨r81z, hx80z, hM⟩ := M.e_bind hM
 refine s_call cf61 [] rfl (za9 hx80z _ (St.give (T := [cBlk b_25 [I r10, I r11] 63, cBlk b_24 [I r003, I r013] 63, cOwn (α := Yr) 41 u0_20 r07, cOwn (α := Raw 3) 43 u1_21 rr2_22, cRo Bs3_23, cBlk b_19 [I r002, I r012] 35, cOwn (α := Yr) 41 u0_15 r06, cOwn (α := Raw 3) 43 u1_16 rr2_17, cRo Bs3_18, cBlk b_14 [I r00, I r01] 35, cOwn (α := Yr) 41 u0_10 r05, cOwn (α := Raw 3) 43 u1_11 rr2_12, cRo Bs3_13, cRo Bs_9, cOwn (α := Int) 3 v33z ([(0 : Int), (99 : Int), (120 : Int), (80 : Int)]), cOwn (α := Pk) 72 u0_7 r5, cOwn (α := Int) 3 v23z ([(0 : Int), (100 : Int), (120 : Int), (80 : Int)]), cOwn (α := Pk) 72 u0_5 r4, cOwn (α := Int) 3 v13z ([(1 : Int), (3 : Int)]), cOwn (α := Pk) 72 u0_3 r3, cOwn (α := Int) 3 u0_2 r0, cOwn (α := Pk) 72 u0_1 r2]) H rfl)) ?_
 rintro vq w82z ⟨r08, r110, r27, r35, u0_26, u1_27, rr2_28, Bs3_29, hr83z, hvq, H2_, hf84z⟩
 subst hr83z
 subst vq
 try dsimp only at hM
 replace H : St w w82z [cOwn (α := Yr) 41 u0_26 r08, cOwn (α := Raw 3) 43 u1_27 rr2_28, cRo Bs3_29, cBlk b_25 [I r10, I r11] 63, cBlk b_24 [I r003, I r013] 63, cOwn (α := Yr) 41 u0_20 r07, cOwn (α := Raw 3) 43 u1_21 rr2_22, cRo Bs3_23, cBlk b_19 [I r002, I r012] 35, cOwn (α := Yr) 41 u0_15 r06, cOwn (α := Raw 3) 43 u1_16 rr2_17, cRo Bs3_18, cBlk b_14 [I r00, I r01] 35, cOwn (α := Yr) 41 u0_10 r05, cOwn (α := Raw 3) 43 u1_11 rr2_12, cRo Bs3_13, cRo Bs_9, cOwn (α := Int) 3 v33z ([(0 : Int), (99 : Int), (120 : Int), (80 : Int)]), cOwn (α := Pk) 72 u0_7 r5, cOwn (α := Int) 3 v23z ([(0 : Int), (100 : Int), (120 : Int), (80 : Int)]), cOwn (α := Pk) 72 u0_5 r4, cOwn (α := Int) 3 v13z ([(1 : Int), (3 : Int)]), cOwn (α := Pk) 72 u0_3 r3, cOwn (α := Int) 3 u0_2 r0, cOwn (α := Pk) 72 u0_1 r2] R := H.back H2_ rfl
 clear H2_
 obtain ⟨r86z, hx85z, hM⟩ := M.e_bind hM
 refine s_call cf17 [.agg #[u0_26, u1_27, I r27, I r35], I 1900, I 1906, I 2] rfl (zcg r08 r110 r27 r35 1900 1906 2 (Reads.of (k := 0) rfl ownLe) (ownSl (H.get (k := 0) rfl)) (Reads.sup (Reads.of (k := 1) rfl ownLe) (Reads.of (k := 2) rfl roLe)) (rowSl rfl (H.get (k := 1) rfl) (roLe _ (H.get (k := 2) rfl)) hf84z) hx85z _ (St.give (T := [cOwn (α := Yr) 41 u0_26 r08, cOwn (α := Raw 3) 43 u1_27 rr2_28, cRo Bs3_29, cBlk b_25 [I r10, I r11] 63, cBlk b_24 [I r003, I r013] 63, cOwn (α := Yr) 41 u0_20 r07, cOwn (α := Raw 3) 43 u1_21 rr2_22, cRo Bs3_23, cBlk b_19 [I r002, I r012] 35, cOwn (α := Yr) 41 u0_15 r06, cOwn (α := Raw 3) 43 u1_16 rr2_17, cRo Bs3_18, cBlk b_14 [I r00, I r01] 35, cOwn (α := Yr) 41 u0_10 r05, cOwn (α := Raw 3) 43 u1_11 rr2_12, cRo Bs3_13, cRo Bs_9, cOwn (α := Int) 3 v33z ([(0 : Int), (99 : Int), (120 : Int), (80 : Int)]), cOwn (α := Pk) 72 u0_7 r5, cOwn (α := Int) 3 v23z ([(0 : Int), (100 : Int), (120 : Int), (80 : Int)]), cOwn (α := Pk) 72 u0_5 r4, cOwn (α := Int) 3 v13z ([(1 : Int), (3 : Int)]), cOwn (α := Pk) 72 u0_3 r3, cOwn (α := Int) 3 u0_2 r0, cOwn (α := Pk) 72 u0_1 r2]) H rfl)) ?_
 rintro vq w87z ⟨r004, r014, r111, hr88z, hvq, H2_⟩
 subst hr88z
 subst vq
 try dsimp only at hM
 replace H : St w w87z [cOwn (α := Yr) 41 u0_26 r08, cOwn (α := Raw 3) 43 u1_27 rr2_28, cRo Bs3_29, cBlk b_25 [I r10, I r11] 63, cBlk b_24 [I r003, I r013] 63, cOwn (α := Yr) 41 u0_20 r07, cOwn (α := Raw 3) 43 u1_21 rr2_22, cRo Bs3_23, cBlk b_19 [I r002, I r012] 35, cOwn (α := Yr) 41 u0_15 r06, cOwn (α := Raw 3) 43 u1_16 rr2_17, cRo Bs3_18, cBlk b_14 [I r00, I r01] 35, cOwn (α := Yr) 41 u0_10 r05, cOwn (α := Raw 3) 43 u1_11 rr2_12, cRo Bs3_13, cRo Bs_9, cOwn (α := Int) 3 v33z ([(0 : Int), (99 : Int), (120 : Int), (80 : Int)]), cOwn (α := Pk) 72 u0_7 r5, cOwn (α := Int) 3 v23z ([(0 : Int), (100 : Int), (120 : Int), (80 : Int)]), cOwn (α := Pk) 72 u0_5 r4, cOwn (α := Int) 3 v13z ([(1 : Int), (3 : Int)]), cOwn (α := Pk) 72 u0_3 r3, cOwn (α := Int) 3 u0_2 r0, cOwn (α := Pk) 72 u0_1 r2] R := H.back H2_ rfl
 clear H2_
 refine s_val (x_mv (v := .tuple #[.agg #[I r004, I r014], I r111]) rfl) ?_
 refine s_val (x_ext (vs := [.agg #[I r004, I r014], I r111]) (v := .agg #[I r004, I r014]) rfl rfl) ?_
 refine s_val (x_ext (vs := [.agg #[I r004, I r014], I r111]) (v := I r111) rfl rfl) ?_
 refine t_alloc (cs := [I 0, I 0]) H Al35 rfl ?_
 intro b_30 w89z H
 refine t_st (k := 0) (b := b_30) (off := 0) (cs := [I 0, I 0]) (vs := [I r004, I r014]) (cs' := [I r004, I r014]) (v := .agg #[I r004, I r014]) (L' := [cBlk b_30 [I r004, I r014] 35, cOwn (α := Yr) 41 u0_26 r08, cOwn (α := Raw 3) 43 u1_27 rr2_28, cRo Bs3_29, cBlk b_25 [I r10, I r11] 63, cBlk b_24 [I r003, I r013] 63, cOwn (α := Yr) 41 u0_20 r07, cOwn (α := Raw 3) 43 u1_21 rr2_22, cRo Bs3_23, cBlk b_19 [I r002, I r012] 35, cOwn (α := Yr) 41 u0_15 r06, cOwn (α := Raw 3) 43 u1_16 rr2_17, cRo Bs3_18, cBlk b_14 [I r00, I r01] 35, cOwn (α := Yr) 41 u0_10 r05, cOwn (α := Raw 3) 43 u1_11 rr2_12, cRo Bs3_13, cRo Bs_9, cOwn (α := Int) 3 v33z ([(0 : Int), (99 : Int), (120 : Int), (80 : Int)]), cOwn (α := Pk) 72 u0_7 r5, cOwn (α := Int) 3 v23z ([(0 : Int), (100 : Int), (120 : Int), (80 : Int)]), cOwn (α := Pk) 72 u0_5 r4, cOwn (α := Int) 3 v13z ([(1 : Int), (3 : Int)]), cOwn (α := Pk) 72 u0_3 r3, cOwn (α := Int) 3 u0_2 r0, cOwn (α := Pk) 72 u0_1 r2]) H rfl rfl rfl Sz35 rfl rfl rfl rfl rfl rfl ?_
 intro w90z H
 refine s_val (x_as (v := I r111) rfl) ?_
 refine s_nil ?_
 refine W.seq ?_
 refine W.region rfl ?_
 refine s_val (x_mv (v := I r16) rfl) ?_
 refine s_val (x_cmp (kd := .i64) (a := r16) (b := 0) (r := r16 == 0) rfl rfl rfl) ?_
 refine s_val (x_mv (v := B (r16 == 0)) rfl) ?_
 refine g_val (r16 == 0) (gy_t rfl) (fun hg => x_mv (v := I r18) rfl) ?_
 refine g_val (r16 == 0) (gy_t rfl) (fun hg => x_cmp (kd := .i64) (a := r18) (b := 0) (r := r18 == 0) (gd_of (c := r16 == 0) hg (I r18)) rfl rfl) ?_
 refine s_val (x_pand (b := r16 == 0) (r := r18 == 0) rfl (fun hb => gd_of (c := r16 == 0) (by first | exact hb | (rw [hb]; rfl) | simp_all) (B (r18 == 0))) rfl) ?_
 refine s_val (x_mv (v := B ((r16 == 0) && (r18 == 0))) rfl) ?_
 refine g_val ((r16 == 0) && (r18 == 0)) (gy_t rfl) (fun hg => x_mv (v := I r26) rfl) ?_
 refine g_val ((r16 == 0) && (r18 == 0)) (gy_t rfl) (fun hg => x_cmp (kd := .i64) (a := r26) (b := 0) (r := r26 == 0) (gd_of (c := ((r16 == 0) && (r18 == 0))) hg (I r26)) rfl rfl) ?_
 refine s_val (x_pand (b := ((r16 == 0) && (r18 == 0))) (r := r26 == 0) rfl (fun hb => gd_of (c := ((r16 == 0) && (r18 == 0))) (by first | exact hb | (rw [hb]; rfl) | simp_all) (B (r26 == 0))) rfl) ?_
 refine s_val (x_mv (v := B (((r16 == 0) && (r18 == 0)) && (r26 == 0))) rfl) ?_
 refine g_val (((r16 == 0) && (r18 == 0)) && (r26 == 0)) (gy_t rfl) (fun hg => x_mv (v := I r111) rfl) ?_
 refine g_val (((r16 == 0) && (r18 == 0)) && (r26 == 0)) (gy_t rfl) (fun hg => x_cmp (kd := .i64) (a := r111) (b := 0) (r := r111 == 0) (gd_of (c := (((r16 == 0) && (r18 == 0)) && (r26 == 0))) hg (I r111)) rfl rfl) ?_
 refine s_val (x_pand (b := (((r16 == 0) && (r18 == 0)) && (r26 == 0))) (r := r111 == 0) rfl (fun hb => gd_of (c := (((r16 == 0) && (r18 == 0)) && (r26 == 0))) (by first | exact hb | (rw [hb]; rfl) | simp_all) (B (r111 == 0))) rfl) ?_
 refine s_val (x_mv (v := B ((((r16 == 0) && (r18 == 0)) && (r26 == 0)) && (r111 == 0))) rfl) ?_
 refine g_val ((((r16 == 0) && (r18 == 0)) && (r26 == 0)) && (r111 == 0)) (gy_t rfl) (fun hg => x_ld (p := .pointer (some ⟨b_14, 0, none⟩)) (v := .agg #[I r00, I r01]) rfl (ldb_ag (ds := [I r00, I r01]) Ag35 Sz35 (H.blk (k := 13) rfl) rfl rfl)) ?_
 refine g_val ((((r16 == 0) && (r18 == 0)) && (r26 == 0)) && (r111 == 0)) (gy_t rfl) (fun hg => x_bld (ps := [(0, I 1), (1, I 4)]) (zs := [I 0, I 0]) (L' := [I 1, I 4]) rfl Try.underlying35 Al35 rfl (Bd35 Try.underlying35) (.cons (cs := [I 1]) rfl rfl rfl rfl rfl <| .cons (cs := [I 4]) rfl rfl rfl rfl rfl <| .nil)) ?_
 refine g_val ((((r16 == 0) && (r18 == 0)) && (r26 == 0)) && (r111 == 0)) (gy_t rfl) (fun hg => x_eqS (eqT35 (⟨(r00 : Int), (r01 : Int)⟩ : Span) (⟨(1 : Int), (4 : Int)⟩ : Span) _) gdT35 (gd_of (c := ((((r16 == 0) && (r18 == 0)) && (r26 == 0)) && (r111 == 0))) hg (.agg #[I r00, I r01])) (gd_of (c := ((((r16 == 0) && (r18 == 0)) && (r26 == 0)) && (r111 == 0))) hg (.agg #[I 1, I 4]))) ?_
 refine s_val (x_pand (b := ((((r16 == 0) && (r18 == 0)) && (r26 == 0)) && (r111 == 0))) (r := decide ((⟨(r00 : Int), (r01 : Int)⟩ : Span) = (⟨(1 : Int), (4 : Int)⟩ : Span))) rfl (fun hb => gd_of (c := ((((r16 == 0) && (r18 == 0)) && (r26 == 0)) && (r111 == 0))) (by first | exact hb | (rw [hb]; rfl) | simp_all) (B (decide ((⟨(r00 : Int), (r01 : Int)⟩ : Span) = (⟨(1 : Int), (4 : Int)⟩ : Span))))) rfl) ?_
 refine s_val (x_mv (v := B (((((r16 == 0) && (r18 == 0)) && (r26 == 0)) && (r111 == 0)) && (decide ((⟨(r00 : Int), (r01 : Int)⟩ : Span) = (⟨(1 : Int), (4 : Int)⟩ : Span))))) rfl) ?_
 refine g_val (((((r16 == 0) && (r18 == 0)) && (r26 == 0)) && (r111 == 0)) && (decide ((⟨(r00 : Int), (r01 : Int)⟩ : Span) = (⟨(1 : Int), (4 : Int)⟩ : Span)))) (gy_t rfl) (fun hg => x_ld (p := .pointer (some ⟨b_19, 0, none⟩)) (v := .agg #[I r002, I r012]) rfl (ldb_ag (ds := [I r002, I r012]) Ag35 Sz35 (H.blk (k := 9) rfl) rfl rfl)) ?_
 refine g_val (((((r16 == 0) && (r18 == 0)) && (r26 == 0)) && (r111 == 0)) && (decide ((⟨(r00 : Int), (r01 : Int)⟩ : Span) = (⟨(1 : Int), (4 : Int)⟩ : Span)))) (gy_t rfl) (fun hg => x_bld (ps := [(0, I 1), (1, I 9)]) (zs := [I 0, I 0]) (L' := [I 1, I 9]) rfl Try.underlying35 Al35 rfl (Bd35 Try.underlying35) (.cons (cs := [I 1]) rfl rfl rfl rfl rfl <| .cons (cs := [I 9]) rfl rfl rfl rfl rfl <| .nil)) ?_
 refine g_val (((((r16 == 0) && (r18 == 0)) && (r26 == 0)) && (r111 == 0)) && (decide ((⟨(r00 : Int), (r01 : Int)⟩ : Span) = (⟨(1 : Int), (4 : Int)⟩ : Span)))) (gy_t rfl) (fun hg => x_eqS (eqT35 (⟨(r002 : Int), (r012 : Int)⟩ : Span) (⟨(1 : Int), (9 : Int)⟩ : Span) _) gdT35 (gd_of (c := (((((r16 == 0) && (r18 == 0)) && (r26 == 0)) && (r111 == 0)) && (decide ((⟨(r00 : Int), (r01 : Int)⟩ : Span) = (⟨(1 : Int), (4 : Int)⟩ : Span))))) hg (.agg #[I r002, I r012])) (gd_of (c := (((((r16 == 0) && (r18 == 0)) && (r26 == 0)) && (r111 == 0)) && (decide ((⟨(r00 : Int), (r01 : Int)⟩ : Span) = (⟨(1 : Int), (4 : Int)⟩ : Span))))) hg (.agg #[I 1, I 9]))) ?_
 refine s_val (x_pand (b := (((((r16 == 0) && (r18 == 0)) && (r26 == 0)) && (r111 == 0)) && (decide ((⟨(r00 : Int), (r01 : Int)⟩ : Span) = (⟨(1 : Int), (4 : Int)⟩ : Span))))) (r := decide ((⟨(r002 : Int), (r012 : Int)⟩ : Span) = (⟨(1 : Int), (9 : Int)⟩ : Span))) rfl (fun hb => gd_of (c := (((((r16 == 0) && (r18 == 0)) && (r26 == 0)) && (r111 == 0)) && (decide ((⟨(r00 : Int), (r01 : Int)⟩ : Span) = (⟨(1 : Int), (4 : Int)⟩ : Span))))) (by first | exact hb | (rw [hb]; rfl) | simp_all) (B (decide ((⟨(r002 : Int), (r012 : Int)⟩ : Span) = (⟨(1 : Int), (9 : Int)⟩ : Span))))) rfl) ?_
 refine s_val (x_mv (v := B ((((((r16 == 0) && (r18 == 0)) && (r26 == 0)) && (r111 == 0)) && (decide ((⟨(r00 : Int), (r01 : Int)⟩ : Span) = (⟨(1 : Int), (4 : Int)⟩ : Span)))) && (decide ((⟨(r002 : Int), (r012 : Int)⟩ : Span) = (⟨(1 : Int), (9 : Int)⟩ : Span))))) rfl) ?_
 refine g_val ((((((r16 == 0) && (r18 == 0)) && (r26 == 0)) && (r111 == 0)) && (decide ((⟨(r00 : Int), (r01 : Int)⟩ : Span) = (⟨(1 : Int), (4 : Int)⟩ : Span)))) && (decide ((⟨(r002 : Int), (r012 : Int)⟩ : Span) = (⟨(1 : Int), (9 : Int)⟩ : Span)))) (gy_t rfl) (fun hg => x_ld (p := .pointer (some ⟨b_24, 0, none⟩)) (v := .agg #[I r003, I r013]) rfl (ldb_ag (ds := [I r003, I r013]) Ag63 Sz63 (H.blk (k := 5) rfl) rfl rfl)) ?_
 refine g_val ((((((r16 == 0) && (r18 == 0)) && (r26 == 0)) && (r111 == 0)) && (decide ((⟨(r00 : Int), (r01 : Int)⟩ : Span) = (⟨(1 : Int), (4 : Int)⟩ : Span)))) && (decide ((⟨(r002 : Int), (r012 : Int)⟩ : Span) = (⟨(1 : Int), (9 : Int)⟩ : Span)))) (gy_t rfl) (fun hg => x_bld (ps := [(0, I 1), (1, I 10)]) (zs := [I 0, I 0]) (L' := [I 1, I 10]) rfl Try.underlying63 Al63 rfl (Bd63 Try.underlying63) (.cons (cs := [I 1]) rfl rfl rfl rfl rfl <| .cons (cs := [I 10]) rfl rfl rfl rfl rfl <| .nil)) ?_
 refine g_val ((((((r16 == 0) && (r18 == 0)) && (r26 == 0)) && (r111 == 0)) && (decide ((⟨(r00 : Int), (r01 : Int)⟩ : Span) = (⟨(1 : Int), (4 : Int)⟩ : Span)))) && (decide ((⟨(r002 : Int), (r012 : Int)⟩ : Span) = (⟨(1 : Int), (9 : Int)⟩ : Span)))) (gy_t rfl) (fun hg => x_eqS (eqT63 (⟨(r003 : Int), (r013 : Int)⟩ : Rto) (⟨(1 : Int), (10 : Int)⟩ : Rto) _) gdT63 (gd_of (c := ((((((r16 == 0) && (r18 == 0)) && (r26 == 0)) && (r111 == 0)) && (decide ((⟨(r00 : Int), (r01 : Int)⟩ : Span) = (⟨(1 : Int), (4 : Int)⟩ : Span)))) && (decide ((⟨(r002 : Int), (r012 : Int)⟩ : Span) = (⟨(1 : Int), (9 : Int)⟩ : Span))))) hg (.agg #[I r003, I r013])) (gd_of (c := ((((((r16 == 0) && (r18 == 0)) && (r26 == 0)) && (r111 == 0)) && (decide ((⟨(r00 : Int), (r01 : Int)⟩ : Span) = (⟨(1 : Int), (4 : Int)⟩ : Span)))) && (decide ((⟨(r002 : Int), (r012 : Int)⟩ : Span) = (⟨(1 : Int), (9 : Int)⟩ : Span))))) hg (.agg #[I 1, I 10]))) ?_
 refine s_val (x_pand (b := ((((((r16 == 0) && (r18 == 0)) && (r26 == 0)) && (r111 == 0)) && (decide ((⟨(r00 : Int), (r01 : Int)⟩ : Span) = (⟨(1 : Int), (4 : Int)⟩ : Span)))) && (decide ((⟨(r002 : Int), (r012 : Int)⟩ : Span) = (⟨(1 : Int), (9 : Int)⟩ : Span))))) (r := decide ((⟨(r003 : Int), (r013 : Int)⟩ : Rto) = (⟨(1 : Int), (10 : Int)⟩ : Rto))) rfl (fun hb => gd_of (c := ((((((r16 == 0) && (r18 == 0)) && (r26 == 0)) && (r111 == 0)) && (decide ((⟨(r00 : Int), (r01 : Int)⟩ : Span) = (⟨(1 : Int), (4 : Int)⟩ : Span)))) && (decide ((⟨(r002 : Int), (r012 : Int)⟩ : Span) = (⟨(1 : Int), (9 : Int)⟩ : Span))))) (by first | exact hb | (rw [hb]; rfl) | simp_all) (B (decide ((⟨(r003 : Int), (r013 : Int)⟩ : Rto) = (⟨(1 : Int), (10 : Int)⟩ : Rto))))) rfl) ?_
 refine s_val (x_mv (v := B (((((((r16 == 0) && (r18 == 0)) && (r26 == 0)) && (r111 == 0)) && (decide ((⟨(r00 : Int), (r01 : Int)⟩ : Span) = (⟨(1 : Int), (4 : Int)⟩ : Span)))) && (decide ((⟨(r002 : Int), (r012 : Int)⟩ : Span) = (⟨(1 : Int), (9 : Int)⟩ : Span)))) && (decide ((⟨(r003 : Int), (r013 : Int)⟩ : Rto) = (⟨(1 : Int), (10 : Int)⟩ : Rto))))) rfl) ?_
 refine g_val (((((((r16 == 0) && (r18 == 0)) && (r26 == 0)) && (r111 == 0)) && (decide ((⟨(r00 : Int), (r01 : Int)⟩ : Span) = (⟨(1 : Int), (4 : Int)⟩ : Span)))) && (decide ((⟨(r002 : Int), (r012 : Int)⟩ : Span) = (⟨(1 : Int), (9 : Int)⟩ : Span)))) && (decide ((⟨(r003 : Int), (r013 : Int)⟩ : Rto) = (⟨(1 : Int), (10 : Int)⟩ : Rto)))) (gy_t rfl) (fun hg => x_ld (p := .pointer (some ⟨b_25, 0, none⟩)) (v := .agg #[I r10, I r11]) rfl (ldb_ag (ds := [I r10, I r11]) Ag63 Sz63 (H.blk (k := 4) rfl) rfl rfl)) ?_
 refine g_val (((((((r16 == 0) && (r18 == 0)) && (r26 == 0)) && (r111 == 0)) && (decide ((⟨(r00 : Int), (r01 : Int)⟩ : Span) = (⟨(1 : Int), (4 : Int)⟩ : Span)))) && (decide ((⟨(r002 : Int), (r012 : Int)⟩ : Span) = (⟨(1 : Int), (9 : Int)⟩ : Span)))) && (decide ((⟨(r003 : Int), (r013 : Int)⟩ : Rto) = (⟨(1 : Int), (10 : Int)⟩ : Rto)))) (gy_t rfl) (fun hg => x_bld (ps := [(0, I 9), (1, I 10)]) (zs := [I 0, I 0]) (L' := [I 9, I 10]) rfl Try.underlying63 Al63 rfl (Bd63 Try.underlying63) (.cons (cs := [I 9]) rfl rfl rfl rfl rfl <| .cons (cs := [I 10]) rfl rfl rfl rfl rfl <| .nil)) ?_
 refine g_val (((((((r16 == 0) && (r18 == 0)) && (r26 == 0)) && (r111 == 0)) && (decide ((⟨(r00 : Int), (r01 : Int)⟩ : Span) = (⟨(1 : Int), (4 : Int)⟩ : Span)))) && (decide ((⟨(r002 : Int), (r012 : Int)⟩ : Span) = (⟨(1 : Int), (9 : Int)⟩ : Span)))) && (decide ((⟨(r003 : Int), (r013 : Int)⟩ : Rto) = (⟨(1 : Int), (10 : Int)⟩ : Rto)))) (gy_t rfl) (fun hg => x_eqS (eqT63 (⟨(r10 : Int), (r11 : Int)⟩ : Rto) (⟨(9 : Int), (10 : Int)⟩ : Rto) _) gdT63 (gd_of (c := (((((((r16 == 0) && (r18 == 0)) && (r26 == 0)) && (r111 == 0)) && (decide ((⟨(r00 : Int), (r01 : Int)⟩ : Span) = (⟨(1 : Int), (4 : Int)⟩ : Span)))) && (decide ((⟨(r002 : Int), (r012 : Int)⟩ : Span) = (⟨(1 : Int), (9 : Int)⟩ : Span)))) && (decide ((⟨(r003 : Int), (r013 : Int)⟩ : Rto) = (⟨(1 : Int), (10 : Int)⟩ : Rto))))) hg (.agg #[I r10, I r11])) (gd_of (c := (((((((r16 == 0) && (r18 == 0)) && (r26 == 0)) && (r111 == 0)) && (decide ((⟨(r00 : Int), (r01 : Int)⟩ : Span) = (⟨(1 : Int), (4 : Int)⟩ : Span)))) && (decide ((⟨(r002 : Int), (r012 : Int)⟩ : Span) = (⟨(1 : Int), (9 : Int)⟩ : Span)))) && (decide ((⟨(r003 : Int), (r013 : Int)⟩ : Rto) = (⟨(1 : Int), (10 : Int)⟩ : Rto))))) hg (.agg #[I 9, I 10]))) ?_
 refine s_val (x_pand (b := (((((((r16 == 0) && (r18 == 0)) && (r26 == 0)) && (r111 == 0)) && (decide ((⟨(r00 : Int), (r01 : Int)⟩ : Span) = (⟨(1 : Int), (4 : Int)⟩ : Span)))) && (decide ((⟨(r002 : Int), (r012 : Int)⟩ : Span) = (⟨(1 : Int), (9 : Int)⟩ : Span)))) && (decide ((⟨(r003 : Int), (r013 : Int)⟩ : Rto) = (⟨(1 : Int), (10 : Int)⟩ : Rto))))) (r := decide ((⟨(r10 : Int), (r11 : Int)⟩ : Rto) = (⟨(9 : Int), (10 : Int)⟩ : Rto))) rfl (fun hb => gd_of (c := (((((((r16 == 0) && (r18 == 0)) && (r26 == 0)) && (r111 == 0)) && (decide ((⟨(r00 : Int), (r01 : Int)⟩ : Span) = (⟨(1 : Int), (4 : Int)⟩ : Span)))) && (decide ((⟨(r002 : Int), (r012 : Int)⟩ : Span) = (⟨(1 : Int), (9 : Int)⟩ : Span)))) && (decide ((⟨(r003 : Int), (r013 : Int)⟩ : Rto) = (⟨(1 : Int), (10 : Int)⟩ : Rto))))) (by first | exact hb | (rw [hb]; rfl) | simp_all) (B (decide ((⟨(r10 : Int), (r11 : Int)⟩ : Rto) = (⟨(9 : Int), (10 : Int)⟩ : Rto))))) rfl) ?_
 refine s_val (x_mv (v := B ((((((((r16 == 0) && (r18 == 0)) && (r26 == 0)) && (r111 == 0)) && (decide ((⟨(r00 : Int), (r01 : Int)⟩ : Span) = (⟨(1 : Int), (4 : Int)⟩ : Span)))) && (decide ((⟨(r002 : Int), (r012 : Int)⟩ : Span) = (⟨(1 : Int), (9 : Int)⟩ : Span)))) && (decide ((⟨(r003 : Int), (r013 : Int)⟩ : Rto) = (⟨(1 : Int), (10 : Int)⟩ : Rto)))) && (decide ((⟨(r10 : Int), (r11 : Int)⟩ : Rto) = (⟨(9 : Int), (10 : Int)⟩ : Rto))))) rfl) ?_
 refine g_val ((((((((r16 == 0) && (r18 == 0)) && (r26 == 0)) && (r111 == 0)) && (decide ((⟨(r00 : Int), (r01 : Int)⟩ : Span) = (⟨(1 : Int), (4 : Int)⟩ : Span)))) && (decide ((⟨(r002 : Int), (r012 : Int)⟩ : Span) = (⟨(1 : Int), (9 : Int)⟩ : Span)))) && (decide ((⟨(r003 : Int), (r013 : Int)⟩ : Rto) = (⟨(1 : Int), (10 : Int)⟩ : Rto)))) && (decide ((⟨(r10 : Int), (r11 : Int)⟩ : Rto) = (⟨(9 : Int), (10 : Int)⟩ : Rto)))) (gy_t rfl) (fun hg => x_ld (p := .pointer (some ⟨b_30, 0, none⟩)) (v := .agg #[I r004, I r014]) rfl (ldb_ag (ds := [I r004, I r014]) Ag35 Sz35 (H.blk (k := 0) rfl) rfl rfl)) ?_
 refine g_val ((((((((r16 == 0) && (r18 == 0)) && (r26 == 0)) && (r111 == 0)) && (decide ((⟨(r00 : Int), (r01 : Int)⟩ : Span) = (⟨(1 : Int), (4 : Int)⟩ : Span)))) && (decide ((⟨(r002 : Int), (r012 : Int)⟩ : Span) = (⟨(1 : Int), (9 : Int)⟩ : Span)))) && (decide ((⟨(r003 : Int), (r013 : Int)⟩ : Rto) = (⟨(1 : Int), (10 : Int)⟩ : Rto)))) && (decide ((⟨(r10 : Int), (r11 : Int)⟩ : Rto) = (⟨(9 : Int), (10 : Int)⟩ : Rto)))) (gy_t rfl) (fun hg => x_bld (ps := [(0, I 400), (1, I 499)]) (zs := [I 0, I 0]) (L' := [I 400, I 499]) rfl Try.underlying35 Al35 rfl (Bd35 Try.underlying35) (.cons (cs := [I 400]) rfl rfl rfl rfl rfl <| .cons (cs := [I 499]) rfl rfl rfl rfl rfl <| .nil)) ?_
 refine g_val ((((((((r16 == 0) && (r18 == 0)) && (r26 == 0)) && (r111 == 0)) && (decide ((⟨(r00 : Int), (r01 : Int)⟩ : Span) = (⟨(1 : Int), (4 : Int)⟩ : Span)))) && (decide ((⟨(r002 : Int), (r012 : Int)⟩ : Span) = (⟨(1 : Int), (9 : Int)⟩ : Span)))) && (decide ((⟨(r003 : Int), (r013 : Int)⟩ : Rto) = (⟨(1 : Int), (10 : Int)⟩ : Rto)))) && (decide ((⟨(r10 : Int), (r11 : Int)⟩ : Rto) = (⟨(9 : Int), (10 : Int)⟩ : Rto)))) (gy_t rfl) (fun hg => x_eqS (eqT35 (⟨(r004 : Int), (r014 : Int)⟩ : Span) (⟨(400 : Int), (499 : Int)⟩ : Span) _) gdT35 (gd_of (c := ((((((((r16 == 0) && (r18 == 0)) && (r26 == 0)) && (r111 == 0)) && (decide ((⟨(r00 : Int), (r01 : Int)⟩ : Span) = (⟨(1 : Int), (4 : Int)⟩ : Span)))) && (decide ((⟨(r002 : Int), (r012 : Int)⟩ : Span) = (⟨(1 : Int), (9 : Int)⟩ : Span)))) && (decide ((⟨(r003 : Int), (r013 : Int)⟩ : Rto) = (⟨(1 : Int), (10 : Int)⟩ : Rto)))) && (decide ((⟨(r10 : Int), (r11 : Int)⟩ : Rto) = (⟨(9 : Int), (10 : Int)⟩ : Rto))))) hg (.agg #[I r004, I r014])) (gd_of (c := ((((((((r16 == 0) && (r18 == 0)) && (r26 == 0)) && (r111 == 0)) && (decide ((⟨(r00 : Int), (r01 : Int)⟩ : Span) = (⟨(1 : Int), (4 : Int)⟩ : Span)))) && (decide ((⟨(r002 : Int), (r012 : Int)⟩ : Span) = (⟨(1 : Int), (9 : Int)⟩ : Span)))) && (decide ((⟨(r003 : Int), (r013 : Int)⟩ : Rto) = (⟨(1 : Int), (10 : Int)⟩ : Rto)))) && (decide ((⟨(r10 : Int), (r11 : Int)⟩ : Rto) = (⟨(9 : Int), (10 : Int)⟩ : Rto))))) hg (.agg #[I 400, I 499]))) ?_
 refine s_val (x_pand (b := ((((((((r16 == 0) && (r18 == 0)) && (r26 == 0)) && (r111 == 0)) && (decide ((⟨(r00 : Int), (r01 : Int)⟩ : Span) = (⟨(1 : Int), (4 : Int)⟩ : Span)))) && (decide ((⟨(r002 : Int), (r012 : Int)⟩ : Span) = (⟨(1 : Int), (9 : Int)⟩ : Span)))) && (decide ((⟨(r003 : Int), (r013 : Int)⟩ : Rto) = (⟨(1 : Int), (10 : Int)⟩ : Rto)))) && (decide ((⟨(r10 : Int), (r11 : Int)⟩ : Rto) = (⟨(9 : Int), (10 : Int)⟩ : Rto))))) (r := decide ((⟨(r004 : Int), (r014 : Int)⟩ : Span) = (⟨(400 : Int), (499 : Int)⟩ : Span))) rfl (fun hb => gd_of (c := ((((((((r16 == 0) && (r18 == 0)) && (r26 == 0)) && (r111 == 0)) && (decide ((⟨(r00 : Int), (r01 : Int)⟩ : Span) = (⟨(1 : Int), (4 : Int)⟩ : Span)))) && (decide ((⟨(r002 : Int), (r012 : Int)⟩ : Span) = (⟨(1 : Int), (9 : Int)⟩ : Span)))) && (decide ((⟨(r003 : Int), (r013 : Int)⟩ : Rto) = (⟨(1 : Int), (10 : Int)⟩ : Rto)))) && (decide ((⟨(r10 : Int), (r11 : Int)⟩ : Rto) = (⟨(9 : Int), (10 : Int)⟩ : Rto))))) (by first | exact hb | (rw [hb]; rfl) | simp_all) (B (decide ((⟨(r004 : Int), (r014 : Int)⟩ : Span) = (⟨(400 : Int), (499 : Int)⟩ : Span))))) rfl) ?_
 refine s_val (x_as (v := B (((((((((r16 == 0) && (r18 == 0)) && (r26 == 0)) && (r111 == 0)) && (decide ((⟨(r00 : Int), (r01 : Int)⟩ : Span) = (⟨(1 : Int), (4 : Int)⟩ : Span)))) && (decide ((⟨(r002 : Int), (r012 : Int)⟩ : Span) = (⟨(1 : Int), (9 : Int)⟩ : Span)))) && (decide ((⟨(r003 : Int), (r013 : Int)⟩ : Rto) = (⟨(1 : Int), (10 : Int)⟩ : Rto)))) && (decide ((⟨(r10 : Int), (r11 : Int)⟩ : Rto) = (⟨(9 : Int), (10 : Int)⟩ : Rto)))) && (decide ((⟨(r004 : Int), (r014 : Int)⟩ : Span) = (⟨(400 : Int), (499 : Int)⟩ : Span))))) rfl) ?_
 refine s_nil ?_
 refine W.ret ?_
 have hr_ := M.e_pure hM
 exact ⟨_, resE_tmp rfl, ⟨(((((((((r16 == 0) && (r18 == 0)) && (r26 == 0)) && (r111 == 0)) && (decide ((⟨(r00 : Int), (r01 : Int)⟩ : Span) = (⟨(1 : Int), (4 : Int)⟩ : Span)))) && (decide ((⟨(r002 : Int), (r012 : Int)⟩ : Span) = (⟨(1 : Int), (9 : Int)⟩ : Span)))) && (decide ((⟨(r003 : Int), (r013 : Int)⟩ : Rto) = (⟨(1 : Int), (10 : Int)⟩ : Rto)))) && (decide ((⟨(r10 : Int), (r11 : Int)⟩ : Rto) = (⟨(9 : Int), (10 : Int)⟩ : Rto)))) && (decide ((⟨(r004 : Int), (r014 : Int)⟩ : Span) = (⟨(400 : Int), (499 : Int)⟩ : Span)))), hr_, rfl, (H.pick [] (by decide) rfl)⟩⟩

end Go.Proofs.Ytcgalcbkkijkhaa
end
section
set_option maxRecDepth 100000
set_option maxHeartbeats 16000000
namespace Go.Proofs.Ytcgalcbkkijkhaa
open Go Go.Nm
def zbl (l : List Int) : M (List Int) :=
  M.grd (decide ((([] : List Int).length + l.length) * 8 <= 140737488355328)) <|
  M.pure l
theorem zbT {R : List Chunk} {C_l : Cells} {v_l : Value} (l : List Int) (hC_l : Reads R C_l) (hs_l : Sl C_l v_l l) {r : (List Int)} (hM : (zbl l).Ends r) (w : World) (H : St w w [] R) : Ret Try.prog 31 #[v_l] w fun v w' => ∃ (y0 : List Int) (u0 : Value), y0 = r /\ v = u0 /\ St w w' [cOwn (α := Int) 3 u0 y0] R := by
 refine ret_of_W Try.func31 rfl rfl rfl ?_
 refine W.seq ?_
 refine W.region rfl ?_
 refine s_val (x_as (v := .slice none 0 0) rfl) ?_
 refine s_nil ?_
 refine W.seq ?_
 refine W.region rfl ?_
 refine s_val (x_as (v := .slice none 0 0) rfl) ?_
 refine s_nil ?_
 refine W.seq ?_
 refine W.region rfl ?_
 refine s_val (x_mv (v := .slice none 0 0) rfl) ?_
 refine s_val (x_mv (v := v_l) rfl) ?_
 replace H : St w w [cOwn (α := Int) 3 (.slice none 0 0) ([])] R := H.nilOwn (α := Int) 3
 obtain ⟨sd1z, hM⟩ := M.e_grd hM
 simp only [Bool.and_eq_true, decide_eq_true_eq] at sd1z
 refine t_app (α := Int) (k := 0) (l := []) (l2 := l) (l' := l) (vy := v_l) T27 rfl H rfl rfl rfl hs_l (hC_l.at H) (List.nil_append _) (by first | omega | (simp only [List.length_nil] at *; omega)) ?_
 intro v2z w3z H
 replace H : St w w3z [cOwn (α := Int) 3 v2z l] R := H
 refine s_val (x_as (v := v2z) rfl) ?_
 refine s_nil ?_
 refine W.ret ?_
 have hr_ := M.e_pure hM
 exact ⟨_, resE_tmp rfl, ⟨l, v2z, hr_, rfl, H⟩⟩

end Go.Proofs.Ytcgalcbkkijkhaa
end
section
set_option maxRecDepth 100000
set_option maxHeartbeats 16000000
namespace Go.Proofs.Ytcgalcbkkijkhaa
open Go Go.Nm
end Go.Proofs.Ytcgalcbkkijkhaa
end
section
set_option maxRecDepth 100000
set_option maxHeartbeats 16000000
namespace Go.Proofs.Ytcgalcbkkijkhaa
open Go Go.Nm
def zbj (l : List Yr) : M (List Yr) :=
  M.grd (decide ((([] : List Yr).length + l.length) * 24 <= 140737488355328)) <|
  M.pure l
theorem zbQ {R : List Chunk} {C_l : Cells} {v_l : Value} (l : List Yr) (hC_l : Reads R C_l) (hs_l : Sl C_l v_l l) {r : (List Yr)} (hM : (zbj l).Ends r) (w : World) (H : St w w [] R) : Ret Try.prog 57 #[v_l] w fun v w' => ∃ (y0 : List Yr) (u0 : Value), y0 = r /\ v = u0 /\ St w w' [cOwn (α := Yr) 41 u0 y0] R := by
 refine ret_of_W Try.func57 rfl rfl rfl ?_
 refine W.seq ?_
 refine W.region rfl ?_
 refine s_val (x_as (v := .slice none 0 0) rfl) ?_
 refine s_nil ?_
 refine W.seq ?_
 refine W.region rfl ?_
 refine s_val (x_as (v := .slice none 0 0) rfl) ?_
 refine s_nil ?_
 refine W.seq ?_
 refine W.region rfl ?_
 refine s_val (x_mv (v := .slice none 0 0) rfl) ?_
 refine s_val (x_mv (v := v_l) rfl) ?_
 replace H : St w w [cOwn (α := Yr) 41 (.slice none 0 0) ([])] R := H.nilOwn (α := Yr) 41
 obtain ⟨sd1z, hM⟩ := M.e_grd hM
 simp only [Bool.and_eq_true, decide_eq_true_eq] at sd1z
 refine t_app (α := Yr) (k := 0) (l := []) (l2 := l) (l' := l) (vy := v_l) T23 rfl H rfl rfl rfl hs_l (hC_l.at H) (List.nil_append _) (by first | omega | (simp only [List.length_nil] at *; omega)) ?_
 intro v2z w3z H
 replace H : St w w3z [cOwn (α := Yr) 41 v2z l] R := H
 refine s_val (x_as (v := v2z) rfl) ?_
 refine s_nil ?_
 refine W.ret ?_
 have hr_ := M.e_pure hM
 exact ⟨_, resE_tmp rfl, ⟨l, v2z, hr_, rfl, H⟩⟩

def zao (b_Olds : List Old10) : (Nat × (List Old10)) -> M ((Nat × (List Old10)) ⊕ ((List Old10) × (List Old10))) := fun (i, l) =>
  bif decide ((i : Int) < (b_Olds.length : Int)) then (
  M.grd (decide ((i : Int) < (b_Olds.length : Int))) <|
  M.bind (zbl ((b_Olds.getD i default).passed)) fun r3 =>
  M.grd (decide ((l.length + ([(⟨((b_Olds.getD i default).src : Int), ((b_Olds.getD i default).dst : Int), ((b_Olds.getD i default).stage : Int), r3⟩ : Old10)]).length) * 48 <= 140737488355328)) <|
  M.pure (.inl (i + 1, l ++ ([(⟨((b_Olds.getD i default).src : Int), ((b_Olds.getD i default).dst : Int), ((b_Olds.getD i default).stage : Int), r3⟩ : Old10)]))))
  else (
  M.pure (.inr (l, l)))
def zaC (b_Years : List Yr) (b_Olds : List Old10) (b_First : Int) (b_Last : Int) : M ((List Yr) × (List Old10) × Int × Int) :=
  M.bind (zbj b_Years) fun r2 =>
  M.bind (M.iter (zao b_Olds) (0, [])) fun (l2, l3) =>
  M.pure (r2, l3, b_First, b_Last)
theorem zad {R : List Chunk} {C_b_Years : Cells} {v_b_Years : Value} {C_b_Olds : Cells} {v_b_Olds : Value} (b_Years : List Yr) (b_Olds : List Old10) (b_First : Int) (b_Last : Int) (hC_b_Years : Reads R C_b_Years) (hs_b_Years : Sl C_b_Years v_b_Years b_Years) (hC_b_Olds : Reads R C_b_Olds) (hs_b_Olds : Sl C_b_Olds v_b_Olds b_Olds) {r : ((List Yr) × (List Old10) × Int × Int)} (hM : (zaC b_Years b_Olds b_First b_Last).Ends r) (w : World) (H : St w w [] R) : Ret Try.prog 16 #[.agg #[v_b_Years, v_b_Olds, I b_First, I b_Last]] w fun v w' => ∃ (y0 : List Yr) (y1 : List Old10) (y2 : Int) (y3 : Int) (u0 : Value) (u1 : Value) (rr2 : List (Raw 3)) (Bs3 : Base), (y0, y1, y2, y3) = r /\ v = .agg #[u0, u1, I y2, I y3] /\ St w w' [cOwn (α := Yr) 41 u0 y0, cOwn (α := Raw 3) 43 u1 rr2, cRo Bs3] R /\ RepR (α := Old10) Bs3.cells rr2 y1 := by
 refine ret_of_W Try.func16 rfl rfl rfl ?_
 refine W.seq ?_
 refine W.region rfl ?_
 refine t_box (v := .agg #[v_b_Years, v_b_Olds, I b_First, I b_Last]) (cs := [v_b_Years, v_b_Olds, I b_First, I b_Last]) H rfl rfl ?_
 intro b_1 w1z H
 refine t_alloc (cs := [.slice none 0 0, .slice none 0 0, I 0, I 0]) H Al26 rfl ?_
 intro b_2 w2z H
 refine s_nil ?_
 refine W.seq ?_
 refine W.drawT (fun W => St w W [cBlk b_2 [.slice none 0 0, .slice none 0 0, I 0, I 0] 26, cBlk b_1 [v_b_Years, v_b_Olds, I b_First, I b_Last] 26] R) (.q 0 (.q 1 (.q 2 (.q 3 (.q 4 (.q 5 (.l2 6 (.q 7 (.l 8 (.l 9 .nil))) 8 (.l 6 (.q 7 (.l 9 .nil)))))))))) mixed (by decide +kernel) rfl ?_
 intro w3z hx_
 replace H : St w w3z [cBlk b_2 [.slice none 0 0, .slice none 0 0, I 0, I 0] 26, cBlk b_1 [v_b_Years, v_b_Olds, I b_First, I b_Last] 26] R := H.ext hx_
 clear hx_
 refine ⟨(H.pick [0, 1] (by decide) rfl), ?_⟩
 refine t_q rfl (fun w' H => x_fa (a := .pointer (some ⟨b_1, 0, none⟩)) (v := .pointer (some ⟨b_1, 2, none⟩)) rfl (fa_blk (o := 0) Fd26_2 Sz3)) ?_
 refine t_q rfl (fun w' H => x_ld (p := .pointer (some ⟨b_1, 2, none⟩)) (v := I b_First) rfl (ldb_sc Sc3 (H.blk (k := 1) rfl) rfl)) ?_
 refine t_q rfl (fun w' H => x_fa (a := .pointer (some ⟨b_1, 0, none⟩)) (v := .pointer (some ⟨b_1, 3, none⟩)) rfl (fa_blk (o := 0) Fd26_3 Sz3)) ?_
 refine t_q rfl (fun w' H => x_ld (p := .pointer (some ⟨b_1, 3, none⟩)) (v := I b_Last) rfl (ldb_sc Sc3 (H.blk (k := 1) rfl) rfl)) ?_
 refine t_q rfl (fun w' H => x_fa (a := .pointer (some ⟨b_1, 0, none⟩)) (v := .pointer (some ⟨b_1, 0, none⟩)) rfl (fa_blk (o := 0) Fd26_0 Sz23)) ?_
 refine t_q rfl (fun w' H => x_ld (p := .pointer (some ⟨b_1, 0, none⟩)) (v := v_b_Years) rfl (ldb_sc Sc23 (H.blk (k := 1) rfl) rfl)) ?_
 refine t_l2 rfl rfl ?_ ?_
 ·skip
  obtain ⟨r16z, hx15z, hM⟩ := M.e_bind hM
  refine s_call cf57 [v_b_Years] rfl (zbQ b_Years (hC_b_Years.app _) hs_b_Years hx15z _ (St.give (T := [cBlk b_2 [.slice none 0 0, .slice none 0 0, I 0, I 0] 26, cBlk b_1 [v_b_Years, v_b_Olds, I b_First, I b_Last] 26]) H rfl)) ?_
  rintro vq w17z ⟨r2, u0_3, hr18z, hvq, H2_⟩
  subst hr18z
  subst vq
  try dsimp only at hM
  replace H : St w w17z [cOwn (α := Yr) 41 u0_3 r2, cBlk b_2 [.slice none 0 0, .slice none 0 0, I 0, I 0] 26, cBlk b_1 [v_b_Years, v_b_Olds, I b_First, I b_Last] 26] R := H.back H2_ rfl
  clear H2_
  have hvc_q19z := Sl.cells (ownSl (H.get (k := 0) rfl))
  have hvo_q19z := Sl.oc (ownSl (H.get (k := 0) rfl))
  refine s_nil ⟨(H.pick [1, 2] (by decide) rfl), ?_⟩
  refine t_q rfl (fun w' H => x_bld (ps := [(2, I b_First), (3, I b_Last), (0, u0_3)]) (zs := [.slice none 0 0, .slice none 0 0, I 0, I 0]) (L' := [u0_3, .slice none 0 0, I b_First, I b_Last]) rfl Try.underlying26 Al26 rfl (Bd26 Try.underlying26) (.cons (cs := [I b_First]) rfl rfl rfl rfl rfl <| .cons (cs := [I b_Last]) rfl rfl rfl rfl rfl <| .cons (cs := [u0_3]) hvc_q19z rfl rfl rfl rfl <| .nil)) ?_
  refine t_l rfl ?_
  refine t_alloc (cs := [.slice none 0 0, .slice none 0 0, I 0, I 0]) H Al26 rfl ?_
  intro b_4 w20z H
  refine s_nil ⟨(H.pick [2, 3] (by decide) rfl), ?_⟩
  refine t_l rfl ?_
  refine t_st (k := 0) (b := b_4) (off := 0) (cs := [.slice none 0 0, .slice none 0 0, I 0, I 0]) (vs := [u0_3, .slice none 0 0, I b_First, I b_Last]) (cs' := [u0_3, .slice none 0 0, I b_First, I b_Last]) (v := .agg #[u0_3, .slice none 0 0, I b_First, I b_Last]) (L' := [cBlk b_4 [u0_3, .slice none 0 0, I b_First, I b_Last] 26, cOwn (α := Yr) 41 u0_3 r2, cBlk b_2 [.slice none 0 0, .slice none 0 0, I 0, I 0] 26, cBlk b_1 [v_b_Years, v_b_Olds, I b_First, I b_Last] 26]) H rfl rfl rfl Sz26 rfl rfl rfl (by simp only [List.all_cons, List.all_nil, Bool.true_and, Bool.and_true, Sl.oc (ownSl (H.get (k := 1) rfl))]; try rfl) rfl rfl ?_
  intro w21z H
  refine s_nil ⟨(H.pick [2, 3] (by decide) rfl), ?_⟩
  refine t_nil ?_
  refine W.seq ?_
  refine W.seq ?_
  refine W.region rfl ?_
  refine s_val (x_as (v := I 0) rfl) ?_
  refine s_nil ?_
  refine W.block ?_
  obtain ⟨Bs_14, H⟩ := H.emptyE
  replace H : St w w21z [cOwn (α := Raw 3) 43 (.slice none 0 0) ([]), cRo Bs_14, cBlk b_4 [u0_3, .slice none 0 0, I b_First, I b_Last] 26, cOwn (α := Yr) 41 u0_3 r2, cBlk b_2 [.slice none 0 0, .slice none 0 0, I 0, I 0] 26, cBlk b_1 [v_b_Years, v_b_Olds, I b_First, I b_Last] 26] R := H.nilOwn (α := Raw 3) 43
  have hr22z : RepR (α := Old10) (n := 3) Bs_14.cells [] [] := .nil
  obtain ⟨ex23z, hi24z, hk25z⟩ := M.e_bind hM
  obtain ⟨m0_, hi24z⟩ := M.e_iter hi24z
  refine W.loop (fun m σ W => ∃ (i : Nat) (l : List Old10) (v_l : Value) (rw_l : List (Raw 3)) (B_l : Base) (ρ : Env), σ = upds ρ [(1, .pointer (some ⟨b_1, 0, none⟩)), (2, .pointer (some ⟨b_2, 0, none⟩)), (3, .pointer (some ⟨b_4, 0, none⟩)), (4, I (i : Int))] /\ M.iterN (zao b_Olds) m (i, l) = some ex23z /\ St w W [cOwn (α := Raw 3) 43 v_l rw_l, cRo B_l, cBlk b_4 [u0_3, v_l, I b_First, I b_Last] 26, cOwn (α := Yr) 41 u0_3 r2, cBlk b_2 [.slice none 0 0, .slice none 0 0, I 0, I 0] 26, cBlk b_1 [v_b_Years, v_b_Olds, I b_First, I b_Last] 26] R /\ RepR (α := Old10) B_l.cells rw_l l) ?_ ?_
  ·exact ⟨_, 0, [], (.slice none 0 0), [], Bs_14, _, upds_of _ _ ⟨rfl, rfl, rfl, rfl, trivial⟩, hi24z, H, hr22z⟩
  rintro m28z σ w26z ⟨i, l, v_l, rw_l, B_l, ρ, rfl, hI27z, H, hr_l⟩
  obtain ⟨m29z, lt30z, x31z, hM, hN32z⟩ := M.e_iterN hI27z
  simp only [zao] at hM
  clear hI27z
  refine W.seq ?_
  refine W.seq ?_
  refine W.region rfl ?_
  refine s_val (x_mv (v := I (i : Int)) rfl) ?_
  refine s_val (x_fa (a := .pointer (some ⟨b_1, 0, none⟩)) (v := .pointer (some ⟨b_1, 1, none⟩)) rfl (fa_blk (o := 0) Fd26_1 Sz24)) ?_
  refine s_val (x_ld (p := .pointer (some ⟨b_1, 1, none⟩)) (v := v_b_Olds) rfl (ldb_sc Sc24 (H.blk (k := 5) rfl) rfl)) ?_
  have hl33z := (hs_b_Olds).len_le
  refine s_val (x_lenS T24.und rfl hs_b_Olds) ?_
  refine s_val (x_cmp (kd := .i64) (a := (i : Int)) (b := (b_Olds.length : Int)) (r := decide ((i : Int) < (b_Olds.length : Int))) rfl rfl rfl) ?_
  refine s_nil ?_
  refine W.cond (decide ((i : Int) < (b_Olds.length : Int))) rfl (fun c34z => ?_) (fun c34z => ?_)
  ·replace hM := M.e_t hM c34z
   simp only [decide_eq_true_eq, decide_eq_false_iff_not, beq_iff_eq, bne_iff_ne, beq_eq_false_iff_ne, bne_eq_false_iff_eq, ne_eq, Decidable.not_not] at c34z
   refine W.skip ?_
   refine W.seq ?_
   refine W.block ?_
   refine W.seq ?_
   refine W.region rfl ?_
   refine s_val (x_fa (a := .pointer (some ⟨b_1, 0, none⟩)) (v := .pointer (some ⟨b_1, 1, none⟩)) rfl (fa_blk (o := 0) Fd26_1 Sz24)) ?_
   refine s_val (x_ld (p := .pointer (some ⟨b_1, 1, none⟩)) (v := v_b_Olds) rfl (ldb_sc Sc24 (H.blk (k := 5) rfl) rfl)) ?_
   refine s_val (x_mv (v := I (i : Int)) rfl) ?_
   obtain ⟨sd35z, hM⟩ := M.e_grd hM
   simp only [Bool.and_eq_true, decide_eq_true_eq] at sd35z
   refine s_val (x_ix (a := v_b_Olds) (b := I (i : Int)) (v := vat v_b_Olds 4 (Int.toNat (i : Int))) rfl rfl (Sl.ix (α := Old10) T24.und T24.size hs_b_Olds (by omega) (by omega))) ?_
   obtain ⟨u36z, ha38z, hs37z⟩ := Old10_atA hs_b_Olds (i := (i : Int)) (by omega) (by omega)
   replace hs37z : Sl _ u36z (b_Olds.getD i default).passed := hs37z
   have hl_hs37z := hs37z.len_le
   refine s_val (x_ld (p := vat v_b_Olds 4 (Int.toNat (i : Int))) (v := .agg #[I ((b_Olds.getD i default).src), I ((b_Olds.getD i default).dst), I ((b_Olds.getD i default).stage), u36z]) rfl (ld_ag Ag43 Sz43 (At.mono ha38z (hC_b_Olds.at H)))) ?_
   refine t_alloc (cs := [I 0, I 0, I 0, .slice none 0 0]) H Al43 rfl ?_
   intro b_5 w39z H
   refine t_st (k := 0) (b := b_5) (off := 0) (cs := [I 0, I 0, I 0, .slice none 0 0]) (vs := [I ((b_Olds.getD i default).src), I ((b_Olds.getD i default).dst), I ((b_Olds.getD i default).stage), u36z]) (cs' := [I ((b_Olds.getD i default).src), I ((b_Olds.getD i default).dst), I ((b_Olds.getD i default).stage), u36z]) (v := .agg #[I ((b_Olds.getD i default).src), I ((b_Olds.getD i default).dst), I ((b_Olds.getD i default).stage), u36z]) (L' := [cBlk b_5 [I ((b_Olds.getD i default).src), I ((b_Olds.getD i default).dst), I ((b_Olds.getD i default).stage), u36z] 43, cOwn (α := Raw 3) 43 v_l rw_l, cRo B_l, cBlk b_4 [u0_3, v_l, I b_First, I b_Last] 26, cOwn (α := Yr) 41 u0_3 r2, cBlk b_2 [.slice none 0 0, .slice none 0 0, I 0, I 0] 26, cBlk b_1 [v_b_Years, v_b_Olds, I b_First, I b_Last] 26]) H rfl rfl rfl Sz43 rfl rfl rfl (by simp only [List.all_cons, List.all_nil, Bool.true_and, Bool.and_true, Sl.oc hs37z]; try rfl) rfl rfl ?_
   intro w40z H
   refine s_nil ?_
   refine W.seq ?_
   refine W.region rfl ?_
   refine s_val (x_fa (a := .pointer (some ⟨b_5, 0, none⟩)) (v := .pointer (some ⟨b_5, 3, none⟩)) rfl (fa_blk (o := 0) Fd43_3 Sz27)) ?_
   refine s_val (x_ld (p := .pointer (some ⟨b_5, 3, none⟩)) (v := u36z) rfl (ldb_sc Sc27 (H.blk (k := 0) rfl) rfl)) ?_
   obtain ⟨r42z, hx41z, hM⟩ := M.e_bind hM
   refine s_call cf31 [u36z] rfl (zbT ((b_Olds.getD i default).passed) (hC_b_Olds.app _) hs37z hx41z _ (St.give (T := [cBlk b_5 [I ((b_Olds.getD i default).src), I ((b_Olds.getD i default).dst), I ((b_Olds.getD i default).stage), u36z] 43, cOwn (α := Raw 3) 43 v_l rw_l, cRo B_l, cBlk b_4 [u0_3, v_l, I b_First, I b_Last] 26, cOwn (α := Yr) 41 u0_3 r2, cBlk b_2 [.slice none 0 0, .slice none 0 0, I 0, I 0] 26, cBlk b_1 [v_b_Years, v_b_Olds, I b_First, I b_Last] 26]) H rfl)) ?_
   rintro vq w43z ⟨r3, u0_6, hr44z, hvq, H2_⟩
   subst hr44z
   subst vq
   try dsimp only at hM
   replace H : St w w43z [cOwn (α := Int) 3 u0_6 r3, cBlk b_5 [I ((b_Olds.getD i default).src), I ((b_Olds.getD i default).dst), I ((b_Olds.getD i default).stage), u36z] 43, cOwn (α := Raw 3) 43 v_l rw_l, cRo B_l, cBlk b_4 [u0_3, v_l, I b_First, I b_Last] 26, cOwn (α := Yr) 41 u0_3 r2, cBlk b_2 [.slice none 0 0, .slice none 0 0, I 0, I 0] 26, cBlk b_1 [v_b_Years, v_b_Olds, I b_First, I b_Last] 26] R := H.back H2_ rfl
   clear H2_
   refine s_val (x_fa (a := .pointer (some ⟨b_5, 0, none⟩)) (v := .pointer (some ⟨b_5, 3, none⟩)) rfl (fa_blk (o := 0) Fd43_3 Sz27)) ?_
   refine t_st (k := 1) (b := b_5) (off := 3) (cs := [I ((b_Olds.getD i default).src), I ((b_Olds.getD i default).dst), I ((b_Olds.getD i default).stage), u36z]) (vs := [u0_6]) (cs' := [I ((b_Olds.getD i default).src), I ((b_Olds.getD i default).dst), I ((b_Olds.getD i default).stage), u0_6]) (v := u0_6) (L' := [cOwn (α := Int) 3 u0_6 r3, cBlk b_5 [I ((b_Olds.getD i default).src), I ((b_Olds.getD i default).dst), I ((b_Olds.getD i default).stage), u0_6] 43, cOwn (α := Raw 3) 43 v_l rw_l, cRo B_l, cBlk b_4 [u0_3, v_l, I b_First, I b_Last] 26, cOwn (α := Yr) 41 u0_3 r2, cBlk b_2 [.slice none 0 0, .slice none 0 0, I 0, I 0] 26, cBlk b_1 [v_b_Years, v_b_Olds, I b_First, I b_Last] 26]) H rfl rfl rfl Sz27 (Sl.cells (ownSl (H.get (k := 0) rfl))) rfl rfl (by simp only [List.all_cons, List.all_nil, Bool.true_and, Bool.and_true, Sl.oc (ownSl (H.get (k := 0) rfl))]; try rfl) rfl rfl ?_
   intro w45z H
   refine s_nil ?_
   refine W.region rfl ?_
   refine s_val (x_fa (a := .pointer (some ⟨b_4, 0, none⟩)) (v := .pointer (some ⟨b_4, 1, none⟩)) rfl (fa_blk (o := 0) Fd26_1 Sz24)) ?_
   refine s_val (x_ld (p := .pointer (some ⟨b_4, 1, none⟩)) (v := v_l) rfl (ldb_sc Sc24 (H.blk (k := 4) rfl) rfl)) ?_
   refine s_val (x_ld (p := .pointer (some ⟨b_5, 0, none⟩)) (v := .agg #[I ((b_Olds.getD i default).src), I ((b_Olds.getD i default).dst), I ((b_Olds.getD i default).stage), u0_6]) rfl (ldb_ag (ds := [I ((b_Olds.getD i default).src), I ((b_Olds.getD i default).dst), I ((b_Olds.getD i default).stage), u0_6]) Ag43 Sz43 (H.blk (k := 1) rfl) rfl rfl)) ?_
   obtain ⟨Bs_7, H⟩ := H.emptyE
   obtain ⟨Bs_8, H, hs47z⟩ := H.freezeE (k := 1) rfl
   replace H : St w w45z [cRo Bs_7, cRo Bs_8, cBlk b_5 [I ((b_Olds.getD i default).src), I ((b_Olds.getD i default).dst), I ((b_Olds.getD i default).stage), u0_6] 43, cOwn (α := Raw 3) 43 v_l rw_l, cRo B_l, cBlk b_4 [u0_3, v_l, I b_First, I b_Last] 26, cOwn (α := Yr) 41 u0_3 r2, cBlk b_2 [.slice none 0 0, .slice none 0 0, I 0, I 0] 26, cBlk b_1 [v_b_Years, v_b_Olds, I b_First, I b_Last] 26] R := H
   have hq46z := hs47z
   obtain ⟨Bs_9, H, le48z, le49z⟩ := H.joinE (i := 0) (j := 1) rfl rfl
   replace hq46z := hq46z.mono le49z
   obtain ⟨rw50z, hrw_rw50z⟩ : ∃ r : Raw 3, r.cs = [I ((b_Olds.getD i default).src), I ((b_Olds.getD i default).dst), I ((b_Olds.getD i default).stage), u0_6] := ⟨Raw.of [I ((b_Olds.getD i default).src), I ((b_Olds.getD i default).dst), I ((b_Olds.getD i default).stage), u0_6] rfl (by simp only [List.all_cons, List.all_nil, Bool.true_and, Bool.and_true, Sl.oc hq46z]; try rfl), rfl⟩
   have hr51z : RepR (α := Old10) Bs_9.cells [rw50z] [(⟨((b_Olds.getD i default).src : Int), ((b_Olds.getD i default).dst : Int), ((b_Olds.getD i default).stage : Int), r3⟩ : Old10)] := .cons (by rw [hrw_rw50z]; exact ⟨_, rfl, hq46z⟩) <| .nil
   refine t_bs (α := Raw 3) T24 [.agg #[I ((b_Olds.getD i default).src), I ((b_Olds.getD i default).dst), I ((b_Olds.getD i default).stage), u0_6]] [rw50z] H rfl (.cons (by rw [show (Flat.enc rw50z : List Value) = rw50z.cs from rfl, hrw_rw50z]; rfl) (Flat.rep_enc _ _) <| .nil) rfl rfl rfl ?_
   intro v52z w53z H
   replace H : St w w53z [cOwn (α := Raw 3) 43 v52z ([rw50z]), cRo Bs_9, cRo Bs_7, cRo Bs_8, cBlk b_5 [I ((b_Olds.getD i default).src), I ((b_Olds.getD i default).dst), I ((b_Olds.getD i default).stage), u0_6] 43, cOwn (α := Raw 3) 43 v_l rw_l, cRo B_l, cBlk b_4 [u0_3, v_l, I b_First, I b_Last] 26, cOwn (α := Yr) 41 u0_3 r2, cBlk b_2 [.slice none 0 0, .slice none 0 0, I 0, I 0] 26, cBlk b_1 [v_b_Years, v_b_Olds, I b_First, I b_Last] 26] R := H
   obtain ⟨sd54z, hM⟩ := M.e_grd hM
   simp only [Bool.and_eq_true, decide_eq_true_eq] at sd54z
   have hr55z := hr51z
   obtain ⟨Bs_13, H, le56z, le57z⟩ := H.joinE (i := 6) (j := 1) rfl rfl
   replace hr_l := hr_l.mono le56z
   replace hr55z := hr55z.mono le57z
   have hr60z := hr_l.app hr55z
   refine t_app (α := Raw 3) (k := 6) (l := rw_l) (l2 := [rw50z]) (l' := rw_l ++ ([rw50z])) (vy := v52z) T24 rfl H rfl rfl rfl (ownSl (H.get (k := 1) rfl)) (ownLe _ (H.get (k := 1) rfl)) (rfl) (by have a_ := hr_l.len; have b_ := hr55z.len; (try simp only [List.length_nil] at *); first | omega | (rw [a_, b_]; omega)) ?_
   intro v58z w59z H
   replace H : St w w59z [cRo Bs_13, cOwn (α := Raw 3) 43 v52z ([rw50z]), cRo Bs_9, cRo Bs_7, cRo Bs_8, cBlk b_5 [I ((b_Olds.getD i default).src), I ((b_Olds.getD i default).dst), I ((b_Olds.getD i default).stage), u0_6] 43, cOwn (α := Raw 3) 43 v58z (rw_l ++ ([rw50z])), cRo B_l, cBlk b_4 [u0_3, v_l, I b_First, I b_Last] 26, cOwn (α := Yr) 41 u0_3 r2, cBlk b_2 [.slice none 0 0, .slice none 0 0, I 0, I 0] 26, cBlk b_1 [v_b_Years, v_b_Olds, I b_First, I b_Last] 26] R := H
   refine s_val (x_fa (a := .pointer (some ⟨b_4, 0, none⟩)) (v := .pointer (some ⟨b_4, 1, none⟩)) rfl (fa_blk (o := 0) Fd26_1 Sz24)) ?_
   refine t_st (k := 8) (b := b_4) (off := 1) (cs := [u0_3, v_l, I b_First, I b_Last]) (vs := [v58z]) (cs' := [u0_3, v58z, I b_First, I b_Last]) (v := v58z) (L' := [cRo Bs_13, cOwn (α := Raw 3) 43 v52z ([rw50z]), cRo Bs_9, cRo Bs_7, cRo Bs_8, cBlk b_5 [I ((b_Olds.getD i default).src), I ((b_Olds.getD i default).dst), I ((b_Olds.getD i default).stage), u0_6] 43, cOwn (α := Raw 3) 43 v58z (rw_l ++ ([rw50z])), cRo B_l, cBlk b_4 [u0_3, v58z, I b_First, I b_Last] 26, cOwn (α := Yr) 41 u0_3 r2, cBlk b_2 [.slice none 0 0, .slice none 0 0, I 0, I 0] 26, cBlk b_1 [v_b_Years, v_b_Olds, I b_First, I b_Last] 26]) H rfl rfl rfl Sz24 (Sl.cells (rowSl rfl (H.get (k := 6) rfl) (roLe _ (H.get (k := 0) rfl)) hr60z)) rfl rfl (by simp only [List.all_cons, List.all_nil, Bool.true_and, Bool.and_true, Sl.oc (rowSl rfl (H.get (k := 6) rfl) (roLe _ (H.get (k := 0) rfl)) hr60z)]; try rfl) rfl rfl ?_
   intro w61z H
   refine s_nil ?_
   refine W.region rfl ?_
   refine s_val (x_mv (v := I (i : Int)) rfl) ?_
   refine s_val (x_ari (a := (i : Int)) (b := 1) (r := (i : Int) + 1) rfl rfl rfl (by omega)) ?_
   refine s_val (x_as (v := I ((i : Int) + 1)) rfl) ?_
   refine s_nil ?_
   exact ⟨m29z, lt30z, i + 1, l ++ ([(⟨((b_Olds.getD i default).src : Int), ((b_Olds.getD i default).dst : Int), ((b_Olds.getD i default).stage : Int), r3⟩ : Old10)]), v58z, rw_l ++ ([rw50z]), Bs_13, _, upds_of _ _ ⟨rfl, rfl, rfl, rfl, trivial⟩, M.e_inl hM hN32z, (H.pick [6, 0, 8, 9, 10, 11] (by decide) rfl), hr60z⟩
  replace hM := M.e_f hM c34z
  simp only [decide_eq_true_eq, decide_eq_false_iff_not, beq_iff_eq, bne_iff_ne, beq_eq_false_iff_ne, bne_eq_false_iff_eq, ne_eq, Decidable.not_not] at c34z
  refine W.exit ?_
  have hX62z := M.e_inr hM hN32z
  subst hX62z
  replace hM := hk25z
  try dsimp only at hM
  refine W.seq ?_
  refine W.region rfl ?_
  refine s_val (x_ld (p := .pointer (some ⟨b_4, 0, none⟩)) (v := .agg #[u0_3, v_l, I b_First, I b_Last]) rfl (ldb_ag (ds := [u0_3, v_l, I b_First, I b_Last]) Ag26 Sz26 (H.blk (k := 2) rfl) rfl rfl)) ?_
  refine t_st (k := 4) (b := b_2) (off := 0) (cs := [.slice none 0 0, .slice none 0 0, I 0, I 0]) (vs := [u0_3, v_l, I b_First, I b_Last]) (cs' := [u0_3, v_l, I b_First, I b_Last]) (v := .agg #[u0_3, v_l, I b_First, I b_Last]) (L' := [cOwn (α := Raw 3) 43 v_l rw_l, cRo B_l, cBlk b_4 [u0_3, v_l, I b_First, I b_Last] 26, cOwn (α := Yr) 41 u0_3 r2, cBlk b_2 [u0_3, v_l, I b_First, I b_Last] 26, cBlk b_1 [v_b_Years, v_b_Olds, I b_First, I b_Last] 26]) H rfl rfl rfl Sz26 rfl rfl rfl (by simp only [List.all_cons, List.all_nil, Bool.true_and, Bool.and_true, Sl.oc (ownSl (H.get (k := 3) rfl)), Sl.oc (rowSl rfl (H.get (k := 0) rfl) (roLe _ (H.get (k := 1) rfl)) hr_l)]; try rfl) rfl rfl ?_
  intro w63z H
  refine s_nil ?_
  refine W.ret ?_
  have hb64z := (H.blk (k := 4) rfl)
  have hr_ := M.e_pure hM
  exact ⟨_, (resE_of1 (v := .agg #[u0_3, v_l, I b_First, I b_Last]) rfl (.cell (v := .agg #[u0_3, v_l, I b_First, I b_Last]) rfl (run_loadVar_ag (ds := [u0_3, v_l, I b_First, I b_Last]) Ag26 Sz26 hb64z rfl rfl) <| .nil)), ⟨r2, l, b_First, b_Last, u0_3, v_l, rw_l, B_l, hr_, rfl, (H.pick [3, 0, 1] (by decide) rfl), hr_l⟩⟩
 skip
 refine t_alloc (cs := [.slice none 0 0, .slice none 0 0, I 0, I 0]) H Al26 rfl ?_
 intro b_4 w65z H
 refine s_nil ⟨(H.pick [1, 2] (by decide) rfl), ?_⟩
 refine t_l rfl ?_
 obtain ⟨r67z, hx66z, hM⟩ := M.e_bind hM
 refine s_call cf57 [v_b_Years] rfl (zbQ b_Years (hC_b_Years.app _) hs_b_Years hx66z _ (St.give (T := [cBlk b_4 [.slice none 0 0, .slice none 0 0, I 0, I 0] 26, cBlk b_2 [.slice none 0 0, .slice none 0 0, I 0, I 0] 26, cBlk b_1 [v_b_Years, v_b_Olds, I b_First, I b_Last] 26]) H rfl)) ?_
 rintro vq w68z ⟨r2, u0_3, hr69z, hvq, H2_⟩
 subst hr69z
 subst vq
 try dsimp only at hM
 replace H : St w w68z [cOwn (α := Yr) 41 u0_3 r2, cBlk b_4 [.slice none 0 0, .slice none 0 0, I 0, I 0] 26, cBlk b_2 [.slice none 0 0, .slice none 0 0, I 0, I 0] 26, cBlk b_1 [v_b_Years, v_b_Olds, I b_First, I b_Last] 26] R := H.back H2_ rfl
 clear H2_
 have hvc_q70z := Sl.cells (ownSl (H.get (k := 0) rfl))
 have hvo_q70z := Sl.oc (ownSl (H.get (k := 0) rfl))
 refine s_nil ⟨(H.pick [2, 3] (by decide) rfl), ?_⟩
 refine t_q rfl (fun w' H => x_bld (ps := [(2, I b_First), (3, I b_Last), (0, u0_3)]) (zs := [.slice none 0 0, .slice none 0 0, I 0, I 0]) (L' := [u0_3, .slice none 0 0, I b_First, I b_Last]) rfl Try.underlying26 Al26 rfl (Bd26 Try.underlying26) (.cons (cs := [I b_First]) rfl rfl rfl rfl rfl <| .cons (cs := [I b_Last]) rfl rfl rfl rfl rfl <| .cons (cs := [u0_3]) hvc_q70z rfl rfl rfl rfl <| .nil)) ?_
 refine t_l rfl ?_
 refine t_st (k := 1) (b := b_4) (off := 0) (cs := [.slice none 0 0, .slice none 0 0, I 0, I 0]) (vs := [u0_3, .slice none 0 0, I b_First, I b_Last]) (cs' := [u0_3, .slice none 0 0, I b_First, I b_Last]) (v := .agg #[u0_3, .slice none 0 0, I b_First, I b_Last]) (L' := [cOwn (α := Yr) 41 u0_3 r2, cBlk b_4 [u0_3, .slice none 0 0, I b_First, I b_Last] 26, cBlk b_2 [.slice none 0 0, .slice none 0 0, I 0, I 0] 26, cBlk b_1 [v_b_Years, v_b_Olds, I b_First, I b_Last] 26]) H rfl rfl rfl Sz26 rfl rfl rfl (by simp only [List.all_cons, List.all_nil, Bool.true_and, Bool.and_true, Sl.oc (ownSl (H.get (k := 0) rfl))]; try rfl) rfl rfl ?_
 intro w71z H
 refine s_nil ⟨(H.pick [2, 3] (by decide) rfl), ?_⟩
 refine t_nil ?_
 refine W.seq ?_
 refine W.seq ?_
 refine W.region rfl ?_
 refine s_val (x_as (v := I 0) rfl) ?_
 refine s_nil ?_
 refine W.block ?_
 obtain ⟨Bs_14, H⟩ := H.emptyE
 replace H : St w w71z [cOwn (α := Raw 3) 43 (.slice none 0 0) ([]), cRo Bs_14, cOwn (α := Yr) 41 u0_3 r2, cBlk b_4 [u0_3, .slice none 0 0, I b_First, I b_Last] 26, cBlk b_2 [.slice none 0 0, .slice none 0 0, I 0, I 0] 26, cBlk b_1 [v_b_Years, v_b_Olds, I b_First, I b_Last] 26] R := H.nilOwn (α := Raw 3) 43
 have hr72z : RepR (α := Old10) (n := 3) Bs_14.cells [] [] := .nil
 obtain ⟨ex73z, hi74z, hk75z⟩ := M.e_bind hM
 obtain ⟨m0_, hi74z⟩ := M.e_iter hi74z
 refine W.loop (fun m σ W => ∃ (i : Nat) (l : List Old10) (v_l : Value) (rw_l : List (Raw 3)) (B_l : Base) (ρ : Env), σ = upds ρ [(1, .pointer (some ⟨b_1, 0, none⟩)), (2, .pointer (some ⟨b_2, 0, none⟩)), (3, .pointer (some ⟨b_4, 0, none⟩)), (4, I (i : Int))] /\ M.iterN (zao b_Olds) m (i, l) = some ex73z /\ St w W [cOwn (α := Raw 3) 43 v_l rw_l, cRo B_l, cOwn (α := Yr) 41 u0_3 r2, cBlk b_4 [u0_3, v_l, I b_First, I b_Last] 26, cBlk b_2 [.slice none 0 0, .slice none 0 0, I 0, I 0] 26, cBlk b_1 [v_b_Years, v_b_Olds, I b_First, I b_Last] 26] R /\ RepR (α := Old10) B_l.cells rw_l l) ?_ ?_
 ·exact ⟨_, 0, [], (.slice none 0 0), [], Bs_14, _, upds_of _ _ ⟨rfl, rfl, rfl, rfl, trivial⟩, hi74z, H, hr72z⟩
 rintro m78z σ w76z ⟨i, l, v_l, rw_l, B_l, ρ, rfl, hI77z, H, hr_l⟩
 obtain ⟨m79z, lt80z, x81z, hM, hN82z⟩ := M.e_iterN hI77z
 simp only [zao] at hM
 clear hI77z
 refine W.seq ?_
 refine W.seq ?_
 refine W.region rfl ?_
 refine s_val (x_mv (v := I (i : Int)) rfl) ?_
 refine s_val (x_fa (a := .pointer (some ⟨b_1, 0, none⟩)) (v := .pointer (some ⟨b_1, 1, none⟩)) rfl (fa_blk (o := 0) Fd26_1 Sz24)) ?_
 refine s_val (x_ld (p := .pointer (some ⟨b_1, 1, none⟩)) (v := v_b_Olds) rfl (ldb_sc Sc24 (H.blk (k := 5) rfl) rfl)) ?_
 have hl83z := (hs_b_Olds).len_le
 refine s_val (x_lenS T24.und rfl hs_b_Olds) ?_
 refine s_val (x_cmp (kd := .i64) (a := (i : Int)) (b := (b_Olds.length : Int)) (r := decide ((i : Int) < (b_Olds.length : Int))) rfl rfl rfl) ?_
 refine s_nil ?_
 refine W.cond (decide ((i : Int) < (b_Olds.length : Int))) rfl (fun c84z => ?_) (fun c84z => ?_)
 ·replace hM := M.e_t hM c84z
  simp only [decide_eq_true_eq, decide_eq_false_iff_not, beq_iff_eq, bne_iff_ne, beq_eq_false_iff_ne, bne_eq_false_iff_eq, ne_eq, Decidable.not_not] at c84z
  refine W.skip ?_
  refine W.seq ?_
  refine W.block ?_
  refine W.seq ?_
  refine W.region rfl ?_
  refine s_val (x_fa (a := .pointer (some ⟨b_1, 0, none⟩)) (v := .pointer (some ⟨b_1, 1, none⟩)) rfl (fa_blk (o := 0) Fd26_1 Sz24)) ?_
  refine s_val (x_ld (p := .pointer (some ⟨b_1, 1, none⟩)) (v := v_b_Olds) rfl (ldb_sc Sc24 (H.blk (k := 5) rfl) rfl)) ?_
  refine s_val (x_mv (v := I (i : Int)) rfl) ?_
  obtain ⟨sd85z, hM⟩ := M.e_grd hM
  simp only [Bool.and_eq_true, decide_eq_true_eq] at sd85z
  refine s_val (x_ix (a := v_b_Olds) (b := I (i : Int)) (v := vat v_b_Olds 4 (Int.toNat (i : Int))) rfl rfl (Sl.ix (α := Old10) T24.und T24.size hs_b_Olds (by omega) (by omega))) ?_
  obtain ⟨u86z, ha88z, hs87z⟩ := Old10_atA hs_b_Olds (i := (i : Int)) (by omega) (by omega)
  replace hs87z : Sl _ u86z (b_Olds.getD i default).passed := hs87z
  have hl_hs87z := hs87z.len_le
  refine s_val (x_ld (p := vat v_b_Olds 4 (Int.toNat (i : Int))) (v := .agg #[I ((b_Olds.getD i default).src), I ((b_Olds.getD i default).dst), I ((b_Olds.getD i default).stage), u86z]) rfl (ld_ag Ag43 Sz43 (At.mono ha88z (hC_b_Olds.at H)))) ?_
  refine t_alloc (cs := [I 0, I 0, I 0, .slice none 0 0]) H Al43 rfl ?_
  intro b_5 w89z H
  refine t_st (k := 0) (b := b_5) (off := 0) (cs := [I 0, I 0, I 0, .slice none 0 0]) (vs := [I ((b_Olds.getD i default).src), I ((b_Olds.getD i default).dst), I ((b_Olds.getD i default).stage), u86z]) (cs' := [I ((b_Olds.getD i default).src), I ((b_Olds.getD i default).dst), I ((b_Olds.getD i default).stage), u86z]) (v := .agg #[I ((b_Olds.getD i default).src), I ((b_Olds.getD i default).dst), I ((b_Olds.getD i default).stage), u86z]) (L' := [cBlk b_5 [I ((b_Olds.getD i default).src), I ((b_Olds.getD i default).dst), I ((b_Olds.getD i default).stage), u86z] 43, cOwn (α := Raw 3) 43 v_l rw_l, cRo B_l, cOwn (α := Yr) 41 u0_3 r2, cBlk b_4 [u0_3, v_l, I b_First, I b_Last] 26, cBlk b_2 [.slice none 0 0, .slice none 0 0, I 0, I 0] 26, cBlk b_1 [v_b_Years, v_b_Olds, I b_First, I b_Last] 26]) H rfl rfl rfl Sz43 rfl rfl rfl (by simp only [List.all_cons, List.all_nil, Bool.true_and, Bool.and_true, Sl.oc hs87z]; try rfl) rfl rfl ?_
  intro w90z H
  refine s_nil ?_
  refine W.seq ?_
  refine W.region rfl ?_
  refine s_val (x_fa (a := .pointer (some ⟨b_5, 0, none⟩)) (v := .pointer (some ⟨b_5, 3, none⟩)) rfl (fa_blk (o := 0) Fd43_3 Sz27)) ?_
  refine s_val (x_ld (p := .pointer (some ⟨b_5, 3, none⟩)) (v := u86z) rfl (ldb_sc Sc27 (H.blk (k := 0) rfl) rfl)) ?_
  obtain ⟨r92z, hx91z, hM⟩ := M.e_bind hM
  refine s_call cf31 [u86z] rfl (zbT ((b_Olds.getD i default).passed) (hC_b_Olds.app _) hs87z hx91z _ (St.give (T := [cBlk b_5 [I ((b_Olds.getD i default).src), I ((b_Olds.getD i default).dst), I ((b_Olds.getD i default).stage), u86z] 43, cOwn (α := Raw 3) 43 v_l rw_l, cRo B_l, cOwn (α := Yr) 41 u0_3 r2, cBlk b_4 [u0_3, v_l, I b_First, I b_Last] 26, cBlk b_2 [.slice none 0 0, .slice none 0 0, I 0, I 0] 26, cBlk b_1 [v_b_Years, v_b_Olds, I b_First, I b_Last] 26]) H rfl)) ?_
  rintro vq w93z ⟨r3, u0_6, hr94z, hvq, H2_⟩
  subst hr94z
  subst vq
  try dsimp only at hM
  replace H : St w w93z [cOwn (α := Int) 3 u0_6 r3, cBlk b_5 [I ((b_Olds.getD i default).src), I ((b_Olds.getD i default).dst), I ((b_Olds.getD i default).stage), u86z] 43, cOwn (α := Raw 3) 43 v_l rw_l, cRo B_l, cOwn (α := Yr) 41 u0_3 r2, cBlk b_4 [u0_3, v_l, I b_First, I b_Last] 26, cBlk b_2 [.slice none 0 0, .slice none 0 0, I 0, I 0] 26, cBlk b_1 [v_b_Years, v_b_Olds, I b_First, I b_Last] 26] R := H.back H2_ rfl
  clear H2_
  refine s_val (x_fa (a := .pointer (some ⟨b_5, 0, none⟩)) (v := .pointer (some ⟨b_5, 3, none⟩)) rfl (fa_blk (o := 0) Fd43_3 Sz27)) ?_
  refine t_st (k := 1) (b := b_5) (off := 3) (cs := [I ((b_Olds.getD i default).src), I ((b_Olds.getD i default).dst), I ((b_Olds.getD i default).stage), u86z]) (vs := [u0_6]) (cs' := [I ((b_Olds.getD i default).src), I ((b_Olds.getD i default).dst), I ((b_Olds.getD i default).stage), u0_6]) (v := u0_6) (L' := [cOwn (α := Int) 3 u0_6 r3, cBlk b_5 [I ((b_Olds.getD i default).src), I ((b_Olds.getD i default).dst), I ((b_Olds.getD i default).stage), u0_6] 43, cOwn (α := Raw 3) 43 v_l rw_l, cRo B_l, cOwn (α := Yr) 41 u0_3 r2, cBlk b_4 [u0_3, v_l, I b_First, I b_Last] 26, cBlk b_2 [.slice none 0 0, .slice none 0 0, I 0, I 0] 26, cBlk b_1 [v_b_Years, v_b_Olds, I b_First, I b_Last] 26]) H rfl rfl rfl Sz27 (Sl.cells (ownSl (H.get (k := 0) rfl))) rfl rfl (by simp only [List.all_cons, List.all_nil, Bool.true_and, Bool.and_true, Sl.oc (ownSl (H.get (k := 0) rfl))]; try rfl) rfl rfl ?_
  intro w95z H
  refine s_nil ?_
  refine W.region rfl ?_
  refine s_val (x_fa (a := .pointer (some ⟨b_4, 0, none⟩)) (v := .pointer (some ⟨b_4, 1, none⟩)) rfl (fa_blk (o := 0) Fd26_1 Sz24)) ?_
  refine s_val (x_ld (p := .pointer (some ⟨b_4, 1, none⟩)) (v := v_l) rfl (ldb_sc Sc24 (H.blk (k := 5) rfl) rfl)) ?_
  refine s_val (x_ld (p := .pointer (some ⟨b_5, 0, none⟩)) (v := .agg #[I ((b_Olds.getD i default).src), I ((b_Olds.getD i default).dst), I ((b_Olds.getD i default).stage), u0_6]) rfl (ldb_ag (ds := [I ((b_Olds.getD i default).src), I ((b_Olds.getD i default).dst), I ((b_Olds.getD i default).stage), u0_6]) Ag43 Sz43 (H.blk (k := 1) rfl) rfl rfl)) ?_
  obtain ⟨Bs_7, H⟩ := H.emptyE
  obtain ⟨Bs_8, H, hs97z⟩ := H.freezeE (k := 1) rfl
  replace H : St w w95z [cRo Bs_7, cRo Bs_8, cBlk b_5 [I ((b_Olds.getD i default).src), I ((b_Olds.getD i default).dst), I ((b_Olds.getD i default).stage), u0_6] 43, cOwn (α := Raw 3) 43 v_l rw_l, cRo B_l, cOwn (α := Yr) 41 u0_3 r2, cBlk b_4 [u0_3, v_l, I b_First, I b_Last] 26, cBlk b_2 [.slice none 0 0, .slice none 0 0, I 0, I 0] 26, cBlk b_1 [v_b_Years, v_b_Olds, I b_First, I b_Last] 26] R := H
  have hq96z := hs97z
  obtain ⟨Bs_9, H, le98z, le99z⟩ := H.joinE (i := 0) (j := 1) rfl rfl
  replace hq96z := hq96z.mono le99z
  obtain ⟨rw100z, hrw_rw100z⟩ : ∃ r : Raw 3, r.cs = [I ((b_Olds.getD i default).src), I ((b_Olds.getD i default).dst), I ((b_Olds.getD i default).stage), u0_6] := ⟨Raw.of [I ((b_Olds.getD i default).src), I ((b_Olds.getD i default).dst), I ((b_Olds.getD i default).stage), u0_6] rfl (by simp only [List.all_cons, List.all_nil, Bool.true_and, Bool.and_true, Sl.oc hq96z]; try rfl), rfl⟩
  have hr101z : RepR (α := Old10) Bs_9.cells [rw100z] [(⟨((b_Olds.getD i default).src : Int), ((b_Olds.getD i default).dst : Int), ((b_Olds.getD i default).stage : Int), r3⟩ : Old10)] := .cons (by rw [hrw_rw100z]; exact ⟨_, rfl, hq96z⟩) <| .nil
  refine t_bs (α := Raw 3) T24 [.agg #[I ((b_Olds.getD i default).src), I ((b_Olds.getD i default).dst), I ((b_Olds.getD i default).stage), u0_6]] [rw100z] H rfl (.cons (by rw [show (Flat.enc rw100z : List Value) = rw100z.cs from rfl, hrw_rw100z]; rfl) (Flat.rep_enc _ _) <| .nil) rfl rfl rfl ?_
  intro v102z w103z H
  replace H : St w w103z [cOwn (α := Raw 3) 43 v102z ([rw100z]), cRo Bs_9, cRo Bs_7, cRo Bs_8, cBlk b_5 [I ((b_Olds.getD i default).src), I ((b_Olds.getD i default).dst), I ((b_Olds.getD i default).stage), u0_6] 43, cOwn (α := Raw 3) 43 v_l rw_l, cRo B_l, cOwn (α := Yr) 41 u0_3 r2, cBlk b_4 [u0_3, v_l, I b_First, I b_Last] 26, cBlk b_2 [.slice none 0 0, .slice none 0 0, I 0, I 0] 26, cBlk b_1 [v_b_Years, v_b_Olds, I b_First, I b_Last] 26] R := H
  obtain ⟨sd104z, hM⟩ := M.e_grd hM
  simp only [Bool.and_eq_true, decide_eq_true_eq] at sd104z
  have hr105z := hr101z
  obtain ⟨Bs_13, H, le106z, le107z⟩ := H.joinE (i := 6) (j := 1) rfl rfl
  replace hr_l := hr_l.mono le106z
  replace hr105z := hr105z.mono le107z
  have hr110z := hr_l.app hr105z
  refine t_app (α := Raw 3) (k := 6) (l := rw_l) (l2 := [rw100z]) (l' := rw_l ++ ([rw100z])) (vy := v102z) T24 rfl H rfl rfl rfl (ownSl (H.get (k := 1) rfl)) (ownLe _ (H.get (k := 1) rfl)) (rfl) (by have a_ := hr_l.len; have b_ := hr105z.len; (try simp only [List.length_nil] at *); first | omega | (rw [a_, b_]; omega)) ?_
  intro v108z w109z H
  replace H : St w w109z [cRo Bs_13, cOwn (α := Raw 3) 43 v102z ([rw100z]), cRo Bs_9, cRo Bs_7, cRo Bs_8, cBlk b_5 [I ((b_Olds.getD i default).src), I ((b_Olds.getD i default).dst), I ((b_Olds.getD i default).stage), u0_6] 43, cOwn (α := Raw 3) 43 v108z (rw_l ++ ([rw100z])), cRo B_l, cOwn (α := Yr) 41 u0_3 r2, cBlk b_4 [u0_3, v_l, I b_First, I b_Last] 26, cBlk b_2 [.slice none 0 0, .slice none 0 0, I 0, I 0] 26, cBlk b_1 [v_b_Years, v_b_Olds, I b_First, I b_Last] 26] R := H
  refine s_val (x_fa (a := .pointer (some ⟨b_4, 0, none⟩)) (v := .pointer (some ⟨b_4, 1, none⟩)) rfl (fa_blk (o := 0) Fd26_1 Sz24)) ?_
  refine t_st (k := 9) (b := b_4) (off := 1) (cs := [u0_3, v_l, I b_First, I b_Last]) (vs := [v108z]) (cs' := [u0_3, v108z, I b_First, I b_Last]) (v := v108z) (L' := [cRo Bs_13, cOwn (α := Raw 3) 43 v102z ([rw100z]), cRo Bs_9, cRo Bs_7, cRo Bs_8, cBlk b_5 [I ((b_Olds.getD i default).src), I ((b_Olds.getD i default).dst), I ((b_Olds.getD i default).stage), u0_6] 43, cOwn (α := Raw 3) 43 v108z (rw_l ++ ([rw100z])), cRo B_l, cOwn (α := Yr) 41 u0_3 r2, cBlk b_4 [u0_3, v108z, I b_First, I b_Last] 26, cBlk b_2 [.slice none 0 0, .slice none 0 0, I 0, I 0] 26, cBlk b_1 [v_b_Years, v_b_Olds, I b_First, I b_Last] 26]) H rfl rfl rfl Sz24 (Sl.cells (rowSl rfl (H.get (k := 6) rfl) (roLe _ (H.get (k := 0) rfl)) hr110z)) rfl rfl (by simp only [List.all_cons, List.all_nil, Bool.true_and, Bool.and_true, Sl.oc (rowSl rfl (H.get (k := 6) rfl) (roLe _ (H.get (k := 0) rfl)) hr110z)]; try rfl) rfl rfl ?_
  intro w111z H
  refine s_nil ?_
  refine W.region rfl ?_
  refine s_val (x_mv (v := I (i : Int)) rfl) ?_
  refine s_val (x_ari (a := (i : Int)) (b := 1) (r := (i : Int) + 1) rfl rfl rfl (by omega)) ?_
  refine s_val (x_as (v := I ((i : Int) + 1)) rfl) ?_
  refine s_nil ?_
  exact ⟨m79z, lt80z, i + 1, l ++ ([(⟨((b_Olds.getD i default).src : Int), ((b_Olds.getD i default).dst : Int), ((b_Olds.getD i default).stage : Int), r3⟩ : Old10)]), v108z, rw_l ++ ([rw100z]), Bs_13, _, upds_of _ _ ⟨rfl, rfl, rfl, rfl, trivial⟩, M.e_inl hM hN82z, (H.pick [6, 0, 8, 9, 10, 11] (by decide) rfl), hr110z⟩
 replace hM := M.e_f hM c84z
 simp only [decide_eq_true_eq, decide_eq_false_iff_not, beq_iff_eq, bne_iff_ne, beq_eq_false_iff_ne, bne_eq_false_iff_eq, ne_eq, Decidable.not_not] at c84z
 refine W.exit ?_
 have hX112z := M.e_inr hM hN82z
 subst hX112z
 replace hM := hk75z
 try dsimp only at hM
 refine W.seq ?_
 refine W.region rfl ?_
 refine s_val (x_ld (p := .pointer (some ⟨b_4, 0, none⟩)) (v := .agg #[u0_3, v_l, I b_First, I b_Last]) rfl (ldb_ag (ds := [u0_3, v_l, I b_First, I b_Last]) Ag26 Sz26 (H.blk (k := 3) rfl) rfl rfl)) ?_
 refine t_st (k := 4) (b := b_2) (off := 0) (cs := [.slice none 0 0, .slice none 0 0, I 0, I 0]) (vs := [u0_3, v_l, I b_First, I b_Last]) (cs' := [u0_3, v_l, I b_First, I b_Last]) (v := .agg #[u0_3, v_l, I b_First, I b_Last]) (L' := [cOwn (α := Raw 3) 43 v_l rw_l, cRo B_l, cOwn (α := Yr) 41 u0_3 r2, cBlk b_4 [u0_3, v_l, I b_First, I b_Last] 26, cBlk b_2 [u0_3, v_l, I b_First, I b_Last] 26, cBlk b_1 [v_b_Years, v_b_Olds, I b_First, I b_Last] 26]) H rfl rfl rfl Sz26 rfl rfl rfl (by simp only [List.all_cons, List.all_nil, Bool.true_and, Bool.and_true, Sl.oc (ownSl (H.get (k := 2) rfl)), Sl.oc (rowSl rfl (H.get (k := 0) rfl) (roLe _ (H.get (k := 1) rfl)) hr_l)]; try rfl) rfl rfl ?_
 intro w113z H
 refine s_nil ?_
 refine W.ret ?_
 have hb114z := (H.blk (k := 4) rfl)
 have hr_ := M.e_pure hM
 exact ⟨_, (resE_of1 (v := .agg #[u0_3, v_l, I b_First, I b_Last]) rfl (.cell (v := .agg #[u0_3, v_l, I b_First, I b_Last]) rfl (run_loadVar_ag (ds := [u0_3, v_l, I b_First, I b_Last]) Ag26 Sz26 hb114z rfl rfl) <| .nil)), ⟨r2, l, b_First, b_Last, u0_3, v_l, rw_l, B_l, hr_, rfl, (H.pick [2, 0, 1] (by decide) rfl), hr_l⟩⟩

end Go.Proofs.Ytcgalcbkkijkhaa
end
section
set_option maxRecDepth 100000
set_option maxHeartbeats 16000000
namespace Go.Proofs.Ytcgalcbkkijkhaa
open Go Go.Nm
def zag (b_Years : List Yr) (b_Olds : List Old10) (b_First : Int) (b_Last : Int) (year : Int) : M (Int × Int × Int) :=
  M.bind (zaj b_Years b_Olds b_First b_Last) fun x_ => match x_ with
  | (.inl r1) => (
  bif r1 != 0 then (
  M.pure (0, 0, r1))
  else (
  M.fail))
  | (.inr (r02, r03, r04, r12)) => (
  bif r12 != 0 then (
  M.fail)
  else (
  M.bind (zab year b_First b_Last) fun r2 =>
  bif !r2 then (
  M.pure (0, 0, 2))
  else (
  M.bind (zaD b_Years b_Olds r02 r03 r04) fun (r0, r13) =>
  bif r13 then (
  M.pure (0, 0, 6))
  else (
  M.pure ((((lookM r04 (year : Int)).getD default).lo), (((lookM r04 (year : Int)).getD default).hi), 0)))))
theorem zaw {R : List Chunk} {C_b_Years : Cells} {v_b_Years : Value} {C_b_Olds : Cells} {v_b_Olds : Value} (b_Years : List Yr) (b_Olds : List Old10) (b_First : Int) (b_Last : Int) (year : Int) (hC_b_Years : Reads R C_b_Years) (hs_b_Years : Sl C_b_Years v_b_Years b_Years) (hC_b_Olds : Reads R C_b_Olds) (hs_b_Olds : Sl C_b_Olds v_b_Olds b_Olds) {r : (Int × Int × Int)} (hM : (zag b_Years b_Olds b_First b_Last year).Ends r) (w : World) (H : St w w [] R) : Ret Try.prog 20 #[.agg #[v_b_Years, v_b_Olds, I b_First, I b_Last], I year] w fun v w' => ∃ (y0 : Int) (y1 : Int) (y2 : Int), (y0, y1, y2) = r /\ v = .tuple #[.agg #[I y0, I y1], I y2] /\ St w w' [] R := by
 refine ret_of_W Try.func20 rfl rfl rfl ?_
 refine W.seq ?_
 refine W.region rfl ?_
 refine t_box (v := .agg #[v_b_Years, v_b_Olds, I b_First, I b_Last]) (cs := [v_b_Years, v_b_Olds, I b_First, I b_Last]) H rfl rfl ?_
 intro b_1 w1z H
 refine t_alloc (cs := [I 0, I 0]) H Al35 rfl ?_
 intro b_2 w2z H
 refine s_val (x_as (v := I 0) rfl) ?_
 refine s_nil ?_
 refine W.seq ?_
 refine W.region rfl ?_
 refine s_val (x_ld (p := .pointer (some ⟨b_1, 0, none⟩)) (v := .agg #[v_b_Years, v_b_Olds, I b_First, I b_Last]) rfl (ldb_ag (ds := [v_b_Years, v_b_Olds, I b_First, I b_Last]) Ag26 Sz26 (H.blk (k := 1) rfl) rfl rfl)) ?_
 obtain ⟨r4z, hx3z, hM⟩ := M.e_bind hM
 refine s_call cf62 [.agg #[v_b_Years, v_b_Olds, I b_First, I b_Last]] rfl (zce b_Years b_Olds b_First b_Last (hC_b_Years.app _) hs_b_Years (hC_b_Olds.app _) hs_b_Olds hx3z _ (St.give (T := [cBlk b_2 [I 0, I 0] 35, cBlk b_1 [v_b_Years, v_b_Olds, I b_First, I b_Last] 26]) H rfl)) ?_
 rintro vq w5z (⟨r1, hr6z, hvq, H2_⟩ | ⟨r02, r03, r04, r12, nb0_3, nb1_4, hr7z, hvq, H2_⟩)
 ·subst hr6z
  subst vq
  try dsimp only at hM
  replace H : St w w5z [cBlk b_2 [I 0, I 0] 35, cBlk b_1 [v_b_Years, v_b_Olds, I b_First, I b_Last] 26] R := H.back H2_ rfl
  clear H2_
  refine s_val (x_mv (v := .tuple #[.pointer none, I r1]) rfl) ?_
  refine s_val (x_ext (vs := [.pointer none, I r1]) (v := .pointer none) rfl rfl) ?_
  refine s_val (x_ext (vs := [.pointer none, I r1]) (v := I r1) rfl rfl) ?_
  refine s_val (x_as (v := .pointer none) rfl) ?_
  refine s_val (x_as (v := I r1) rfl) ?_
  refine s_nil ?_
  refine W.seq ?_
  refine W.block ?_
  refine W.seq ?_
  refine W.region rfl ?_
  refine s_val (x_mv (v := I r1) rfl) ?_
  refine s_val (x_cmp (kd := .i64) (a := r1) (b := 0) (r := r1 != 0) rfl rfl rfl) ?_
  refine s_val (x_as (v := B (r1 != 0)) rfl) ?_
  refine s_nil ?_
  refine W.cond (r1 != 0) rfl (fun c8z => ?_) (fun c8z => ?_)
  ·replace hM := M.e_t hM c8z
   simp only [decide_eq_true_eq, decide_eq_false_iff_not, beq_iff_eq, bne_iff_ne, beq_eq_false_iff_ne, bne_eq_false_iff_eq, ne_eq, Decidable.not_not] at c8z
   refine W.seq ?_
   refine W.region rfl ?_
   refine s_val (x_bld (ps := []) (zs := [I 0, I 0]) (L' := [I 0, I 0]) rfl Try.underlying35 Al35 rfl (Bd35 Try.underlying35) (.nil)) ?_
   refine s_val (x_mv (v := I r1) rfl) ?_
   refine t_st (k := 0) (b := b_2) (off := 0) (cs := [I 0, I 0]) (vs := [I 0, I 0]) (cs' := [I 0, I 0]) (v := .agg #[I 0, I 0]) (L' := [cBlk b_2 [I 0, I 0] 35, cBlk b_1 [v_b_Years, v_b_Olds, I b_First, I b_Last] 26]) H rfl rfl rfl Sz35 rfl rfl rfl rfl rfl rfl ?_
   intro w9z H
   refine s_val (x_as (v := I r1) rfl) ?_
   refine s_nil ?_
   refine W.ret ?_
   have hb10z := (H.blk (k := 0) rfl)
   have hr_ := M.e_pure hM
   exact ⟨_, (resE_ofn (vs := [.agg #[I 0, I 0], I r1]) rfl rfl (.cell (v := .agg #[I 0, I 0]) rfl (run_loadVar_ag (ds := [I 0, I 0]) Ag35 Sz35 hb10z rfl rfl) <| .tmp (v := I r1) rfl <| .nil)), ⟨0, 0, r1, hr_, rfl, (H.pick [] (by decide) rfl)⟩⟩
  replace hM := M.e_f hM c8z
  exact (M.e_fail hM).elim
 subst hr7z
 subst vq
 try dsimp only at hM
 replace H : St w w5z [cBlk nb0_3 [v_b_Years, v_b_Olds, I r02, I r03, .map (some nb1_4)] 126, cMl I encSp nb1_4 r04, cBlk b_2 [I 0, I 0] 35, cBlk b_1 [v_b_Years, v_b_Olds, I b_First, I b_Last] 26] R := H.back H2_ rfl
 clear H2_
 refine s_val (x_mv (v := .tuple #[.pointer (some ⟨nb0_3, 0, none⟩), I r12]) rfl) ?_
 refine s_val (x_ext (vs := [.pointer (some ⟨nb0_3, 0, none⟩), I r12]) (v := .pointer (some ⟨nb0_3, 0, none⟩)) rfl rfl) ?_
 refine s_val (x_ext (vs := [.pointer (some ⟨nb0_3, 0, none⟩), I r12]) (v := I r12) rfl rfl) ?_
 refine s_val (x_as (v := .pointer (some ⟨nb0_3, 0, none⟩)) rfl) ?_
 refine s_val (x_as (v := I r12) rfl) ?_
 refine s_nil ?_
 refine W.seq ?_
 refine W.block ?_
 refine W.seq ?_
 refine W.region rfl ?_
 refine s_val (x_mv (v := I r12) rfl) ?_
 refine s_val (x_cmp (kd := .i64) (a := r12) (b := 0) (r := r12 != 0) rfl rfl rfl) ?_
 refine s_val (x_as (v := B (r12 != 0)) rfl) ?_
 refine s_nil ?_
 refine W.cond (r12 != 0) rfl (fun c11z => ?_) (fun c11z => ?_)
 ·replace hM := M.e_t hM c11z
  exact (M.e_fail hM).elim
 replace hM := M.e_f hM c11z
 simp only [decide_eq_true_eq, decide_eq_false_iff_not, beq_iff_eq, bne_iff_ne, beq_eq_false_iff_ne, bne_eq_false_iff_eq, ne_eq, Decidable.not_not] at c11z
 refine W.seq ?_
 refine W.region rfl ?_
 refine s_val (x_mv (v := I year) rfl) ?_
 refine s_val (x_fa (a := .pointer (some ⟨b_1, 0, none⟩)) (v := .pointer (some ⟨b_1, 2, none⟩)) rfl (fa_blk (o := 0) Fd26_2 Sz3)) ?_
 refine s_val (x_ld (p := .pointer (some ⟨b_1, 2, none⟩)) (v := I b_First) rfl (ldb_sc Sc3 (H.blk (k := 3) rfl) rfl)) ?_
 refine s_val (x_fa (a := .pointer (some ⟨b_1, 0, none⟩)) (v := .pointer (some ⟨b_1, 3, none⟩)) rfl (fa_blk (o := 0) Fd26_3 Sz3)) ?_
 refine s_val (x_ld (p := .pointer (some ⟨b_1, 3, none⟩)) (v := I b_Last) rfl (ldb_sc Sc3 (H.blk (k := 3) rfl) rfl)) ?_
 obtain ⟨r13z, hx12z, hM⟩ := M.e_bind hM
 refine s_call cf63 [I year, I b_First, I b_Last] rfl (zac year b_First b_Last hx12z _ (St.give (T := [cBlk nb0_3 [v_b_Years, v_b_Olds, I r02, I r03, .map (some nb1_4)] 126, cMl I encSp nb1_4 r04, cBlk b_2 [I 0, I 0] 35, cBlk b_1 [v_b_Years, v_b_Olds, I b_First, I b_Last] 26]) H rfl)) ?_
 rintro vq w14z ⟨r2, hr15z, hvq, H2_⟩
 subst hr15z
 subst vq
 try dsimp only at hM
 replace H : St w w14z [cBlk nb0_3 [v_b_Years, v_b_Olds, I r02, I r03, .map (some nb1_4)] 126, cMl I encSp nb1_4 r04, cBlk b_2 [I 0, I 0] 35, cBlk b_1 [v_b_Years, v_b_Olds, I b_First, I b_Last] 26] R := H.back H2_ rfl
 clear H2_
 refine s_val (x_not (b := r2) rfl) ?_
 refine s_val (x_as (v := B (!r2)) rfl) ?_
 refine s_nil ?_
 refine W.cond (!r2) rfl (fun c16z => ?_) (fun c16z => ?_)
 ·replace hM := M.e_t hM c16z
  refine W.seq ?_
  refine W.region rfl ?_
  refine s_val (x_bld (ps := []) (zs := [I 0, I 0]) (L' := [I 0, I 0]) rfl Try.underlying35 Al35 rfl (Bd35 Try.underlying35) (.nil)) ?_
  refine t_st (k := 2) (b := b_2) (off := 0) (cs := [I 0, I 0]) (vs := [I 0, I 0]) (cs' := [I 0, I 0]) (v := .agg #[I 0, I 0]) (L' := [cBlk nb0_3 [v_b_Years, v_b_Olds, I r02, I r03, .map (some nb1_4)] 126, cMl I encSp nb1_4 r04, cBlk b_2 [I 0, I 0] 35, cBlk b_1 [v_b_Years, v_b_Olds, I b_First, I b_Last] 26]) H rfl rfl rfl Sz35 rfl rfl rfl rfl rfl rfl ?_
  intro w17z H
  refine s_val (x_as (v := I 2) rfl) ?_
  refine s_nil ?_
  refine W.ret ?_
  have hb18z := (H.blk (k := 2) rfl)
  have hr_ := M.e_pure hM
  exact ⟨_, (resE_ofn (vs := [.agg #[I 0, I 0], I 2]) rfl rfl (.cell (v := .agg #[I 0, I 0]) rfl (run_loadVar_ag (ds := [I 0, I 0]) Ag35 Sz35 hb18z rfl rfl) <| .tmp (v := I 2) rfl <| .nil)), ⟨0, 0, 2, hr_, rfl, (H.pick [] (by decide) rfl)⟩⟩
 replace hM := M.e_f hM c16z
 refine W.skip ?_
 refine W.seq ?_
 refine W.seq ?_
 refine W.region rfl ?_
 refine s_val (x_mv (v := .pointer (some ⟨nb0_3, 0, none⟩)) rfl) ?_
 obtain ⟨r20z, hx19z, hM⟩ := M.e_bind hM
 refine s_call cf64 [.pointer (some ⟨nb0_3, 0, none⟩)] rfl (zb2 b_Years b_Olds r02 r03 r04 (hC_b_Years.app _) hs_b_Years (hC_b_Olds.app _) hs_b_Olds (Has.here (k := 1) rfl) (Has.here (k := 0) rfl) hx19z _ (St.give (T := [cBlk nb0_3 [v_b_Years, v_b_Olds, I r02, I r03, .map (some nb1_4)] 126, cMl I encSp nb1_4 r04, cBlk b_2 [I 0, I 0] 35, cBlk b_1 [v_b_Years, v_b_Olds, I b_First, I b_Last] 26]) H rfl)) ?_
 rintro vq w21z ⟨r0, r13, hr22z, hvq, H2_⟩
 subst hr22z
 subst vq
 try dsimp only at hM
 replace H : St w w21z [cBlk nb0_3 [v_b_Years, v_b_Olds, I r02, I r03, .map (some nb1_4)] 126, cMl I encSp nb1_4 r04, cBlk b_2 [I 0, I 0] 35, cBlk b_1 [v_b_Years, v_b_Olds, I b_First, I b_Last] 26] R := H.back H2_ rfl
 clear H2_
 refine s_val (x_mv (v := .tuple #[I r0, B r13]) rfl) ?_
 refine s_val (x_ext (vs := [I r0, B r13]) (v := I r0) rfl rfl) ?_
 refine s_val (x_ext (vs := [I r0, B r13]) (v := B r13) rfl rfl) ?_
 refine s_val (x_as (v := I r0) rfl) ?_
 refine s_val (x_as (v := B r13) rfl) ?_
 refine s_nil ?_
 refine W.seq ?_
 refine W.region rfl ?_
 refine s_val (x_mv (v := B r13) rfl) ?_
 refine s_nil ?_
 refine W.cond r13 rfl (fun c23z => ?_) (fun c23z => ?_)
 ·replace hM := M.e_t hM c23z
  refine W.seq ?_
  refine W.region rfl ?_
  refine s_val (x_bld (ps := []) (zs := [I 0, I 0]) (L' := [I 0, I 0]) rfl Try.underlying35 Al35 rfl (Bd35 Try.underlying35) (.nil)) ?_
  refine t_st (k := 2) (b := b_2) (off := 0) (cs := [I 0, I 0]) (vs := [I 0, I 0]) (cs' := [I 0, I 0]) (v := .agg #[I 0, I 0]) (L' := [cBlk nb0_3 [v_b_Years, v_b_Olds, I r02, I r03, .map (some nb1_4)] 126, cMl I encSp nb1_4 r04, cBlk b_2 [I 0, I 0] 35, cBlk b_1 [v_b_Years, v_b_Olds, I b_First, I b_Last] 26]) H rfl rfl rfl Sz35 rfl rfl rfl rfl rfl rfl ?_
  intro w24z H
  refine s_val (x_as (v := I 6) rfl) ?_
  refine s_nil ?_
  refine W.ret ?_
  have hb25z := (H.blk (k := 2) rfl)
  have hr_ := M.e_pure hM
  exact ⟨_, (resE_ofn (vs := [.agg #[I 0, I 0], I 6]) rfl rfl (.cell (v := .agg #[I 0, I 0]) rfl (run_loadVar_ag (ds := [I 0, I 0]) Ag35 Sz35 hb25z rfl rfl) <| .tmp (v := I 6) rfl <| .nil)), ⟨0, 0, 6, hr_, rfl, (H.pick [] (by decide) rfl)⟩⟩
 replace hM := M.e_f hM c23z
 refine W.skip ?_
 refine W.seq ?_
 refine W.region rfl ?_
 refine s_val (x_mv (v := .pointer (some ⟨nb0_3, 0, none⟩)) rfl) ?_
 refine s_val (x_nc (a := ⟨nb0_3, 0, none⟩) rfl) ?_
 refine s_val (x_fa (a := .pointer (some ⟨nb0_3, 0, none⟩)) (v := .pointer (some ⟨nb0_3, 4, none⟩)) rfl (fa_blk (o := 0) Fd126_1 Sz124)) ?_
 refine s_val (x_ld (p := .pointer (some ⟨nb0_3, 4, none⟩)) (v := .map (some nb1_4)) rfl (ldb_sc Sc124 (H.blk (k := 0) rfl) rfl)) ?_
 refine s_val (x_mv (v := I year) rfl) ?_
 refine s_val (q_look (kenc := I) (venc := encSp) (f := lookM r04) (k := (year : Int)) (v := .agg #[I (((lookM r04 (year : Int)).getD default).lo), I (((lookM r04 (year : Int)).getD default).hi)]) keyIntSp Try.underlying124 Al35 rfl rfl (mlMap (H.get (k := 1) rfl)) false (by rw [if_neg (by decide), span_val])) ?_
 refine t_st (k := 2) (b := b_2) (off := 0) (cs := [I 0, I 0]) (vs := [I (((lookM r04 (year : Int)).getD default).lo), I (((lookM r04 (year : Int)).getD default).hi)]) (cs' := [I (((lookM r04 (year : Int)).getD default).lo), I (((lookM r04 (year : Int)).getD default).hi)]) (v := .agg #[I (((lookM r04 (year : Int)).getD default).lo), I (((lookM r04 (year : Int)).getD default).hi)]) (L' := [cBlk nb0_3 [v_b_Years, v_b_Olds, I r02, I r03, .map (some nb1_4)] 126, cMl I encSp nb1_4 r04, cBlk b_2 [I (((lookM r04 (year : Int)).getD default).lo), I (((lookM r04 (year : Int)).getD default).hi)] 35, cBlk b_1 [v_b_Years, v_b_Olds, I b_First, I b_Last] 26]) H rfl rfl rfl Sz35 rfl rfl rfl rfl rfl rfl ?_
 intro w26z H
 refine s_val (x_as (v := I 0) rfl) ?_
 refine s_nil ?_
 refine W.ret ?_
 have hb27z := (H.blk (k := 2) rfl)
 have hr_ := M.e_pure hM
 exact ⟨_, (resE_ofn (vs := [.agg #[I (((lookM r04 (year : Int)).getD default).lo), I (((lookM r04 (year : Int)).getD default).hi)], I 0]) rfl rfl (.cell (v := .agg #[I (((lookM r04 (year : Int)).getD default).lo), I (((lookM r04 (year : Int)).getD default).hi)]) rfl (run_loadVar_ag (ds := [I (((lookM r04 (year : Int)).getD default).lo), I (((lookM r04 (year : Int)).getD default).hi)]) Ag35 Sz35 hb27z rfl rfl) <| .tmp (v := I 0) rfl <| .nil)), ⟨(((lookM r04 (year : Int)).getD default).lo), (((lookM r04 (year : Int)).getD default).hi), 0, hr_, rfl, (H.pick [] (by decide) rfl)⟩⟩

end Go.Proofs.Ytcgalcbkkijkhaa
end
section
set_option maxRecDepth 100000
set_option maxHeartbeats 16000000
namespace Go.Proofs.Ytcgalcbkkijkhaa
open Go Go.Nm
end Go.Proofs.Ytcgalcbkkijkhaa
end
